/- Functions of the program as plain Lean functions, each with a proof that its call does what that function says. Printed by a program over the kit's print; conditions stand in each contract. -/
import Derived.Test.YtbmjakaoniegfaaDoorSq
import Derived.Test.YtbmjakaoniegfaaDoorBnd4
import Derived.Test.YtbmjakaoniegfaaDoorX0
import Derived.Test.YtbmjakaoniegfaaDoorX1
import Derived.Test.YtbmjakaoniegfaaDoorX2
namespace Go.Proofs.YtbmjakaoniegfaaDoor.X
open Go.RowKit Go.Proofs.YtbmjakaoniegfaaDoorW.PrintWords Go.Proofs.YtbmjakaoniegfaaDoorW.PrintLast Go.Proofs.YtbmjakaoniegfaaDoorW.PrintMore Go.Proofs.YtbmjakaoniegfaaDoor.Sq
attribute [local go_sem] max2_int min2_int max_two min_two max_three min_three max_four min_four   -- for this text's walks alone
set_option linter.unusedVariables false
set_option linter.unusedSimpArgs false

/-! ### laws_FnExactMultiplyWholes: function 7 -/
mutual
def laws_FnExactMultiplyWholes.j0 : Nat → Int → Int → Bool → Int → List Int → Int → List Int → Int → List Int → Int → List Int → Int → List Int → Int → List Int → Option (Bool)
  | 0, _, _, _, _, _, _, _, _, _, _, _, _, _, _, _ => none
  | k + 1, x7, x11, x53, x183000, x183001, x184000, x184001, x200000, x200001, x205000, x205001, x210000, x210001, x216000, x216001 => if x53 = true then (some false) else ((laws_toWhole.f k x183000 x183001).bind fun bt217 => ((laws_eqWhole.f k x205000 x205001 bt217.1 bt217.2).bind fun t221 => (if t221 = true then ((laws_toWhole.f k x184000 x184001).bind fun bt222 => ((laws_eqWhole.f k x210000 x210001 bt222.1 bt222.2).bind fun t226 => (if t226 = true then ((laws_markWhole.f k x205000 x205001 1).bind fun bt227 => ((laws_markWhole.f k x210000 x210001 bt227.1).bind fun bt229 => (if bt229.1 < 0 then (laws_FnExactMultiplyWholes.j1 k x7 true x183000 x183001 x184000 x184001 x200000 x200001 x216000 x216001) else ((laws_eqWhole.f k x216000 x216001 x200000 x200001).bind fun t231 => (if t231 = true then (laws_FnExactMultiplyWholes.j1 k x7 (x11 != x7) x183000 x183001 x184000 x184001 x200000 x200001 x216000 x216001) else (laws_FnExactMultiplyWholes.j1 k x7 true x183000 x183001 x184000 x184001 x200000 x200001 x216000 x216001)))))) else (some false)))) else (some false))))
def laws_FnExactMultiplyWholes.j1 : Nat → Int → Bool → Int → List Int → Int → List Int → Int → List Int → Int → List Int → Option (Bool)
  | 0, _, _, _, _, _, _, _, _, _, _ => none
  | k + 1, x7, x82, x183000, x183001, x184000, x184001, x200000, x200001, x216000, x216001 => if x82 = true then (some false) else ((laws_markWhole.f k x216000 x216001 1).bind fun bt232 => ((laws_heldWhole.f k x216000 bt232.2 1).bind fun t234 => (if t234 < 0 then (some false) else (if t234 = bt232.1 then ((laws_toWhole.f k x183000 x183001).bind fun bt235 => ((laws_toWhole.f k x184000 x184001).bind fun bt239 => ((impl_MultiplyWholes.f bt235.1 bt235.2 bt239.1 bt239.2).bind fun bt243 => ((laws_eqWhole.f k bt243.1 bt243.2.1 x200000 x200001).bind fun t249 => (if t249 = true then (laws_FnExactMultiplyWholes.j2 k bt232.1 (bt243.2.2 != x7) x216000 bt232.2) else (laws_FnExactMultiplyWholes.j2 k bt232.1 true x216000 bt232.2)))))) else (some false)))))
def laws_FnExactMultiplyWholes.j2 : Nat → Int → Bool → Int → List Int → Option (Bool)
  | 0, _, _, _, _ => none
  | k + 1, x13, x110, x216000, x216001 => if x110 = true then (some false) else ((laws_heldWhole.f k x216000 x216001 1).bind fun t250 => (if t250 < 0 then (some false) else (if t250 = x13 then (some true) else (some false))))
end
def laws_FnExactMultiplyWholes.f (k : Nat) (a0_0 : Int) (l0_1 : List Int) (a1_0 : Int) (l1_1 : List Int) : Option (Bool) := (laws_szWhole.f a0_0 l0_1 1048576).bind fun t184 => (if t184 < 0 then (some true) else ((laws_szWhole.f a1_0 l1_1 t184).bind fun t185 => (if t185 < 0 then (some true) else ((laws_toWhole.f k a0_0 l0_1).bind fun bt186 => ((laws_toWhole.f k a1_0 l1_1).bind fun bt190 => ((spec_MultiplyWholes.f k bt186.1 bt186.2 bt190.1 bt190.2).bind fun bt194 => ((laws_toWhole.f k a0_0 l0_1).bind fun bt200 => ((laws_toWhole.f k a1_0 l1_1).bind fun bt205 => ((impl_MultiplyWholes.f bt200.1 bt200.2 bt205.1 bt205.2).bind fun bt210 => ((laws_eqWhole.f k bt210.1 bt210.2.1 bt194.1 bt194.2.1).bind fun t216 => (if t216 = true then (laws_FnExactMultiplyWholes.j0 k bt194.2.2 bt210.2.2 (bt210.2.2 != bt194.2.2) a0_0 l0_1 a1_0 l1_1 bt194.1 bt194.2.1 bt200.1 bt200.2 bt205.1 bt205.2 bt210.1 bt210.2.1) else (laws_FnExactMultiplyWholes.j0 k bt194.2.2 bt210.2.2 true a0_0 l0_1 a1_0 l1_1 bt194.1 bt194.2.1 bt200.1 bt200.2 bt205.1 bt205.2 bt210.1 bt210.2.1))))))))))))
theorem laws_FnExactMultiplyWholes.mono_l : ∀ k, (∀ y0 y1 y2 y3 y4 y5 y6 y7 y8 y9 y10 y11 y12 y13 y14, LeO (laws_FnExactMultiplyWholes.j0 k y0 y1 y2 y3 y4 y5 y6 y7 y8 y9 y10 y11 y12 y13 y14) (laws_FnExactMultiplyWholes.j0 (k + 1) y0 y1 y2 y3 y4 y5 y6 y7 y8 y9 y10 y11 y12 y13 y14)) ∧ (∀ y0 y1 y2 y3 y4 y5 y6 y7 y8 y9, LeO (laws_FnExactMultiplyWholes.j1 k y0 y1 y2 y3 y4 y5 y6 y7 y8 y9) (laws_FnExactMultiplyWholes.j1 (k + 1) y0 y1 y2 y3 y4 y5 y6 y7 y8 y9)) ∧ (∀ y0 y1 y2 y3, LeO (laws_FnExactMultiplyWholes.j2 k y0 y1 y2 y3) (laws_FnExactMultiplyWholes.j2 (k + 1) y0 y1 y2 y3))
  | 0 => ⟨fun _ _ _ _ _ _ _ _ _ _ _ _ _ _ _ r h => by simp [laws_FnExactMultiplyWholes.j0] at h, fun _ _ _ _ _ _ _ _ _ _ r h => by simp [laws_FnExactMultiplyWholes.j1] at h, fun _ _ _ _ r h => by simp [laws_FnExactMultiplyWholes.j2] at h⟩
  | k + 1 => by
    obtain ⟨ih0, ih1, ih2⟩ := laws_FnExactMultiplyWholes.mono_l k
    refine ⟨?_, ?_, ?_⟩
    · intro y0 y1 y2 y3 y4 y5 y6 y7 y8 y9 y10 y11 y12 y13 y14
      unfold laws_FnExactMultiplyWholes.j0
      repeat' first
      | (with_reducible exact ih0 _ _ _ _ _ _ _ _ _ _ _ _ _ _ _)
      | (with_reducible exact ih1 _ _ _ _ _ _ _ _ _ _)
      | (with_reducible exact ih2 _ _ _ _)
      | (with_reducible exact laws_eqWhole.mono _ _ _ _ _)
      | (with_reducible exact laws_heldWhole.mono _ _ _ _)
      | (with_reducible exact laws_markWhole.mono _ _ _ _)
      | (with_reducible exact laws_toWhole.mono _ _ _)
      | (with_reducible exact spec_MultiplyWholes.mono _ _ _ _ _)
      | (with_reducible exact LeO.refl _)
      | (with_reducible exact LeO.none _)
      | (with_reducible refine LeO.ite ?_ ?_)
      | (with_reducible refine LeO.bind ?_ (fun _ => ?_))
      | exact ih0 _ _ _ _ _ _ _ _ _ _ _ _ _ _ _
      | exact ih1 _ _ _ _ _ _ _ _ _ _
      | exact ih2 _ _ _ _
      | exact laws_eqWhole.mono _ _ _ _ _
      | exact laws_heldWhole.mono _ _ _ _
      | exact laws_markWhole.mono _ _ _ _
      | exact laws_toWhole.mono _ _ _
      | exact spec_MultiplyWholes.mono _ _ _ _ _
      | exact LeO.none _
      | refine LeO.ite ?_ ?_
      | refine LeO.bind ?_ (fun _ => ?_)
    · intro y0 y1 y2 y3 y4 y5 y6 y7 y8 y9
      unfold laws_FnExactMultiplyWholes.j1
      repeat' first
      | (with_reducible exact ih0 _ _ _ _ _ _ _ _ _ _ _ _ _ _ _)
      | (with_reducible exact ih1 _ _ _ _ _ _ _ _ _ _)
      | (with_reducible exact ih2 _ _ _ _)
      | (with_reducible exact laws_eqWhole.mono _ _ _ _ _)
      | (with_reducible exact laws_heldWhole.mono _ _ _ _)
      | (with_reducible exact laws_markWhole.mono _ _ _ _)
      | (with_reducible exact laws_toWhole.mono _ _ _)
      | (with_reducible exact spec_MultiplyWholes.mono _ _ _ _ _)
      | (with_reducible exact LeO.refl _)
      | (with_reducible exact LeO.none _)
      | (with_reducible refine LeO.ite ?_ ?_)
      | (with_reducible refine LeO.bind ?_ (fun _ => ?_))
      | exact ih0 _ _ _ _ _ _ _ _ _ _ _ _ _ _ _
      | exact ih1 _ _ _ _ _ _ _ _ _ _
      | exact ih2 _ _ _ _
      | exact laws_eqWhole.mono _ _ _ _ _
      | exact laws_heldWhole.mono _ _ _ _
      | exact laws_markWhole.mono _ _ _ _
      | exact laws_toWhole.mono _ _ _
      | exact spec_MultiplyWholes.mono _ _ _ _ _
      | exact LeO.none _
      | refine LeO.ite ?_ ?_
      | refine LeO.bind ?_ (fun _ => ?_)
    · intro y0 y1 y2 y3
      unfold laws_FnExactMultiplyWholes.j2
      repeat' first
      | (with_reducible exact ih0 _ _ _ _ _ _ _ _ _ _ _ _ _ _ _)
      | (with_reducible exact ih1 _ _ _ _ _ _ _ _ _ _)
      | (with_reducible exact ih2 _ _ _ _)
      | (with_reducible exact laws_eqWhole.mono _ _ _ _ _)
      | (with_reducible exact laws_heldWhole.mono _ _ _ _)
      | (with_reducible exact laws_markWhole.mono _ _ _ _)
      | (with_reducible exact laws_toWhole.mono _ _ _)
      | (with_reducible exact spec_MultiplyWholes.mono _ _ _ _ _)
      | (with_reducible exact LeO.refl _)
      | (with_reducible exact LeO.none _)
      | (with_reducible refine LeO.ite ?_ ?_)
      | (with_reducible refine LeO.bind ?_ (fun _ => ?_))
      | exact ih0 _ _ _ _ _ _ _ _ _ _ _ _ _ _ _
      | exact ih1 _ _ _ _ _ _ _ _ _ _
      | exact ih2 _ _ _ _
      | exact laws_eqWhole.mono _ _ _ _ _
      | exact laws_heldWhole.mono _ _ _ _
      | exact laws_markWhole.mono _ _ _ _
      | exact laws_toWhole.mono _ _ _
      | exact spec_MultiplyWholes.mono _ _ _ _ _
      | exact LeO.none _
      | refine LeO.ite ?_ ?_
      | refine LeO.bind ?_ (fun _ => ?_)
theorem laws_FnExactMultiplyWholes.mono : ∀ a0 a1 a2 a3 k, LeO (laws_FnExactMultiplyWholes.f k a0 a1 a2 a3) (laws_FnExactMultiplyWholes.f (k + 1) a0 a1 a2 a3) := by
  intro a0 a1 a2 a3 k
  obtain ⟨ih0, ih1, ih2⟩ := laws_FnExactMultiplyWholes.mono_l k
  unfold laws_FnExactMultiplyWholes.f
  repeat' first
      | (with_reducible exact ih0 _ _ _ _ _ _ _ _ _ _ _ _ _ _ _)
      | (with_reducible exact ih1 _ _ _ _ _ _ _ _ _ _)
      | (with_reducible exact ih2 _ _ _ _)
      | (with_reducible exact laws_eqWhole.mono _ _ _ _ _)
      | (with_reducible exact laws_heldWhole.mono _ _ _ _)
      | (with_reducible exact laws_markWhole.mono _ _ _ _)
      | (with_reducible exact laws_toWhole.mono _ _ _)
      | (with_reducible exact spec_MultiplyWholes.mono _ _ _ _ _)
      | (with_reducible exact LeO.refl _)
      | (with_reducible exact LeO.none _)
      | (with_reducible refine LeO.ite ?_ ?_)
      | (with_reducible refine LeO.bind ?_ (fun _ => ?_))
      | exact ih0 _ _ _ _ _ _ _ _ _ _ _ _ _ _ _
      | exact ih1 _ _ _ _ _ _ _ _ _ _
      | exact ih2 _ _ _ _
      | exact laws_eqWhole.mono _ _ _ _ _
      | exact laws_heldWhole.mono _ _ _ _
      | exact laws_markWhole.mono _ _ _ _
      | exact laws_toWhole.mono _ _ _
      | exact spec_MultiplyWholes.mono _ _ _ _ _
      | exact LeO.none _
      | refine LeO.ite ?_ ?_
      | refine LeO.bind ?_ (fun _ => ?_)
def laws_FnExactMultiplyWholes.T8 : Bool × List (List Nat × List Nat) := (true, [([], []), ([0], [0]), ([], []), ([2, 1], [2]), ([1, 3, 3], [1, 3]), ([4], [4]), ([5], [5]), ([5], [5]), ([], []), ([8, 6, 4, 0, 1, 2, 3, 4, 5, 6, 8], [6, 8]), ([7, 9, 0, 1, 2, 3, 4, 5, 6, 7, 8, 9], [7])])
def laws_FnExactMultiplyWholes.B8 : List Nat := [0, 1, 0, 7, 15, 31, 63, 63, 0, 383, 1023]
theorem laws_FnExactMultiplyWholes.tab8 : rtab .any (opsOf Tryd.f7 8) = laws_FnExactMultiplyWholes.T8 := by kernel_rfl
theorem laws_FnExactMultiplyWholes.bits8 : waitsOk laws_FnExactMultiplyWholes.T8.2 laws_FnExactMultiplyWholes.B8 = true := by kernel_rfl
def laws_FnExactMultiplyWholes.T31 : Bool × List (List Nat × List Nat) := (true, [([], []), ([0], [0]), ([], []), ([2, 1], [2]), ([1, 3, 3], [1, 3]), ([4], [4]), ([5], [5]), ([5], [5]), ([], []), ([8, 6, 4, 0, 1, 2, 3, 4, 5, 6, 8], [6, 8]), ([7, 9, 0, 1, 2, 3, 4, 5, 6, 7, 8, 9], [7])])
def laws_FnExactMultiplyWholes.B31 : List Nat := [0, 1, 0, 7, 15, 31, 63, 63, 0, 383, 1023]
theorem laws_FnExactMultiplyWholes.tab31 : rtab .any (opsOf Tryd.f7 31) = laws_FnExactMultiplyWholes.T31 := by kernel_rfl
theorem laws_FnExactMultiplyWholes.bits31 : waitsOk laws_FnExactMultiplyWholes.T31.2 laws_FnExactMultiplyWholes.B31 = true := by kernel_rfl
set_option maxHeartbeats 8000000 in
set_option maxRecDepth 100000 in
theorem laws_FnExactMultiplyWholes.calls (k : Nat) (a0_0 : Int) (A0_1 : Option Addr) (c0_1 : Nat) (l0_1 : List Int) (a1_0 : Int) (A1_1 : Option Addr) (c1_1 : Nat) (l1_1 : List Int) (r : Bool) (w : World) (hr0_1 : Kd.C (Kd.int .i64) w A0_1 l0_1.length l0_1) (hc0_1 : l0_1.length ≤ c0_1) (hr1_1 : Kd.C (Kd.int .i64) w A1_1 l1_1.length l1_1) (hc1_1 : l1_1.length ≤ c1_1) (h : laws_FnExactMultiplyWholes.f k a0_0 l0_1 a1_0 l1_1 = some r) :
  Calls Tryd.prog 7 #[.agg #[.int .i64 a0_0, .slice A0_1 l0_1.length c0_1], .agg #[.int .i64 a1_0, .slice A1_1 l1_1.length c1_1]] w fun e w' => e = .returned (.bool r) ∧ Below w.heap.size w w' := by
 have hu24 := Tryd.underlying24; have hu28 := Tryd.underlying28; have HR0_1 := Aside0.mk hr0_1; have HC0_1 := Aside0.mk hc0_1; clear hr0_1 hc0_1; have HR1_1 := Aside0.mk hr1_1; have HC1_1 := Aside0.mk hc1_1; clear hr1_1 hc1_1; have HB := am_ (Below.refl w.heap.size w)
 have H : ((laws_szWhole.f a0_0 l0_1 1048576).bind fun t184 => (if t184 < 0 then (some true) else ((laws_szWhole.f a1_0 l1_1 t184).bind fun t185 => (if t185 < 0 then (some true) else ((laws_toWhole.f k a0_0 l0_1).bind fun bt186 => ((laws_toWhole.f k a1_0 l1_1).bind fun bt190 => ((spec_MultiplyWholes.f k bt186.1 bt186.2 bt190.1 bt190.2).bind fun bt194 => ((laws_toWhole.f k a0_0 l0_1).bind fun bt200 => ((laws_toWhole.f k a1_0 l1_1).bind fun bt205 => ((impl_MultiplyWholes.f bt200.1 bt200.2 bt205.1 bt205.2).bind fun bt210 => ((laws_eqWhole.f k bt210.1 bt210.2.1 bt194.1 bt194.2.1).bind fun t216 => (if t216 = true then (laws_FnExactMultiplyWholes.j0 k bt194.2.2 bt210.2.2 (bt210.2.2 != bt194.2.2) a0_0 l0_1 a1_0 l1_1 bt194.1 bt194.2.1 bt200.1 bt200.2 bt205.1 bt205.2 bt210.1 bt210.2.1) else (laws_FnExactMultiplyWholes.j0 k bt194.2.2 bt210.2.2 true a0_0 l0_1 a1_0 l1_1 bt194.1 bt194.2.1 bt200.1 bt200.2 bt205.1 bt205.2 bt210.1 bt210.2.1))))))))))))) = some r := h
 clear h
 replace H := Option.bind_eq_some_iff.mp H
 obtain ⟨t184, A30, H⟩ := H
 replace H : (if t184 < 0 then (some true) else ((laws_szWhole.f a1_0 l1_1 t184).bind fun t185 => (if t185 < 0 then (some true) else ((laws_toWhole.f k a0_0 l0_1).bind fun bt186 => ((laws_toWhole.f k a1_0 l1_1).bind fun bt190 => ((spec_MultiplyWholes.f k bt186.1 bt186.2 bt190.1 bt190.2).bind fun bt194 => ((laws_toWhole.f k a0_0 l0_1).bind fun bt200 => ((laws_toWhole.f k a1_0 l1_1).bind fun bt205 => ((impl_MultiplyWholes.f bt200.1 bt200.2 bt205.1 bt205.2).bind fun bt210 => ((laws_eqWhole.f k bt210.1 bt210.2.1 bt194.1 bt194.2.1).bind fun t216 => (if t216 = true then (laws_FnExactMultiplyWholes.j0 k bt194.2.2 bt210.2.2 (bt210.2.2 != bt194.2.2) a0_0 l0_1 a1_0 l1_1 bt194.1 bt194.2.1 bt200.1 bt200.2 bt205.1 bt205.2 bt210.1 bt210.2.1) else (laws_FnExactMultiplyWholes.j0 k bt194.2.2 bt210.2.2 true a0_0 l0_1 a1_0 l1_1 bt194.1 bt194.2.1 bt200.1 bt200.2 bt205.1 bt205.2 bt210.1 bt210.2.1)))))))))))) = some r := H
 have A3 := Aside0.mk A30; clear A30
 by_cases c4 : t184 < 0
 ·rw [if_pos c4] at H
  have c4b0 : decide (t184 < 0) = true := decide_eq_true c4
  clear c4; obtain rfl := Option.some.inj H
  go_enter Tryd.func7, Tryd.ntmps7
  go_wp2_with (first | ((with_reducible refine gate_dst (N := 2) rfl ?_); refine box_event ?hg (N := 2) ?hd (cs := #[.int .i64 a0_0, .slice A0_1 l0_1.length c0_1]) (t := 24) ?hr ?_; (case hd => rfl); (case hg => rfl); (case hr => first | (go_simp; done) | (go_simp; rfl)); intro gb182 hg w5 hbox hb; have n0_ := am_ (below_step (bl_ HB) hb); have n1_ := am_ (hbox); have n2_ := am_ (gs_ hg HB); have n3_ := am_ (gs_ hg HB); clear HB; have HB := n0_; have BK182 := n1_; have GW182 := n2_; have GE182 := n3_; clear n0_ n1_ n2_ n3_; clear hb hbox hg) | ((with_reducible refine gate_dst (N := 3) rfl ?_); refine box_event ?hg (N := 3) ?hd (cs := #[.int .i64 a1_0, .slice A1_1 l1_1.length c1_1]) (t := 24) ?hr ?_; (case hd => rfl); (case hg => rfl); (case hr => first | (go_simp; done) | (go_simp; rfl)); intro gb183 hg w6 hbox hb; have n0_ := am_ (blk_below (bk_ BK182) hb); have n1_ := am_ (below_step (bl_ HB) hb); have n2_ := am_ (hbox); have n3_ := am_ (gs_ hg HB); have n4_ := am_ (gs_ hg HB); have n5_ := am_ (nl_ hg BK182); have n6_ := am_ (ng_ hg BK182); clear BK182; clear HB; have BK182 := n0_; have HB := n1_; have BK183 := n2_; have GW183 := n3_; have GE183 := n4_; have NB182_183 := n5_; have NB183_182 := n6_; clear n0_ n1_ n2_ n3_ n4_ n5_ n6_; clear hb hbox hg; have hnb7 := NB182_183.out; have hnc7 := NB183_182.out; have hcz8_0 : w6.cell? ⟨gb182, 0, none⟩ = some (.int .i64 a0_0) := (blk_cell BK182.out 0).trans rfl; have hcz8_1 : w6.cell? ⟨gb182, 1, none⟩ = some (.slice A0_1 l0_1.length c0_1) := (blk_cell BK182.out 1).trans rfl; have hfz8_0 := blk_frozen BK182.out 0; have hfz8_1 := blk_frozen BK182.out 1) | ((with_reducible refine gate_callee (f := 18) rfl ?_); refine goesL_ (some 19) rfl rfl Tryd.func18 (by kernel_rfl) rfl #[.agg #[.int .i64 a0_0, .slice A0_1 l0_1.length c0_1], .int .i64 1048576] rfl ma_ ?_; (with_reducible refine (laws_szWhole.calls a0_0 _ _ l0_1 1048576 t184 _ ?side1 ?side2 A3.out).mono ?_); (case side1 => repeat (first | exact (Kd.C_below HR0_1.out HB.out) | (with_reducible refine Kd.C_alloc ?_ _) | (with_reducible refine Kd.C_drewN ?_ _) | (with_reducible refine Kd.C_drew ?_))); (case side2 => exact HC0_1.out); rintro e w9 ⟨rfl, hb⟩; refine ⟨_, rfl, ?_⟩; have n0_ := am_ (blk_below (bk_ BK182) hb); have n1_ := am_ (blk_below (bk_ BK183) hb); have n2_ := am_ (below_step (bl_ HB) hb); clear BK182; clear BK183; clear HB; have BK182 := n0_; have BK183 := n1_; have HB := n2_; clear n0_ n1_ n2_; (try clear hb); (try clear hb2); (try clear hk); (try clear hi)))
  go_ret
  exact ⟨by first | rfl | (simp [errW_none, errW_some] <;> rfl) | (simp [*, errW_none, errW_some] <;> rfl), bl_ HB⟩
 ·rw [if_neg c4] at H
  have c4b0 : decide (t184 < 0) = false := decide_eq_false c4
  clear c4
  replace H := Option.bind_eq_some_iff.mp H
  obtain ⟨t185, A100, H⟩ := H
  replace H : (if t185 < 0 then (some true) else ((laws_toWhole.f k a0_0 l0_1).bind fun bt186 => ((laws_toWhole.f k a1_0 l1_1).bind fun bt190 => ((spec_MultiplyWholes.f k bt186.1 bt186.2 bt190.1 bt190.2).bind fun bt194 => ((laws_toWhole.f k a0_0 l0_1).bind fun bt200 => ((laws_toWhole.f k a1_0 l1_1).bind fun bt205 => ((impl_MultiplyWholes.f bt200.1 bt200.2 bt205.1 bt205.2).bind fun bt210 => ((laws_eqWhole.f k bt210.1 bt210.2.1 bt194.1 bt194.2.1).bind fun t216 => (if t216 = true then (laws_FnExactMultiplyWholes.j0 k bt194.2.2 bt210.2.2 (bt210.2.2 != bt194.2.2) a0_0 l0_1 a1_0 l1_1 bt194.1 bt194.2.1 bt200.1 bt200.2 bt205.1 bt205.2 bt210.1 bt210.2.1) else (laws_FnExactMultiplyWholes.j0 k bt194.2.2 bt210.2.2 true a0_0 l0_1 a1_0 l1_1 bt194.1 bt194.2.1 bt200.1 bt200.2 bt205.1 bt205.2 bt210.1 bt210.2.1)))))))))) = some r := H
  have A10 := Aside0.mk A100; clear A100
  by_cases c11 : t185 < 0
  ·rw [if_pos c11] at H
   have c11b0 : decide (t185 < 0) = true := decide_eq_true c11
   clear c11; obtain rfl := Option.some.inj H
   go_enter Tryd.func7, Tryd.ntmps7
   go_wp2_with (first | ((with_reducible refine gate_dst (N := 2) rfl ?_); refine box_event ?hg (N := 2) ?hd (cs := #[.int .i64 a0_0, .slice A0_1 l0_1.length c0_1]) (t := 24) ?hr ?_; (case hd => rfl); (case hg => rfl); (case hr => first | (go_simp; done) | (go_simp; rfl)); intro gb182 hg w12 hbox hb; have n0_ := am_ (below_step (bl_ HB) hb); have n1_ := am_ (hbox); have n2_ := am_ (gs_ hg HB); have n3_ := am_ (gs_ hg HB); clear HB; have HB := n0_; have BK182 := n1_; have GW182 := n2_; have GE182 := n3_; clear n0_ n1_ n2_ n3_; clear hb hbox hg) | ((with_reducible refine gate_dst (N := 3) rfl ?_); refine box_event ?hg (N := 3) ?hd (cs := #[.int .i64 a1_0, .slice A1_1 l1_1.length c1_1]) (t := 24) ?hr ?_; (case hd => rfl); (case hg => rfl); (case hr => first | (go_simp; done) | (go_simp; rfl)); intro gb183 hg w13 hbox hb; have n0_ := am_ (blk_below (bk_ BK182) hb); have n1_ := am_ (below_step (bl_ HB) hb); have n2_ := am_ (hbox); have n3_ := am_ (gs_ hg HB); have n4_ := am_ (gs_ hg HB); have n5_ := am_ (nl_ hg BK182); have n6_ := am_ (ng_ hg BK182); clear BK182; clear HB; have BK182 := n0_; have HB := n1_; have BK183 := n2_; have GW183 := n3_; have GE183 := n4_; have NB182_183 := n5_; have NB183_182 := n6_; clear n0_ n1_ n2_ n3_ n4_ n5_ n6_; clear hb hbox hg; have hnb14 := NB182_183.out; have hnc14 := NB183_182.out; have hcz15_0 : w13.cell? ⟨gb182, 0, none⟩ = some (.int .i64 a0_0) := (blk_cell BK182.out 0).trans rfl; have hcz15_1 : w13.cell? ⟨gb182, 1, none⟩ = some (.slice A0_1 l0_1.length c0_1) := (blk_cell BK182.out 1).trans rfl; have hfz15_0 := blk_frozen BK182.out 0; have hfz15_1 := blk_frozen BK182.out 1) | ((with_reducible refine gate_callee (f := 18) rfl ?_); refine goesL_ (some 19) rfl rfl Tryd.func18 (by kernel_rfl) rfl #[.agg #[.int .i64 a0_0, .slice A0_1 l0_1.length c0_1], .int .i64 1048576] rfl ma_ ?_; (with_reducible refine (laws_szWhole.calls a0_0 _ _ l0_1 1048576 t184 _ ?side1 ?side2 A3.out).mono ?_); (case side1 => repeat (first | exact (Kd.C_below HR0_1.out HB.out) | (with_reducible refine Kd.C_alloc ?_ _) | (with_reducible refine Kd.C_drewN ?_ _) | (with_reducible refine Kd.C_drew ?_))); (case side2 => exact HC0_1.out); rintro e w16 ⟨rfl, hb⟩; refine ⟨_, rfl, ?_⟩; have n0_ := am_ (blk_below (bk_ BK182) hb); have n1_ := am_ (blk_below (bk_ BK183) hb); have n2_ := am_ (below_step (bl_ HB) hb); clear BK182; clear BK183; clear HB; have BK182 := n0_; have BK183 := n1_; have HB := n2_; clear n0_ n1_ n2_; (try clear hb); (try clear hb2); (try clear hk); (try clear hi); have hcz17_0 : w16.cell? ⟨gb183, 0, none⟩ = some (.int .i64 a1_0) := (blk_cell BK183.out 0).trans rfl; have hcz17_1 : w16.cell? ⟨gb183, 1, none⟩ = some (.slice A1_1 l1_1.length c1_1) := (blk_cell BK183.out 1).trans rfl; have hfz17_0 := blk_frozen BK183.out 0; have hfz17_1 := blk_frozen BK183.out 1) | ((with_reducible refine gate_callee (f := 18) rfl ?_); refine goesL_ (some 24) rfl rfl Tryd.func18 (by kernel_rfl) rfl #[.agg #[.int .i64 a1_0, .slice A1_1 l1_1.length c1_1], .int .i64 t184] rfl ma_ ?_; (with_reducible refine (laws_szWhole.calls a1_0 _ _ l1_1 t184 t185 _ ?side1 ?side2 A10.out).mono ?_); (case side1 => repeat (first | exact (Kd.C_below HR1_1.out HB.out) | (with_reducible refine Kd.C_alloc ?_ _) | (with_reducible refine Kd.C_drewN ?_ _) | (with_reducible refine Kd.C_drew ?_))); (case side2 => exact HC1_1.out); rintro e w18 ⟨rfl, hb⟩; refine ⟨_, rfl, ?_⟩; have n0_ := am_ (blk_below (bk_ BK182) hb); have n1_ := am_ (blk_below (bk_ BK183) hb); have n2_ := am_ (below_step (bl_ HB) hb); clear BK182; clear BK183; clear HB; have BK182 := n0_; have BK183 := n1_; have HB := n2_; clear n0_ n1_ n2_; (try clear hb); (try clear hb2); (try clear hk); (try clear hi)))
   go_ret
   exact ⟨by first | rfl | (simp [errW_none, errW_some] <;> rfl) | (simp [*, errW_none, errW_some] <;> rfl), bl_ HB⟩
  ·rw [if_neg c11] at H
   have c11b0 : decide (t185 < 0) = false := decide_eq_false c11
   clear c11
   replace H := Option.bind_eq_some_iff.mp H
   obtain ⟨⟨t186, t187⟩, A190, H⟩ := H
   replace H : ((laws_toWhole.f k a1_0 l1_1).bind fun bt190 => ((spec_MultiplyWholes.f k t186 t187 bt190.1 bt190.2).bind fun bt194 => ((laws_toWhole.f k a0_0 l0_1).bind fun bt200 => ((laws_toWhole.f k a1_0 l1_1).bind fun bt205 => ((impl_MultiplyWholes.f bt200.1 bt200.2 bt205.1 bt205.2).bind fun bt210 => ((laws_eqWhole.f k bt210.1 bt210.2.1 bt194.1 bt194.2.1).bind fun t216 => (if t216 = true then (laws_FnExactMultiplyWholes.j0 k bt194.2.2 bt210.2.2 (bt210.2.2 != bt194.2.2) a0_0 l0_1 a1_0 l1_1 bt194.1 bt194.2.1 bt200.1 bt200.2 bt205.1 bt205.2 bt210.1 bt210.2.1) else (laws_FnExactMultiplyWholes.j0 k bt194.2.2 bt210.2.2 true a0_0 l0_1 a1_0 l1_1 bt194.1 bt194.2.1 bt200.1 bt200.2 bt205.1 bt205.2 bt210.1 bt210.2.1)))))))) = some r := H
   have A19 := Aside0.mk A190; clear A190
   replace H := Option.bind_eq_some_iff.mp H
   obtain ⟨⟨t190, t191⟩, A200, H⟩ := H
   replace H : ((spec_MultiplyWholes.f k t186 t187 t190 t191).bind fun bt194 => ((laws_toWhole.f k a0_0 l0_1).bind fun bt200 => ((laws_toWhole.f k a1_0 l1_1).bind fun bt205 => ((impl_MultiplyWholes.f bt200.1 bt200.2 bt205.1 bt205.2).bind fun bt210 => ((laws_eqWhole.f k bt210.1 bt210.2.1 bt194.1 bt194.2.1).bind fun t216 => (if t216 = true then (laws_FnExactMultiplyWholes.j0 k bt194.2.2 bt210.2.2 (bt210.2.2 != bt194.2.2) a0_0 l0_1 a1_0 l1_1 bt194.1 bt194.2.1 bt200.1 bt200.2 bt205.1 bt205.2 bt210.1 bt210.2.1) else (laws_FnExactMultiplyWholes.j0 k bt194.2.2 bt210.2.2 true a0_0 l0_1 a1_0 l1_1 bt194.1 bt194.2.1 bt200.1 bt200.2 bt205.1 bt205.2 bt210.1 bt210.2.1))))))) = some r := H
   have A20 := Aside0.mk A200; clear A200
   replace H := Option.bind_eq_some_iff.mp H
   obtain ⟨⟨t194, t195, t198⟩, A210, H⟩ := H
   replace H : ((laws_toWhole.f k a0_0 l0_1).bind fun bt200 => ((laws_toWhole.f k a1_0 l1_1).bind fun bt205 => ((impl_MultiplyWholes.f bt200.1 bt200.2 bt205.1 bt205.2).bind fun bt210 => ((laws_eqWhole.f k bt210.1 bt210.2.1 t194 t195).bind fun t216 => (if t216 = true then (laws_FnExactMultiplyWholes.j0 k t198 bt210.2.2 (bt210.2.2 != t198) a0_0 l0_1 a1_0 l1_1 t194 t195 bt200.1 bt200.2 bt205.1 bt205.2 bt210.1 bt210.2.1) else (laws_FnExactMultiplyWholes.j0 k t198 bt210.2.2 true a0_0 l0_1 a1_0 l1_1 t194 t195 bt200.1 bt200.2 bt205.1 bt205.2 bt210.1 bt210.2.1)))))) = some r := H
   have A21 := Aside0.mk A210; clear A210
   replace H := Option.bind_eq_some_iff.mp H
   obtain ⟨⟨t200, t201⟩, A220, H⟩ := H
   replace H : ((laws_toWhole.f k a1_0 l1_1).bind fun bt205 => ((impl_MultiplyWholes.f t200 t201 bt205.1 bt205.2).bind fun bt210 => ((laws_eqWhole.f k bt210.1 bt210.2.1 t194 t195).bind fun t216 => (if t216 = true then (laws_FnExactMultiplyWholes.j0 k t198 bt210.2.2 (bt210.2.2 != t198) a0_0 l0_1 a1_0 l1_1 t194 t195 t200 t201 bt205.1 bt205.2 bt210.1 bt210.2.1) else (laws_FnExactMultiplyWholes.j0 k t198 bt210.2.2 true a0_0 l0_1 a1_0 l1_1 t194 t195 t200 t201 bt205.1 bt205.2 bt210.1 bt210.2.1))))) = some r := H
   have A22 := Aside0.mk A220; clear A220
   replace H := Option.bind_eq_some_iff.mp H
   obtain ⟨⟨t205, t206⟩, A230, H⟩ := H
   replace H : ((impl_MultiplyWholes.f t200 t201 t205 t206).bind fun bt210 => ((laws_eqWhole.f k bt210.1 bt210.2.1 t194 t195).bind fun t216 => (if t216 = true then (laws_FnExactMultiplyWholes.j0 k t198 bt210.2.2 (bt210.2.2 != t198) a0_0 l0_1 a1_0 l1_1 t194 t195 t200 t201 t205 t206 bt210.1 bt210.2.1) else (laws_FnExactMultiplyWholes.j0 k t198 bt210.2.2 true a0_0 l0_1 a1_0 l1_1 t194 t195 t200 t201 t205 t206 bt210.1 bt210.2.1)))) = some r := H
   have A23 := Aside0.mk A230; clear A230
   replace H := Option.bind_eq_some_iff.mp H
   obtain ⟨⟨t210, t211, t214⟩, A240, H⟩ := H
   replace H : ((laws_eqWhole.f k t210 t211 t194 t195).bind fun t216 => (if t216 = true then (laws_FnExactMultiplyWholes.j0 k t198 t214 (t214 != t198) a0_0 l0_1 a1_0 l1_1 t194 t195 t200 t201 t205 t206 t210 t211) else (laws_FnExactMultiplyWholes.j0 k t198 t214 true a0_0 l0_1 a1_0 l1_1 t194 t195 t200 t201 t205 t206 t210 t211))) = some r := H
   have A24 := Aside0.mk A240; clear A240; have HC25 := Aside0.mk H; clear H
   go_enter Tryd.func7, Tryd.ntmps7
   try go_wp2_with (first | ((with_reducible refine gate_dst (N := 2) rfl ?_); refine box_event ?hg (N := 2) ?hd (cs := #[.int .i64 a0_0, .slice A0_1 l0_1.length c0_1]) (t := 24) ?hr ?_; (case hd => rfl); (case hg => rfl); (case hr => first | (go_simp; done) | (go_simp; rfl)); intro gb182 hg w26 hbox hb; have n0_ := am_ (below_step (bl_ HB) hb); have n1_ := am_ (hbox); have n2_ := am_ (gs_ hg HB); have n3_ := am_ (gs_ hg HB); clear HB; have HB := n0_; have BK182 := n1_; have GW182 := n2_; have GE182 := n3_; clear n0_ n1_ n2_ n3_; clear hb hbox hg) | ((with_reducible refine gate_dst (N := 3) rfl ?_); refine box_event ?hg (N := 3) ?hd (cs := #[.int .i64 a1_0, .slice A1_1 l1_1.length c1_1]) (t := 24) ?hr ?_; (case hd => rfl); (case hg => rfl); (case hr => first | (go_simp; done) | (go_simp; rfl)); intro gb183 hg w27 hbox hb; have n0_ := am_ (blk_below (bk_ BK182) hb); have n1_ := am_ (below_step (bl_ HB) hb); have n2_ := am_ (hbox); have n3_ := am_ (gs_ hg HB); have n4_ := am_ (gs_ hg HB); have n5_ := am_ (nl_ hg BK182); have n6_ := am_ (ng_ hg BK182); clear BK182; clear HB; have BK182 := n0_; have HB := n1_; have BK183 := n2_; have GW183 := n3_; have GE183 := n4_; have NB182_183 := n5_; have NB183_182 := n6_; clear n0_ n1_ n2_ n3_ n4_ n5_ n6_; clear hb hbox hg; have hnb28 := NB182_183.out; have hnc28 := NB183_182.out; have hcz29_0 : w27.cell? ⟨gb182, 0, none⟩ = some (.int .i64 a0_0) := (blk_cell BK182.out 0).trans rfl; have hcz29_1 : w27.cell? ⟨gb182, 1, none⟩ = some (.slice A0_1 l0_1.length c0_1) := (blk_cell BK182.out 1).trans rfl; have hfz29_0 := blk_frozen BK182.out 0; have hfz29_1 := blk_frozen BK182.out 1) | ((with_reducible refine gate_callee (f := 18) rfl ?_); refine goesL_ (some 19) rfl rfl Tryd.func18 (by kernel_rfl) rfl #[.agg #[.int .i64 a0_0, .slice A0_1 l0_1.length c0_1], .int .i64 1048576] rfl ma_ ?_; (with_reducible refine (laws_szWhole.calls a0_0 _ _ l0_1 1048576 t184 _ ?side1 ?side2 A3.out).mono ?_); (case side1 => repeat (first | exact (Kd.C_below HR0_1.out HB.out) | (with_reducible refine Kd.C_alloc ?_ _) | (with_reducible refine Kd.C_drewN ?_ _) | (with_reducible refine Kd.C_drew ?_))); (case side2 => exact HC0_1.out); rintro e w30 ⟨rfl, hb⟩; refine ⟨_, rfl, ?_⟩; have n0_ := am_ (blk_below (bk_ BK182) hb); have n1_ := am_ (blk_below (bk_ BK183) hb); have n2_ := am_ (below_step (bl_ HB) hb); clear BK182; clear BK183; clear HB; have BK182 := n0_; have BK183 := n1_; have HB := n2_; clear n0_ n1_ n2_; (try clear hb); (try clear hb2); (try clear hk); (try clear hi); have hcz31_0 : w30.cell? ⟨gb183, 0, none⟩ = some (.int .i64 a1_0) := (blk_cell BK183.out 0).trans rfl; have hcz31_1 : w30.cell? ⟨gb183, 1, none⟩ = some (.slice A1_1 l1_1.length c1_1) := (blk_cell BK183.out 1).trans rfl; have hfz31_0 := blk_frozen BK183.out 0; have hfz31_1 := blk_frozen BK183.out 1) | ((with_reducible refine gate_callee (f := 18) rfl ?_); refine goesL_ (some 24) rfl rfl Tryd.func18 (by kernel_rfl) rfl #[.agg #[.int .i64 a1_0, .slice A1_1 l1_1.length c1_1], .int .i64 t184] rfl ma_ ?_; (with_reducible refine (laws_szWhole.calls a1_0 _ _ l1_1 t184 t185 _ ?side1 ?side2 A10.out).mono ?_); (case side1 => repeat (first | exact (Kd.C_below HR1_1.out HB.out) | (with_reducible refine Kd.C_alloc ?_ _) | (with_reducible refine Kd.C_drewN ?_ _) | (with_reducible refine Kd.C_drew ?_))); (case side2 => exact HC1_1.out); rintro e w32 ⟨rfl, hb⟩; refine ⟨_, rfl, ?_⟩; have n0_ := am_ (blk_below (bk_ BK182) hb); have n1_ := am_ (blk_below (bk_ BK183) hb); have n2_ := am_ (below_step (bl_ HB) hb); clear BK182; clear BK183; clear HB; have BK182 := n0_; have BK183 := n1_; have HB := n2_; clear n0_ n1_ n2_; (try clear hb); (try clear hb2); (try clear hk); (try clear hi)))
   have n0_ := am_ (blk_drew BK182.out); have n1_ := am_ (blk_drew BK183.out); have n2_ := am_ (below_drew1 HB.out); clear BK182 BK183 HB; have BK182 := n0_; have BK183 := n1_; have HB := n2_; clear n0_ n1_ n2_
   refine start_ (n := 11) (S := fun w' => w'.cell? ⟨gb182, 0, none⟩ = some (.int .i64 a0_0) ∧ w'.cell? ⟨gb182, 1, none⟩ = some (.slice A0_1 l0_1.length c0_1) ∧ w'.cell? ⟨gb183, 0, none⟩ = some (.int .i64 a1_0) ∧ w'.cell? ⟨gb183, 1, none⟩ = some (.slice A1_1 l1_1.length c1_1)) (ds := []) #[false, false, false, false, false, false, false, false, false, false, false] (by kernel_rfl) rfl rfl ⟨(blk_cell BK182.out 0).trans rfl, (blk_cell BK182.out 1).trans rfl, (blk_cell BK183.out 0).trans rfl, (blk_cell BK183.out 1).trans rfl⟩ (fun hHeld => ?_); refine with_tabW laws_FnExactMultiplyWholes.tab8 laws_FnExactMultiplyWholes.bits8 (fun HT_ HW_ => ?_)
   generalize w32.drew = w33 at BK182 BK183 HB hHeld ⊢
   refine take_ (i := 0) (N := some 28) (v := ?_) (a' := ?_) #[true, false, false, false, false, false, false, false, false, false, false] rfl rfl (take_ofW HT_.out HW_.out (by kernel_rfl)) (fun _ _ _ h => h) (Or.inl ⟨by rfl, ?_⟩) hHeld ?_ ?_
   rotate_left
   ·rintro w' ⟨s0, s1, s2, s3⟩
    go_simp
    with_reducible rfl
   rotate_left
   ·exact nm_
   refine take_ (i := 2) (N := some 30) (v := ?_) (a' := ?_) #[true, false, true, false, false, false, false, false, false, false, false] rfl rfl (take_ofW HT_.out HW_.out (by kernel_rfl)) (fun _ _ _ h => h) (Or.inl ⟨by rfl, ?_⟩) hHeld ?_ ?_
   rotate_left
   ·rintro w' ⟨s0, s1, s2, s3⟩
    go_simp
    with_reducible rfl
   rotate_left
   ·exact nm_
   refine join_ (σ := Value × Value × Value × Nat) 2 #[true, true, true, true, true, true, true, true, true, false, false] (fun s_ => [(29, .agg #[.int .i64 t186, s_.1]), (31, .agg #[.int .i64 t190, s_.2.1]), (32, .tuple #[.agg #[.int .i64 t194, s_.2.2.1], .int .i64 t198]), (6, .pointer (some ⟨s_.2.2.2, 0, none⟩)), (27, .tuple #[.agg #[.int .i64 t194, s_.2.2.1], .int .i64 t198]), (33, .agg #[.int .i64 t194, s_.2.2.1]), (34, .int .i64 t198)]) (fun s_ w' => (w'.cell? ⟨gb182, 0, none⟩ = some (.int .i64 a0_0) ∧ w'.cell? ⟨gb182, 1, none⟩ = some (.slice A0_1 l0_1.length c0_1) ∧ w'.cell? ⟨gb183, 0, none⟩ = some (.int .i64 a1_0) ∧ w'.cell? ⟨gb183, 1, none⟩ = some (.slice A1_1 l1_1.length c1_1)) ∧ (Kd.R (Kd.int .i64) 2 w' w.heap.size (fun k_ => some k_ ≠ (s_.2.1 : Value).ownBlock ∧ some k_ ≠ (s_.2.2.1 : Value).ownBlock) s_.1 t187) ∧ (Kd.R (Kd.int .i64) 2 w' w.heap.size (fun k_ => some k_ ≠ (s_.1 : Value).ownBlock ∧ some k_ ≠ (s_.2.2.1 : Value).ownBlock) s_.2.1 t191) ∧ (Kd.R (Kd.int .i64) 2 w' w.heap.size (fun k_ => some k_ ≠ (s_.1 : Value).ownBlock ∧ some k_ ≠ (s_.2.1 : Value).ownBlock) s_.2.2.1 t195) ∧ (w'.heap[gb182]? = some (.cells #[.int .i64 a0_0, .slice A0_1 l0_1.length c0_1] 24 (0, 0))) ∧ (w'.heap[gb183]? = some (.cells #[.int .i64 a1_0, .slice A1_1 l1_1.length c1_1] 24 (0, 0))) ∧ (w'.heap[s_.2.2.2]? = some (.cells #[.int .i64 0, .slice none 0 0] 28 (0, 0))) ∧ (w.heap.size ≤ s_.2.2.2) ∧ (w.heap.size ≤ s_.2.2.2) ∧ (gb182 ≠ s_.2.2.2) ∧ (s_.2.2.2 ≠ gb182) ∧ (gb183 ≠ s_.2.2.2) ∧ (s_.2.2.2 ≠ gb183) ∧ (Below w.heap.size w w')) ?_ ?_
   rotate_left
   ·intro hCont
    refine two_ (i := 1) (j := 8) (Ni := some 29) (Nj := some 6) #[true, true, true, false, false, false, false, false, false, false, false] #[true, false, true, false, false, false, false, false, true, false, false] rfl rfl rfl rfl (two_of HT_.out (by kernel_rfl)) (by decide) (by decide) (fun K hK => ?_) (fun K hK => ?_)
    ·skip
     refine goes_ Tryd.func20 (by kernel_rfl) rfl #[.agg #[.int .i64 a0_0, .slice A0_1 l0_1.length c0_1]] (by rfl) rfl rfl ma_ ?_
     with_reducible refine (laws_toWhole.calls k a0_0 _ _ l0_1 t186 t187 _ ?side1 ?side2 A19.out).mono ?_
     (case side1 => repeat (first | exact (Kd.C_below HR0_1.out HB.out) | (with_reducible refine Kd.C_alloc ?_ _) | (with_reducible refine Kd.C_drewN ?_ _) | (with_reducible refine Kd.C_drew ?_)))
     (case side2 => exact HC0_1.out)
     rintro e w34 ⟨v188, rfl, ho0, hb⟩
     refine ⟨_, rfl, ?_⟩
     have n0_ := am_ (Kd.R_lower ho0 (below_size (bl_ HB))); have n1_ := am_ (blk_below (bk_ BK182) hb); have n2_ := am_ (blk_below (bk_ BK183) hb); have n3_ := am_ (below_step (bl_ HB) hb); clear BK182 BK183 HB; have HO189 := n0_; have BK182 := n1_; have BK183 := n2_; have HB := n3_; clear n0_ n1_ n2_ n3_; (try clear hb); (try clear hb2); (try clear hk); (try clear hi); (try clear ho0)
     refine hK.out _ _ ⟨(blk_cell BK182.out 0).trans rfl, (blk_cell BK182.out 1).trans rfl, (blk_cell BK183.out 0).trans rfl, (blk_cell BK183.out 1).trans rfl⟩ (fun hHeld => ?_)
     clear hK K
     refine norm_ (a' := ?_) ?_ ?_
     rotate_left
     ·show Act.put _ (some 29) _ = _
      exact nm_
     refine two_ (i := 3) (j := 8) (Ni := some 31) (Nj := some 6) #[true, true, true, true, false, false, false, false, false, false, false] #[true, true, true, false, false, false, false, false, true, false, false] rfl rfl rfl rfl (two_of HT_.out (by kernel_rfl)) (by decide) (by decide) (fun K hK => ?_) (fun K hK => ?_)
     ·skip
      refine goes_ Tryd.func20 (by kernel_rfl) rfl #[.agg #[.int .i64 a1_0, .slice A1_1 l1_1.length c1_1]] (by rfl) rfl rfl ma_ ?_
      with_reducible refine (laws_toWhole.calls k a1_0 _ _ l1_1 t190 t191 _ ?side1 ?side2 A20.out).mono ?_
      (case side1 => repeat (first | exact (Kd.C_below HR1_1.out HB.out) | (with_reducible refine Kd.C_alloc ?_ _) | (with_reducible refine Kd.C_drewN ?_ _) | (with_reducible refine Kd.C_drew ?_)))
      (case side2 => exact HC1_1.out)
      rintro e w35 ⟨v192, rfl, ho0, hb⟩
      refine ⟨_, rfl, ?_⟩
      have n0_ := am_ (Kd.R_elder' (kr_ HO189) (Kd.R_base ho0) hb); have n1_ := am_ (Kd.R_lower (Kd.R_new' ho0 (Kd.R_lt (kr_ HO189))) (below_size (bl_ HB))); have n2_ := am_ (blk_below (bk_ BK182) hb); have n3_ := am_ (blk_below (bk_ BK183) hb); have n4_ := am_ (below_step (bl_ HB) hb); clear HO189 BK182 BK183 HB; have HO189 := n0_; have HO193 := n1_; have BK182 := n2_; have BK183 := n3_; have HB := n4_; clear n0_ n1_ n2_ n3_ n4_; (try clear hb); (try clear hb2); (try clear hk); (try clear hi); (try clear ho0)
      obtain ⟨Ao36, co36, eo36⟩ := Kd.R_slice HO189.out
      (first | subst eo36 | (injection eo36 with f1_ f2_ f3_; have f4_ := f1_.symm; have f5_ := f3_.symm; clear f1_ f2_ f3_; subst f4_; subst f5_))
      obtain ⟨Ao37, co37, eo37⟩ := Kd.R_slice HO193.out
      (first | subst eo37 | (injection eo37 with f1_ f2_ f3_; have f4_ := f1_.symm; have f5_ := f3_.symm; clear f1_ f2_ f3_; subst f4_; subst f5_))
      refine hK.out _ _ ⟨(blk_cell BK182.out 0).trans rfl, (blk_cell BK182.out 1).trans rfl, (blk_cell BK183.out 0).trans rfl, (blk_cell BK183.out 1).trans rfl⟩ (fun hHeld => ?_)
      clear hK K
      refine norm_ (a' := ?_) ?_ ?_
      rotate_left
      ·show Act.put _ (some 31) _ = _
       exact nm_
      refine two_ (i := 4) (j := 8) (Ni := some 32) (Nj := some 6) #[true, true, true, true, true, false, false, false, false, false, false] #[true, true, true, true, false, false, false, false, true, false, false] rfl rfl rfl rfl (two_of HT_.out (by kernel_rfl)) (by decide) (by decide) (fun K hK => ?_) (fun K hK => ?_)
      ·skip
       refine goes_ Tryd.func31 (by kernel_rfl) rfl #[.agg #[.int .i64 t186, .slice Ao36 t187.length co36], .agg #[.int .i64 t190, .slice Ao37 t191.length co37]] (by rfl) rfl rfl ma_ ?_
       with_reducible refine (spec_MultiplyWholes.calls k t186 _ _ t187 t190 _ _ t191 t194 t195 t198 _ ?side1 ?side2 ?side3 ?side4 A21.out).mono ?_
       (case side1 => repeat (first | exact (Kd.R_reads' HO189.out).2.2 | (with_reducible refine Kd.C_alloc ?_ _) | (with_reducible refine Kd.C_drewN ?_ _) | (with_reducible refine Kd.C_drew ?_)))
       (case side2 => exact (Kd.R_reads' HO189.out).2.1)
       (case side3 => repeat (first | exact (Kd.R_reads' HO193.out).2.2 | (with_reducible refine Kd.C_alloc ?_ _) | (with_reducible refine Kd.C_drewN ?_ _) | (with_reducible refine Kd.C_drew ?_)))
       (case side4 => exact (Kd.R_reads' HO193.out).2.1)
       rintro e w38 ⟨v196, rfl, ho0, hb⟩
       refine ⟨_, rfl, ?_⟩
       have n0_ := am_ (Kd.R_elder' (kr_ HO189) (Kd.R_base ho0) hb); have n1_ := am_ (Kd.R_elder' (kr_ HO193) (Kd.R_base ho0) hb); have n2_ := am_ (Kd.R_lower (Kd.R_new' (Kd.R_new' ho0 (Kd.R_lt (kr_ HO189))) (Kd.R_lt (kr_ HO193))) (below_size (bl_ HB))); have n3_ := am_ (blk_below (bk_ BK182) hb); have n4_ := am_ (blk_below (bk_ BK183) hb); have n5_ := am_ (below_step (bl_ HB) hb); clear HO189 HO193 BK182 BK183 HB; have HO189 := n0_; have HO193 := n1_; have HO197 := n2_; have BK182 := n3_; have BK183 := n4_; have HB := n5_; clear n0_ n1_ n2_ n3_ n4_ n5_; (try clear hb); (try clear hb2); (try clear hk); (try clear hi); (try clear ho0)
       refine hK.out _ _ ⟨(blk_cell BK182.out 0).trans rfl, (blk_cell BK182.out 1).trans rfl, (blk_cell BK183.out 0).trans rfl, (blk_cell BK183.out 1).trans rfl⟩ (fun hHeld => ?_)
       clear hK K
       refine norm_ (a' := ?_) ?_ ?_
       rotate_left
       ·show Act.put _ (some 32) _ = _
        exact nm_
       refine pure_ (i := 5) (N := some 27) (v := ?_) (a' := ?_) #[true, true, true, true, true, true, false, false, false, false, false] rfl rfl (any_of HT_.out (by kernel_rfl)) (fun _ _ _ h => h) (Or.inl ⟨by rfl, ?_⟩) ?_ ?_
       rotate_left
       ·intro w'
        go_simp
        with_reducible rfl
       rotate_left
       ·exact nm_
       refine pure_ (i := 6) (N := some 33) (v := ?_) (a' := ?_) #[true, true, true, true, true, true, true, false, false, false, false] rfl rfl (any_of HT_.out (by kernel_rfl)) (fun _ _ _ h => h) (Or.inl ⟨by rfl, ?_⟩) ?_ ?_
       rotate_left
       ·intro w'
        go_simp
        with_reducible rfl
       rotate_left
       ·exact nm_
       refine pure_ (i := 7) (N := some 34) (v := ?_) (a' := ?_) #[true, true, true, true, true, true, true, true, false, false, false] rfl rfl (any_of HT_.out (by kernel_rfl)) (fun _ _ _ h => h) (Or.inl ⟨by rfl, ?_⟩) ?_ ?_
       rotate_left
       ·intro w'
        go_simp
        with_reducible rfl
       rotate_left
       ·exact nm_
       refine one_ (i := 8) (N := some 6) #[true, true, true, true, true, true, true, true, true, false, false] rfl rfl (one_of HT_.out (by kernel_rfl)) (by decide) (fun K hK => ?_)
       refine box_step ?hg (N := 6) ?hd (cs := #[.int .i64 0, .slice none 0 0]) (t := 28) ?hr ?_; (case hd => rfl); (case hg => rfl); (case hr => first | (go_simp; done) | (go_simp; rfl))
       intro gb199 hg w39 hbox hb
       have n0_ := am_ (Kd.R_below (kr_ HO189) hb); have n1_ := am_ (Kd.R_below (kr_ HO193) hb); have n2_ := am_ (Kd.R_below (kr_ HO197) hb); have n3_ := am_ (blk_below (bk_ BK182) hb); have n4_ := am_ (blk_below (bk_ BK183) hb); have n5_ := am_ (below_step (bl_ HB) hb); have n6_ := am_ (hbox); have n7_ := am_ (gs_ hg HB); have n8_ := am_ (gs_ hg HB); have n9_ := am_ (nl_ hg BK182); have n10_ := am_ (ng_ hg BK182); have n11_ := am_ (nl_ hg BK183); have n12_ := am_ (ng_ hg BK183); clear HO189 HO193 HO197 BK182 BK183 HB; have HO189 := n0_; have HO193 := n1_; have HO197 := n2_; have BK182 := n3_; have BK183 := n4_; have HB := n5_; have BK199 := n6_; have GW199 := n7_; have GE199 := n8_; have NB182_199 := n9_; have NB199_182 := n10_; have NB183_199 := n11_; have NB199_183 := n12_; clear n0_ n1_ n2_ n3_ n4_ n5_ n6_ n7_ n8_ n9_ n10_ n11_ n12_ hb hbox hg
       refine hK.out _ _ ⟨(blk_cell BK182.out 0).trans rfl, (blk_cell BK182.out 1).trans rfl, (blk_cell BK183.out 0).trans rfl, (blk_cell BK183.out 1).trans rfl⟩ (fun hHeld => ?_)
       clear hK K
       refine norm_ (a' := ?_) ?_ ?_
       rotate_left
       ·show Act.put _ (some 6) _ = _
        exact nm_
       exact norm_ (by simp only [putAll, Act.put, List.setIfInBounds_toArray, List.set_cons_zero, List.set_cons_succ]) (hCont (.slice Ao36 t187.length co36, .slice Ao37 t191.length co37, v196, gb199) _ ⟨hHeld, (km_ HO189 (fun _ hk => ⟨hk.1.2, hk.2⟩)), (km_ HO193 (fun _ hk => ⟨hk.1.2, hk.2⟩)), (km_ HO197 (fun _ hk => ⟨hk.1.2, hk.2⟩)), (bk_ BK182), (bk_ BK183), (bk_ BK199), GW199.out, GE199.out, NB182_199.out, NB199_182.out, NB183_199.out, NB199_183.out, (bl_ HB)⟩)
      ·skip
       refine box_step ?hg (N := 6) ?hd (cs := #[.int .i64 0, .slice none 0 0]) (t := 28) ?hr ?_; (case hd => rfl); (case hg => rfl); (case hr => first | (go_simp; done) | (go_simp; rfl))
       intro gb199 hg w36 hbox hb
       have n0_ := am_ (Kd.R_below (kr_ HO189) hb); have n1_ := am_ (Kd.R_below (kr_ HO193) hb); have n2_ := am_ (blk_below (bk_ BK182) hb); have n3_ := am_ (blk_below (bk_ BK183) hb); have n4_ := am_ (below_step (bl_ HB) hb); have n5_ := am_ (hbox); have n6_ := am_ (gs_ hg HB); have n7_ := am_ (gs_ hg HB); have n8_ := am_ (nl_ hg BK182); have n9_ := am_ (ng_ hg BK182); have n10_ := am_ (nl_ hg BK183); have n11_ := am_ (ng_ hg BK183); clear HO189 HO193 BK182 BK183 HB; have HO189 := n0_; have HO193 := n1_; have BK182 := n2_; have BK183 := n3_; have HB := n4_; have BK199 := n5_; have GW199 := n6_; have GE199 := n7_; have NB182_199 := n8_; have NB199_182 := n9_; have NB183_199 := n10_; have NB199_183 := n11_; clear n0_ n1_ n2_ n3_ n4_ n5_ n6_ n7_ n8_ n9_ n10_ n11_ hb hbox hg
       obtain ⟨Ao37, co37, eo37⟩ := Kd.R_slice HO189.out
       (first | subst eo37 | (injection eo37 with f1_ f2_ f3_; have f4_ := f1_.symm; have f5_ := f3_.symm; clear f1_ f2_ f3_; subst f4_; subst f5_))
       obtain ⟨Ao38, co38, eo38⟩ := Kd.R_slice HO193.out
       (first | subst eo38 | (injection eo38 with f1_ f2_ f3_; have f4_ := f1_.symm; have f5_ := f3_.symm; clear f1_ f2_ f3_; subst f4_; subst f5_))
       refine hK.out _ _ ⟨(blk_cell BK182.out 0).trans rfl, (blk_cell BK182.out 1).trans rfl, (blk_cell BK183.out 0).trans rfl, (blk_cell BK183.out 1).trans rfl⟩ (fun hHeld => ?_)
       clear hK K
       refine norm_ (a' := ?_) ?_ ?_
       rotate_left
       ·show Act.put _ (some 6) _ = _
        exact nm_
       refine one_ (i := 4) (N := some 32) #[true, true, true, true, true, false, false, false, true, false, false] rfl rfl (one_of HT_.out (by kernel_rfl)) (by decide) (fun K hK => ?_)
       refine goes_ Tryd.func31 (by kernel_rfl) rfl #[.agg #[.int .i64 t186, .slice Ao37 t187.length co37], .agg #[.int .i64 t190, .slice Ao38 t191.length co38]] (by rfl) rfl rfl ma_ ?_
       with_reducible refine (spec_MultiplyWholes.calls k t186 _ _ t187 t190 _ _ t191 t194 t195 t198 _ ?side1 ?side2 ?side3 ?side4 A21.out).mono ?_
       (case side1 => repeat (first | exact (Kd.R_reads' HO189.out).2.2 | (with_reducible refine Kd.C_alloc ?_ _) | (with_reducible refine Kd.C_drewN ?_ _) | (with_reducible refine Kd.C_drew ?_)))
       (case side2 => exact (Kd.R_reads' HO189.out).2.1)
       (case side3 => repeat (first | exact (Kd.R_reads' HO193.out).2.2 | (with_reducible refine Kd.C_alloc ?_ _) | (with_reducible refine Kd.C_drewN ?_ _) | (with_reducible refine Kd.C_drew ?_)))
       (case side4 => exact (Kd.R_reads' HO193.out).2.1)
       rintro e w39 ⟨v196, rfl, ho0, hb⟩
       refine ⟨_, rfl, ?_⟩
       have n0_ := am_ (Kd.R_elder' (kr_ HO189) (Kd.R_base ho0) hb); have n1_ := am_ (Kd.R_elder' (kr_ HO193) (Kd.R_base ho0) hb); have n2_ := am_ (Kd.R_lower (Kd.R_new' (Kd.R_new' ho0 (Kd.R_lt (kr_ HO189))) (Kd.R_lt (kr_ HO193))) (below_size (bl_ HB))); have n3_ := am_ (blk_below (bk_ BK182) hb); have n4_ := am_ (blk_below (bk_ BK183) hb); have n5_ := am_ (blk_below (bk_ BK199) hb); have n6_ := am_ (below_step (bl_ HB) hb); clear HO189 HO193 BK182 BK183 BK199 HB; have HO189 := n0_; have HO193 := n1_; have HO197 := n2_; have BK182 := n3_; have BK183 := n4_; have BK199 := n5_; have HB := n6_; clear n0_ n1_ n2_ n3_ n4_ n5_ n6_; (try clear hb); (try clear hb2); (try clear hk); (try clear hi); (try clear ho0)
       refine hK.out _ _ ⟨(blk_cell BK182.out 0).trans rfl, (blk_cell BK182.out 1).trans rfl, (blk_cell BK183.out 0).trans rfl, (blk_cell BK183.out 1).trans rfl⟩ (fun hHeld => ?_)
       clear hK K
       refine norm_ (a' := ?_) ?_ ?_
       rotate_left
       ·show Act.put _ (some 32) _ = _
        exact nm_
       refine pure_ (i := 5) (N := some 27) (v := ?_) (a' := ?_) #[true, true, true, true, true, true, false, false, true, false, false] rfl rfl (any_of HT_.out (by kernel_rfl)) (fun _ _ _ h => h) (Or.inl ⟨by rfl, ?_⟩) ?_ ?_
       rotate_left
       ·intro w'
        go_simp
        with_reducible rfl
       rotate_left
       ·exact nm_
       refine pure_ (i := 6) (N := some 33) (v := ?_) (a' := ?_) #[true, true, true, true, true, true, true, false, true, false, false] rfl rfl (any_of HT_.out (by kernel_rfl)) (fun _ _ _ h => h) (Or.inl ⟨by rfl, ?_⟩) ?_ ?_
       rotate_left
       ·intro w'
        go_simp
        with_reducible rfl
       rotate_left
       ·exact nm_
       refine pure_ (i := 7) (N := some 34) (v := ?_) (a' := ?_) #[true, true, true, true, true, true, true, true, true, false, false] rfl rfl (any_of HT_.out (by kernel_rfl)) (fun _ _ _ h => h) (Or.inl ⟨by rfl, ?_⟩) ?_ ?_
       rotate_left
       ·intro w'
        go_simp
        with_reducible rfl
       rotate_left
       ·exact nm_
       exact norm_ (by simp only [putAll, Act.put, List.setIfInBounds_toArray, List.set_cons_zero, List.set_cons_succ]) (hCont (.slice Ao37 t187.length co37, .slice Ao38 t191.length co38, v196, gb199) _ ⟨hHeld, (km_ HO189 (fun _ hk => ⟨hk.1.2, hk.2⟩)), (km_ HO193 (fun _ hk => ⟨hk.1.2, hk.2⟩)), (km_ HO197 (fun _ hk => ⟨hk.1.2, hk.2⟩)), (bk_ BK182), (bk_ BK183), (bk_ BK199), GW199.out, GE199.out, NB182_199.out, NB199_182.out, NB183_199.out, NB199_183.out, (bl_ HB)⟩)
     ·skip
      refine box_step ?hg (N := 6) ?hd (cs := #[.int .i64 0, .slice none 0 0]) (t := 28) ?hr ?_; (case hd => rfl); (case hg => rfl); (case hr => first | (go_simp; done) | (go_simp; rfl))
      intro gb199 hg w35 hbox hb
      have n0_ := am_ (Kd.R_below (kr_ HO189) hb); have n1_ := am_ (blk_below (bk_ BK182) hb); have n2_ := am_ (blk_below (bk_ BK183) hb); have n3_ := am_ (below_step (bl_ HB) hb); have n4_ := am_ (hbox); have n5_ := am_ (gs_ hg HB); have n6_ := am_ (gs_ hg HB); have n7_ := am_ (nl_ hg BK182); have n8_ := am_ (ng_ hg BK182); have n9_ := am_ (nl_ hg BK183); have n10_ := am_ (ng_ hg BK183); clear HO189 BK182 BK183 HB; have HO189 := n0_; have BK182 := n1_; have BK183 := n2_; have HB := n3_; have BK199 := n4_; have GW199 := n5_; have GE199 := n6_; have NB182_199 := n7_; have NB199_182 := n8_; have NB183_199 := n9_; have NB199_183 := n10_; clear n0_ n1_ n2_ n3_ n4_ n5_ n6_ n7_ n8_ n9_ n10_ hb hbox hg
      refine hK.out _ _ ⟨(blk_cell BK182.out 0).trans rfl, (blk_cell BK182.out 1).trans rfl, (blk_cell BK183.out 0).trans rfl, (blk_cell BK183.out 1).trans rfl⟩ (fun hHeld => ?_)
      clear hK K
      refine norm_ (a' := ?_) ?_ ?_
      rotate_left
      ·show Act.put _ (some 6) _ = _
       exact nm_
      refine one_ (i := 3) (N := some 31) #[true, true, true, true, false, false, false, false, true, false, false] rfl rfl (one_of HT_.out (by kernel_rfl)) (by decide) (fun K hK => ?_)
      refine goes_ Tryd.func20 (by kernel_rfl) rfl #[.agg #[.int .i64 a1_0, .slice A1_1 l1_1.length c1_1]] (by rfl) rfl rfl ma_ ?_
      with_reducible refine (laws_toWhole.calls k a1_0 _ _ l1_1 t190 t191 _ ?side1 ?side2 A20.out).mono ?_
      (case side1 => repeat (first | exact (Kd.C_below HR1_1.out HB.out) | (with_reducible refine Kd.C_alloc ?_ _) | (with_reducible refine Kd.C_drewN ?_ _) | (with_reducible refine Kd.C_drew ?_)))
      (case side2 => exact HC1_1.out)
      rintro e w36 ⟨v192, rfl, ho0, hb⟩
      refine ⟨_, rfl, ?_⟩
      have n0_ := am_ (Kd.R_elder' (kr_ HO189) (Kd.R_base ho0) hb); have n1_ := am_ (Kd.R_lower (Kd.R_new' ho0 (Kd.R_lt (kr_ HO189))) (below_size (bl_ HB))); have n2_ := am_ (blk_below (bk_ BK182) hb); have n3_ := am_ (blk_below (bk_ BK183) hb); have n4_ := am_ (blk_below (bk_ BK199) hb); have n5_ := am_ (below_step (bl_ HB) hb); clear HO189 BK182 BK183 BK199 HB; have HO189 := n0_; have HO193 := n1_; have BK182 := n2_; have BK183 := n3_; have BK199 := n4_; have HB := n5_; clear n0_ n1_ n2_ n3_ n4_ n5_; (try clear hb); (try clear hb2); (try clear hk); (try clear hi); (try clear ho0)
      obtain ⟨Ao37, co37, eo37⟩ := Kd.R_slice HO189.out
      (first | subst eo37 | (injection eo37 with f1_ f2_ f3_; have f4_ := f1_.symm; have f5_ := f3_.symm; clear f1_ f2_ f3_; subst f4_; subst f5_))
      obtain ⟨Ao38, co38, eo38⟩ := Kd.R_slice HO193.out
      (first | subst eo38 | (injection eo38 with f1_ f2_ f3_; have f4_ := f1_.symm; have f5_ := f3_.symm; clear f1_ f2_ f3_; subst f4_; subst f5_))
      refine hK.out _ _ ⟨(blk_cell BK182.out 0).trans rfl, (blk_cell BK182.out 1).trans rfl, (blk_cell BK183.out 0).trans rfl, (blk_cell BK183.out 1).trans rfl⟩ (fun hHeld => ?_)
      clear hK K
      refine norm_ (a' := ?_) ?_ ?_
      rotate_left
      ·show Act.put _ (some 31) _ = _
       exact nm_
      refine one_ (i := 4) (N := some 32) #[true, true, true, true, true, false, false, false, true, false, false] rfl rfl (one_of HT_.out (by kernel_rfl)) (by decide) (fun K hK => ?_)
      refine goes_ Tryd.func31 (by kernel_rfl) rfl #[.agg #[.int .i64 t186, .slice Ao37 t187.length co37], .agg #[.int .i64 t190, .slice Ao38 t191.length co38]] (by rfl) rfl rfl ma_ ?_
      with_reducible refine (spec_MultiplyWholes.calls k t186 _ _ t187 t190 _ _ t191 t194 t195 t198 _ ?side1 ?side2 ?side3 ?side4 A21.out).mono ?_
      (case side1 => repeat (first | exact (Kd.R_reads' HO189.out).2.2 | (with_reducible refine Kd.C_alloc ?_ _) | (with_reducible refine Kd.C_drewN ?_ _) | (with_reducible refine Kd.C_drew ?_)))
      (case side2 => exact (Kd.R_reads' HO189.out).2.1)
      (case side3 => repeat (first | exact (Kd.R_reads' HO193.out).2.2 | (with_reducible refine Kd.C_alloc ?_ _) | (with_reducible refine Kd.C_drewN ?_ _) | (with_reducible refine Kd.C_drew ?_)))
      (case side4 => exact (Kd.R_reads' HO193.out).2.1)
      rintro e w39 ⟨v196, rfl, ho0, hb⟩
      refine ⟨_, rfl, ?_⟩
      have n0_ := am_ (Kd.R_elder' (kr_ HO189) (Kd.R_base ho0) hb); have n1_ := am_ (Kd.R_elder' (kr_ HO193) (Kd.R_base ho0) hb); have n2_ := am_ (Kd.R_lower (Kd.R_new' (Kd.R_new' ho0 (Kd.R_lt (kr_ HO189))) (Kd.R_lt (kr_ HO193))) (below_size (bl_ HB))); have n3_ := am_ (blk_below (bk_ BK182) hb); have n4_ := am_ (blk_below (bk_ BK183) hb); have n5_ := am_ (blk_below (bk_ BK199) hb); have n6_ := am_ (below_step (bl_ HB) hb); clear HO189 HO193 BK182 BK183 BK199 HB; have HO189 := n0_; have HO193 := n1_; have HO197 := n2_; have BK182 := n3_; have BK183 := n4_; have BK199 := n5_; have HB := n6_; clear n0_ n1_ n2_ n3_ n4_ n5_ n6_; (try clear hb); (try clear hb2); (try clear hk); (try clear hi); (try clear ho0)
      refine hK.out _ _ ⟨(blk_cell BK182.out 0).trans rfl, (blk_cell BK182.out 1).trans rfl, (blk_cell BK183.out 0).trans rfl, (blk_cell BK183.out 1).trans rfl⟩ (fun hHeld => ?_)
      clear hK K
      refine norm_ (a' := ?_) ?_ ?_
      rotate_left
      ·show Act.put _ (some 32) _ = _
       exact nm_
      refine pure_ (i := 5) (N := some 27) (v := ?_) (a' := ?_) #[true, true, true, true, true, true, false, false, true, false, false] rfl rfl (any_of HT_.out (by kernel_rfl)) (fun _ _ _ h => h) (Or.inl ⟨by rfl, ?_⟩) ?_ ?_
      rotate_left
      ·intro w'
       go_simp
       with_reducible rfl
      rotate_left
      ·exact nm_
      refine pure_ (i := 6) (N := some 33) (v := ?_) (a' := ?_) #[true, true, true, true, true, true, true, false, true, false, false] rfl rfl (any_of HT_.out (by kernel_rfl)) (fun _ _ _ h => h) (Or.inl ⟨by rfl, ?_⟩) ?_ ?_
      rotate_left
      ·intro w'
       go_simp
       with_reducible rfl
      rotate_left
      ·exact nm_
      refine pure_ (i := 7) (N := some 34) (v := ?_) (a' := ?_) #[true, true, true, true, true, true, true, true, true, false, false] rfl rfl (any_of HT_.out (by kernel_rfl)) (fun _ _ _ h => h) (Or.inl ⟨by rfl, ?_⟩) ?_ ?_
      rotate_left
      ·intro w'
       go_simp
       with_reducible rfl
      rotate_left
      ·exact nm_
      exact norm_ (by simp only [putAll, Act.put, List.setIfInBounds_toArray, List.set_cons_zero, List.set_cons_succ]) (hCont (.slice Ao37 t187.length co37, .slice Ao38 t191.length co38, v196, gb199) _ ⟨hHeld, (km_ HO189 (fun _ hk => ⟨hk.1.2, hk.2⟩)), (km_ HO193 (fun _ hk => ⟨hk.1.2, hk.2⟩)), (km_ HO197 (fun _ hk => ⟨hk.1.2, hk.2⟩)), (bk_ BK182), (bk_ BK183), (bk_ BK199), GW199.out, GE199.out, NB182_199.out, NB199_182.out, NB183_199.out, NB199_183.out, (bl_ HB)⟩)
    ·skip
     refine box_step ?hg (N := 6) ?hd (cs := #[.int .i64 0, .slice none 0 0]) (t := 28) ?hr ?_; (case hd => rfl); (case hg => rfl); (case hr => first | (go_simp; done) | (go_simp; rfl))
     intro gb199 hg w34 hbox hb
     have n0_ := am_ (blk_below (bk_ BK182) hb); have n1_ := am_ (blk_below (bk_ BK183) hb); have n2_ := am_ (below_step (bl_ HB) hb); have n3_ := am_ (hbox); have n4_ := am_ (gs_ hg HB); have n5_ := am_ (gs_ hg HB); have n6_ := am_ (nl_ hg BK182); have n7_ := am_ (ng_ hg BK182); have n8_ := am_ (nl_ hg BK183); have n9_ := am_ (ng_ hg BK183); clear BK182 BK183 HB; have BK182 := n0_; have BK183 := n1_; have HB := n2_; have BK199 := n3_; have GW199 := n4_; have GE199 := n5_; have NB182_199 := n6_; have NB199_182 := n7_; have NB183_199 := n8_; have NB199_183 := n9_; clear n0_ n1_ n2_ n3_ n4_ n5_ n6_ n7_ n8_ n9_ hb hbox hg
     refine hK.out _ _ ⟨(blk_cell BK182.out 0).trans rfl, (blk_cell BK182.out 1).trans rfl, (blk_cell BK183.out 0).trans rfl, (blk_cell BK183.out 1).trans rfl⟩ (fun hHeld => ?_)
     clear hK K
     refine norm_ (a' := ?_) ?_ ?_
     rotate_left
     ·show Act.put _ (some 6) _ = _
      exact nm_
     refine one_ (i := 1) (N := some 29) #[true, true, true, false, false, false, false, false, true, false, false] rfl rfl (one_of HT_.out (by kernel_rfl)) (by decide) (fun K hK => ?_)
     refine goes_ Tryd.func20 (by kernel_rfl) rfl #[.agg #[.int .i64 a0_0, .slice A0_1 l0_1.length c0_1]] (by rfl) rfl rfl ma_ ?_
     with_reducible refine (laws_toWhole.calls k a0_0 _ _ l0_1 t186 t187 _ ?side1 ?side2 A19.out).mono ?_
     (case side1 => repeat (first | exact (Kd.C_below HR0_1.out HB.out) | (with_reducible refine Kd.C_alloc ?_ _) | (with_reducible refine Kd.C_drewN ?_ _) | (with_reducible refine Kd.C_drew ?_)))
     (case side2 => exact HC0_1.out)
     rintro e w35 ⟨v188, rfl, ho0, hb⟩
     refine ⟨_, rfl, ?_⟩
     have n0_ := am_ (Kd.R_lower ho0 (below_size (bl_ HB))); have n1_ := am_ (blk_below (bk_ BK182) hb); have n2_ := am_ (blk_below (bk_ BK183) hb); have n3_ := am_ (blk_below (bk_ BK199) hb); have n4_ := am_ (below_step (bl_ HB) hb); clear BK182 BK183 BK199 HB; have HO189 := n0_; have BK182 := n1_; have BK183 := n2_; have BK199 := n3_; have HB := n4_; clear n0_ n1_ n2_ n3_ n4_; (try clear hb); (try clear hb2); (try clear hk); (try clear hi); (try clear ho0)
     refine hK.out _ _ ⟨(blk_cell BK182.out 0).trans rfl, (blk_cell BK182.out 1).trans rfl, (blk_cell BK183.out 0).trans rfl, (blk_cell BK183.out 1).trans rfl⟩ (fun hHeld => ?_)
     clear hK K
     refine norm_ (a' := ?_) ?_ ?_
     rotate_left
     ·show Act.put _ (some 29) _ = _
      exact nm_
     refine one_ (i := 3) (N := some 31) #[true, true, true, true, false, false, false, false, true, false, false] rfl rfl (one_of HT_.out (by kernel_rfl)) (by decide) (fun K hK => ?_)
     refine goes_ Tryd.func20 (by kernel_rfl) rfl #[.agg #[.int .i64 a1_0, .slice A1_1 l1_1.length c1_1]] (by rfl) rfl rfl ma_ ?_
     with_reducible refine (laws_toWhole.calls k a1_0 _ _ l1_1 t190 t191 _ ?side1 ?side2 A20.out).mono ?_
     (case side1 => repeat (first | exact (Kd.C_below HR1_1.out HB.out) | (with_reducible refine Kd.C_alloc ?_ _) | (with_reducible refine Kd.C_drewN ?_ _) | (with_reducible refine Kd.C_drew ?_)))
     (case side2 => exact HC1_1.out)
     rintro e w36 ⟨v192, rfl, ho0, hb⟩
     refine ⟨_, rfl, ?_⟩
     have n0_ := am_ (Kd.R_elder' (kr_ HO189) (Kd.R_base ho0) hb); have n1_ := am_ (Kd.R_lower (Kd.R_new' ho0 (Kd.R_lt (kr_ HO189))) (below_size (bl_ HB))); have n2_ := am_ (blk_below (bk_ BK182) hb); have n3_ := am_ (blk_below (bk_ BK183) hb); have n4_ := am_ (blk_below (bk_ BK199) hb); have n5_ := am_ (below_step (bl_ HB) hb); clear HO189 BK182 BK183 BK199 HB; have HO189 := n0_; have HO193 := n1_; have BK182 := n2_; have BK183 := n3_; have BK199 := n4_; have HB := n5_; clear n0_ n1_ n2_ n3_ n4_ n5_; (try clear hb); (try clear hb2); (try clear hk); (try clear hi); (try clear ho0)
     obtain ⟨Ao37, co37, eo37⟩ := Kd.R_slice HO189.out
     (first | subst eo37 | (injection eo37 with f1_ f2_ f3_; have f4_ := f1_.symm; have f5_ := f3_.symm; clear f1_ f2_ f3_; subst f4_; subst f5_))
     obtain ⟨Ao38, co38, eo38⟩ := Kd.R_slice HO193.out
     (first | subst eo38 | (injection eo38 with f1_ f2_ f3_; have f4_ := f1_.symm; have f5_ := f3_.symm; clear f1_ f2_ f3_; subst f4_; subst f5_))
     refine hK.out _ _ ⟨(blk_cell BK182.out 0).trans rfl, (blk_cell BK182.out 1).trans rfl, (blk_cell BK183.out 0).trans rfl, (blk_cell BK183.out 1).trans rfl⟩ (fun hHeld => ?_)
     clear hK K
     refine norm_ (a' := ?_) ?_ ?_
     rotate_left
     ·show Act.put _ (some 31) _ = _
      exact nm_
     refine one_ (i := 4) (N := some 32) #[true, true, true, true, true, false, false, false, true, false, false] rfl rfl (one_of HT_.out (by kernel_rfl)) (by decide) (fun K hK => ?_)
     refine goes_ Tryd.func31 (by kernel_rfl) rfl #[.agg #[.int .i64 t186, .slice Ao37 t187.length co37], .agg #[.int .i64 t190, .slice Ao38 t191.length co38]] (by rfl) rfl rfl ma_ ?_
     with_reducible refine (spec_MultiplyWholes.calls k t186 _ _ t187 t190 _ _ t191 t194 t195 t198 _ ?side1 ?side2 ?side3 ?side4 A21.out).mono ?_
     (case side1 => repeat (first | exact (Kd.R_reads' HO189.out).2.2 | (with_reducible refine Kd.C_alloc ?_ _) | (with_reducible refine Kd.C_drewN ?_ _) | (with_reducible refine Kd.C_drew ?_)))
     (case side2 => exact (Kd.R_reads' HO189.out).2.1)
     (case side3 => repeat (first | exact (Kd.R_reads' HO193.out).2.2 | (with_reducible refine Kd.C_alloc ?_ _) | (with_reducible refine Kd.C_drewN ?_ _) | (with_reducible refine Kd.C_drew ?_)))
     (case side4 => exact (Kd.R_reads' HO193.out).2.1)
     rintro e w39 ⟨v196, rfl, ho0, hb⟩
     refine ⟨_, rfl, ?_⟩
     have n0_ := am_ (Kd.R_elder' (kr_ HO189) (Kd.R_base ho0) hb); have n1_ := am_ (Kd.R_elder' (kr_ HO193) (Kd.R_base ho0) hb); have n2_ := am_ (Kd.R_lower (Kd.R_new' (Kd.R_new' ho0 (Kd.R_lt (kr_ HO189))) (Kd.R_lt (kr_ HO193))) (below_size (bl_ HB))); have n3_ := am_ (blk_below (bk_ BK182) hb); have n4_ := am_ (blk_below (bk_ BK183) hb); have n5_ := am_ (blk_below (bk_ BK199) hb); have n6_ := am_ (below_step (bl_ HB) hb); clear HO189 HO193 BK182 BK183 BK199 HB; have HO189 := n0_; have HO193 := n1_; have HO197 := n2_; have BK182 := n3_; have BK183 := n4_; have BK199 := n5_; have HB := n6_; clear n0_ n1_ n2_ n3_ n4_ n5_ n6_; (try clear hb); (try clear hb2); (try clear hk); (try clear hi); (try clear ho0)
     refine hK.out _ _ ⟨(blk_cell BK182.out 0).trans rfl, (blk_cell BK182.out 1).trans rfl, (blk_cell BK183.out 0).trans rfl, (blk_cell BK183.out 1).trans rfl⟩ (fun hHeld => ?_)
     clear hK K
     refine norm_ (a' := ?_) ?_ ?_
     rotate_left
     ·show Act.put _ (some 32) _ = _
      exact nm_
     refine pure_ (i := 5) (N := some 27) (v := ?_) (a' := ?_) #[true, true, true, true, true, true, false, false, true, false, false] rfl rfl (any_of HT_.out (by kernel_rfl)) (fun _ _ _ h => h) (Or.inl ⟨by rfl, ?_⟩) ?_ ?_
     rotate_left
     ·intro w'
      go_simp
      with_reducible rfl
     rotate_left
     ·exact nm_
     refine pure_ (i := 6) (N := some 33) (v := ?_) (a' := ?_) #[true, true, true, true, true, true, true, false, true, false, false] rfl rfl (any_of HT_.out (by kernel_rfl)) (fun _ _ _ h => h) (Or.inl ⟨by rfl, ?_⟩) ?_ ?_
     rotate_left
     ·intro w'
      go_simp
      with_reducible rfl
     rotate_left
     ·exact nm_
     refine pure_ (i := 7) (N := some 34) (v := ?_) (a' := ?_) #[true, true, true, true, true, true, true, true, true, false, false] rfl rfl (any_of HT_.out (by kernel_rfl)) (fun _ _ _ h => h) (Or.inl ⟨by rfl, ?_⟩) ?_ ?_
     rotate_left
     ·intro w'
      go_simp
      with_reducible rfl
     rotate_left
     ·exact nm_
     exact norm_ (by simp only [putAll, Act.put, List.setIfInBounds_toArray, List.set_cons_zero, List.set_cons_succ]) (hCont (.slice Ao37 t187.length co37, .slice Ao38 t191.length co38, v196, gb199) _ ⟨hHeld, (km_ HO189 (fun _ hk => ⟨hk.1.2, hk.2⟩)), (km_ HO193 (fun _ hk => ⟨hk.1.2, hk.2⟩)), (km_ HO197 (fun _ hk => ⟨hk.1.2, hk.2⟩)), (bk_ BK182), (bk_ BK183), (bk_ BK199), GW199.out, GE199.out, NB182_199.out, NB199_182.out, NB183_199.out, NB199_183.out, (bl_ HB)⟩)
   rintro ⟨v188, v192, v196, gb199⟩ w40 ⟨hS_, h0_, h1_, h2_, h3_, h4_, h5_, h6_, h7_, h8_, h9_, h10_, h11_, h12_⟩
   have n0_ : Aside0 (Kd.R (Kd.int .i64) 2 w40 w.heap.size (fun k_ => some k_ ≠ (v192 : Value).ownBlock ∧ some k_ ≠ (v196 : Value).ownBlock) v188 t187) := ⟨h0_⟩
   have n1_ : Aside0 (Kd.R (Kd.int .i64) 2 w40 w.heap.size (fun k_ => some k_ ≠ (v188 : Value).ownBlock ∧ some k_ ≠ (v196 : Value).ownBlock) v192 t191) := ⟨h1_⟩
   have n2_ : Aside0 (Kd.R (Kd.int .i64) 2 w40 w.heap.size (fun k_ => some k_ ≠ (v188 : Value).ownBlock ∧ some k_ ≠ (v192 : Value).ownBlock) v196 t195) := ⟨h2_⟩
   have n3_ : Aside0 (w40.heap[gb182]? = some (.cells #[.int .i64 a0_0, .slice A0_1 l0_1.length c0_1] 24 (0, 0))) := ⟨h3_⟩
   have n4_ : Aside0 (w40.heap[gb183]? = some (.cells #[.int .i64 a1_0, .slice A1_1 l1_1.length c1_1] 24 (0, 0))) := ⟨h4_⟩
   have n5_ : Aside0 (w40.heap[gb199]? = some (.cells #[.int .i64 0, .slice none 0 0] 28 (0, 0))) := ⟨h5_⟩
   have n6_ : Aside0 (w.heap.size ≤ gb199) := ⟨h6_⟩
   have n7_ : Aside0 (w.heap.size ≤ gb199) := ⟨h7_⟩
   have n8_ : Aside0 (gb182 ≠ gb199) := ⟨h8_⟩
   have n9_ : Aside0 (gb199 ≠ gb182) := ⟨h9_⟩
   have n10_ : Aside0 (gb183 ≠ gb199) := ⟨h10_⟩
   have n11_ : Aside0 (gb199 ≠ gb183) := ⟨h11_⟩
   have n12_ : Aside0 (Below w.heap.size w w40) := ⟨h12_⟩
   clear BK182 BK183 HB h0_ h1_ h2_ h3_ h4_ h5_ h6_ h7_ h8_ h9_ h10_ h11_ h12_; have HO189 := n0_; have HO193 := n1_; have HO197 := n2_; have BK182 := n3_; have BK183 := n4_; have BK199 := n5_; have GW199 := n6_; have GE199 := n7_; have NB182_199 := n8_; have NB199_182 := n9_; have NB183_199 := n10_; have NB199_183 := n11_; have HB := n12_; clear n0_ n1_ n2_ n3_ n4_ n5_ n6_ n7_ n8_ n9_ n10_ n11_ n12_
   have hHeld : w40.cell? ⟨gb182, 0, none⟩ = some (.int .i64 a0_0) ∧ w40.cell? ⟨gb182, 1, none⟩ = some (.slice A0_1 l0_1.length c0_1) ∧ w40.cell? ⟨gb183, 0, none⟩ = some (.int .i64 a1_0) ∧ w40.cell? ⟨gb183, 1, none⟩ = some (.slice A1_1 l1_1.length c1_1) := hS_
   obtain ⟨Ao42, co42, eo42⟩ := Kd.R_slice HO197.out
   (first | subst eo42 | (injection eo42 with f1_ f2_ f3_; have f4_ := f1_.symm; have f5_ := f3_.symm; clear f1_ f2_ f3_; subst f4_; subst f5_))
   refine norm_ (a' := ?_) ?_ ?_
   rotate_left
   ·simp only [putAll, Act.put, List.setIfInBounds_toArray, List.set_cons_zero, List.set_cons_succ]
    rfl
   refine one_ (i := 9) (N := none) #[true, true, true, true, true, true, true, true, true, true, false] rfl rfl (one_of HT_.out (by kernel_rfl)) (by decide) (fun K hK => ?_)
   have hs41 : w40.cell? ⟨gb199, 0, none⟩ = some (.int .i64 0) := (blk_cell BK199.out 0).trans rfl
   have hfs41 := blk_frozen BK199.out 0; have hns41_0 := NB182_199.out; have hns41_1 := NB183_199.out; have hms41_0 := NB199_182.out; have hms41_1 := NB199_183.out
   have hs43 : w40.cell? ⟨gb199, 1, none⟩ = some (.slice none 0 0) := (blk_cell BK199.out 1).trans rfl
   have hfs43 := blk_frozen BK199.out 1; have hns43_0 := NB182_199.out; have hns43_1 := NB183_199.out; have hms43_0 := NB199_182.out; have hms43_1 := NB199_183.out
   refine skip_ (w1 := ?_) (by rfl) rfl ?_ ?_
   rotate_left
   ·go_simp
    rfl
   refine hK.out _ _ ⟨((cell_far (p := ⟨gb199, _, none⟩) NB182_199.out _).trans (((cell_far (p := ⟨gb199, _, none⟩) NB182_199.out _).trans (hHeld.1)))), ((cell_far (p := ⟨gb199, _, none⟩) NB182_199.out _).trans (((cell_far (p := ⟨gb199, _, none⟩) NB182_199.out _).trans (hHeld.2.1)))), ((cell_far (p := ⟨gb199, _, none⟩) NB183_199.out _).trans (((cell_far (p := ⟨gb199, _, none⟩) NB183_199.out _).trans (hHeld.2.2.1)))), ((cell_far (p := ⟨gb199, _, none⟩) NB183_199.out _).trans (((cell_far (p := ⟨gb199, _, none⟩) NB183_199.out _).trans (hHeld.2.2.2))))⟩ (fun hHeld => ?_)
   clear hK K
   refine pure_ (i := 10) (N := some 7) (v := ?_) (a' := ?_) #[true, true, true, true, true, true, true, true, true, true, true] rfl rfl (any_of HT_.out (by kernel_rfl)) (fun _ _ _ h => h) (Or.inl ⟨by rfl, ?_⟩) ?_ ?_
   rotate_left
   ·intro w'
    go_simp
    with_reducible rfl
   rotate_left
   ·exact nm_
   refine done_ (done_of HT_.out (by kernel_rfl)) ?_
   have hnb44 := NB182_199.out; have hnc44 := NB199_182.out
   have hcz45_0 : w40.cell? ⟨gb182, 0, none⟩ = some (.int .i64 a0_0) := (blk_cell BK182.out 0).trans rfl
   have hcz45_1 : w40.cell? ⟨gb182, 1, none⟩ = some (.slice A0_1 l0_1.length c0_1) := (blk_cell BK182.out 1).trans rfl
   have hfz45_0 := blk_frozen BK182.out 0; have hfz45_1 := blk_frozen BK182.out 1
   go_upto_region 12 with (first | ((with_reducible refine gate_callee (f := 20) rfl ?_); refine goesL_ (some 36) rfl rfl Tryd.func20 (by kernel_rfl) rfl #[.agg #[.int .i64 a0_0, .slice A0_1 l0_1.length c0_1]] rfl ma_ ?_; (with_reducible refine (laws_toWhole.calls k a0_0 _ _ l0_1 t200 t201 _ ?side1 ?side2 A22.out).mono ?_); (case side1 => exact Kd.C_below HR0_1.out (bl_ HB)); (case side2 => exact HC0_1.out); rintro e w46 ⟨v202, rfl, ho0, hb⟩; refine ⟨_, rfl, ?_⟩; have n0_ := am_ (Kd.R_elder' (rg_ HO189 BK199) (Kd.R_base ho0) hb); have n1_ := am_ (Kd.R_elder' (rg_ HO193 BK199) (Kd.R_base ho0) hb); have n2_ := am_ (Kd.R_elder' (rg_ HO197 BK199) (Kd.R_base ho0) hb); have n3_ := am_ (Kd.R_lower (Kd.R_new' (Kd.R_new' (Kd.R_new' ho0 (Kd.R_lt (rg_ HO189 BK199))) (Kd.R_lt (rg_ HO193 BK199))) (Kd.R_lt (rg_ HO197 BK199))) (below_size (bl_ HB))); have n4_ := am_ (blk_below (bk_ BK182) hb); have n5_ := am_ (blk_below (bk_ BK183) hb); have n6_ := am_ (blk_below (g := gb199) (o := .cells #[.int .i64 t194, .slice Ao42 t195.length co42] 28 (0, 0)) (by (with_reducible repeat (first | refine blk_drewN ?_ _ | refine blk_drew ?_ | refine blk_alloc ?_ _)); refine blk_put (cs := #[.int .i64 t194, .slice none 0 0]) ?_ 1 _ rfl; (with_reducible repeat (first | refine blk_drewN ?_ _ | refine blk_drew ?_ | refine blk_alloc ?_ _)); refine blk_put (cs := #[.int .i64 0, .slice none 0 0]) ?_ 0 _ rfl; (with_reducible repeat (first | refine blk_drewN ?_ _ | refine blk_drew ?_ | refine blk_alloc ?_ _)); exact BK199.out) hb); have n7_ := am_ (below_step (bl_ HB) hb); clear HO189; clear HO193; clear HO197; clear BK182; clear BK183; clear BK199; clear HB; have HO189 := n0_; have HO193 := n1_; have HO197 := n2_; have HO203 := n3_; have BK182 := n4_; have BK183 := n5_; have BK199 := n6_; have HB := n7_; clear n0_ n1_ n2_ n3_ n4_ n5_ n6_ n7_; (try clear hb); (try clear hb2); (try clear hk); (try clear hi); (try clear ho0)) | ((with_reducible refine gate_dst (N := 8) rfl ?_); refine box_event ?hg (N := 8) ?hd (cs := #[.int .i64 0, .slice none 0 0]) (t := 28) ?hr ?_; (case hd => rfl); (case hg => rfl); (case hr => first | (go_simp; done) | (go_simp; rfl)); intro gb204 hg w47 hbox hb; have n0_ := am_ (Kd.R_below (kr_ HO189) hb); have n1_ := am_ (Kd.R_below (kr_ HO193) hb); have n2_ := am_ (Kd.R_below (kr_ HO197) hb); have n3_ := am_ (Kd.R_below (kr_ HO203) hb); have n4_ := am_ (blk_below (bk_ BK182) hb); have n5_ := am_ (blk_below (bk_ BK183) hb); have n6_ := am_ (blk_below (bk_ BK199) hb); have n7_ := am_ (below_step (bl_ HB) hb); have n8_ := am_ (hbox); have n9_ := am_ (gs_ hg HB); have n10_ := am_ (gs_ hg HB); have n11_ := am_ (nl_ hg BK182); have n12_ := am_ (ng_ hg BK182); have n13_ := am_ (nl_ hg BK183); have n14_ := am_ (ng_ hg BK183); have n15_ := am_ (nl_ hg BK199); have n16_ := am_ (ng_ hg BK199); clear HO189; clear HO193; clear HO197; clear HO203; clear BK182; clear BK183; clear BK199; clear HB; have HO189 := n0_; have HO193 := n1_; have HO197 := n2_; have HO203 := n3_; have BK182 := n4_; have BK183 := n5_; have BK199 := n6_; have HB := n7_; have BK204 := n8_; have GW204 := n9_; have GE204 := n10_; have NB182_204 := n11_; have NB204_182 := n12_; have NB183_204 := n13_; have NB204_183 := n14_; have NB199_204 := n15_; have NB204_199 := n16_; clear n0_ n1_ n2_ n3_ n4_ n5_ n6_ n7_ n8_ n9_ n10_ n11_ n12_ n13_ n14_ n15_ n16_; clear hb hbox hg; have hnb48 := NB204_182.out; have hnc48 := NB182_204.out; have hnb49 := NB204_183.out; have hnc49 := NB183_204.out; have hnb50 := NB204_199.out; have hnc50 := NB199_204.out; have hcz51_0 : w47.cell? ⟨gb204, 0, none⟩ = some (.int .i64 0) := (blk_cell BK204.out 0).trans rfl; have hcz51_1 : w47.cell? ⟨gb204, 1, none⟩ = some (.slice none 0 0) := (blk_cell BK204.out 1).trans rfl; have hfz51_0 := blk_frozen BK204.out 0; have hfz51_1 := blk_frozen BK204.out 1; obtain ⟨Ao52, co52, eo52⟩ := Kd.R_slice HO203.out; subst eo52; have hnb53 := NB183_199.out; have hnc53 := NB199_183.out; have hcz54_0 : w47.cell? ⟨gb183, 0, none⟩ = some (.int .i64 a1_0) := (blk_cell BK183.out 0).trans rfl; have hcz54_1 : w47.cell? ⟨gb183, 1, none⟩ = some (.slice A1_1 l1_1.length c1_1) := (blk_cell BK183.out 1).trans rfl; have hfz54_0 := blk_frozen BK183.out 0; have hfz54_1 := blk_frozen BK183.out 1) | ((with_reducible refine gate_callee (f := 20) rfl ?_); refine goesL_ (some 38) rfl rfl Tryd.func20 (by kernel_rfl) rfl #[.agg #[.int .i64 a1_0, .slice A1_1 l1_1.length c1_1]] rfl ma_ ?_; (with_reducible refine (laws_toWhole.calls k a1_0 _ _ l1_1 t205 t206 _ ?side1 ?side2 A23.out).mono ?_); (case side1 => exact Kd.C_below HR1_1.out (bl_ HB)); (case side2 => exact HC1_1.out); rintro e w55 ⟨v207, rfl, ho0, hb⟩; refine ⟨_, rfl, ?_⟩; have n0_ := am_ (Kd.R_elder' (rg_ HO189 BK204) (Kd.R_base ho0) hb); have n1_ := am_ (Kd.R_elder' (rg_ HO193 BK204) (Kd.R_base ho0) hb); have n2_ := am_ (Kd.R_elder' (rg_ HO197 BK204) (Kd.R_base ho0) hb); have n3_ := am_ (Kd.R_elder' (rg_ HO203 BK204) (Kd.R_base ho0) hb); have n4_ := am_ (Kd.R_lower (Kd.R_new' (Kd.R_new' (Kd.R_new' (Kd.R_new' ho0 (Kd.R_lt (rg_ HO189 BK204))) (Kd.R_lt (rg_ HO193 BK204))) (Kd.R_lt (rg_ HO197 BK204))) (Kd.R_lt (rg_ HO203 BK204))) (below_size (bl_ HB))); have n5_ := am_ (blk_below (bk_ BK182) hb); have n6_ := am_ (blk_below (bk_ BK183) hb); have n7_ := am_ (blk_below (bk_ BK199) hb); have n8_ := am_ (blk_below (g := gb204) (o := .cells #[.int .i64 t200, .slice Ao52 t201.length co52] 28 (0, 0)) (by (with_reducible repeat (first | refine blk_drewN ?_ _ | refine blk_drew ?_ | refine blk_alloc ?_ _)); refine blk_put (cs := #[.int .i64 t200, .slice none 0 0]) ?_ 1 _ rfl; (with_reducible repeat (first | refine blk_drewN ?_ _ | refine blk_drew ?_ | refine blk_alloc ?_ _)); refine blk_put (cs := #[.int .i64 0, .slice none 0 0]) ?_ 0 _ rfl; (with_reducible repeat (first | refine blk_drewN ?_ _ | refine blk_drew ?_ | refine blk_alloc ?_ _)); exact BK204.out) hb); have n9_ := am_ (below_step (bl_ HB) hb); clear HO189; clear HO193; clear HO197; clear HO203; clear BK182; clear BK183; clear BK199; clear BK204; clear HB; have HO189 := n0_; have HO193 := n1_; have HO197 := n2_; have HO203 := n3_; have HO208 := n4_; have BK182 := n5_; have BK183 := n6_; have BK199 := n7_; have BK204 := n8_; have HB := n9_; clear n0_ n1_ n2_ n3_ n4_ n5_ n6_ n7_ n8_ n9_; (try clear hb); (try clear hb2); (try clear hk); (try clear hi); (try clear ho0)) | ((with_reducible refine gate_dst (N := 9) rfl ?_); refine box_event ?hg (N := 9) ?hd (cs := #[.int .i64 0, .slice none 0 0]) (t := 28) ?hr ?_; (case hd => rfl); (case hg => rfl); (case hr => first | (go_simp; done) | (go_simp; rfl)); intro gb209 hg w56 hbox hb; have n0_ := am_ (Kd.R_below (kr_ HO189) hb); have n1_ := am_ (Kd.R_below (kr_ HO193) hb); have n2_ := am_ (Kd.R_below (kr_ HO197) hb); have n3_ := am_ (Kd.R_below (kr_ HO203) hb); have n4_ := am_ (Kd.R_below (kr_ HO208) hb); have n5_ := am_ (blk_below (bk_ BK182) hb); have n6_ := am_ (blk_below (bk_ BK183) hb); have n7_ := am_ (blk_below (bk_ BK199) hb); have n8_ := am_ (blk_below (bk_ BK204) hb); have n9_ := am_ (below_step (bl_ HB) hb); have n10_ := am_ (hbox); have n11_ := am_ (gs_ hg HB); have n12_ := am_ (gs_ hg HB); have n13_ := am_ (nl_ hg BK182); have n14_ := am_ (ng_ hg BK182); have n15_ := am_ (nl_ hg BK183); have n16_ := am_ (ng_ hg BK183); have n17_ := am_ (nl_ hg BK199); have n18_ := am_ (ng_ hg BK199); have n19_ := am_ (nl_ hg BK204); have n20_ := am_ (ng_ hg BK204); clear HO189; clear HO193; clear HO197; clear HO203; clear HO208; clear BK182; clear BK183; clear BK199; clear BK204; clear HB; have HO189 := n0_; have HO193 := n1_; have HO197 := n2_; have HO203 := n3_; have HO208 := n4_; have BK182 := n5_; have BK183 := n6_; have BK199 := n7_; have BK204 := n8_; have HB := n9_; have BK209 := n10_; have GW209 := n11_; have GE209 := n12_; have NB182_209 := n13_; have NB209_182 := n14_; have NB183_209 := n15_; have NB209_183 := n16_; have NB199_209 := n17_; have NB209_199 := n18_; have NB204_209 := n19_; have NB209_204 := n20_; clear n0_ n1_ n2_ n3_ n4_ n5_ n6_ n7_ n8_ n9_ n10_ n11_ n12_ n13_ n14_ n15_ n16_ n17_ n18_ n19_ n20_; clear hb hbox hg; have hnb57 := NB209_182.out; have hnc57 := NB182_209.out; have hnb58 := NB209_183.out; have hnc58 := NB183_209.out; have hnb59 := NB209_199.out; have hnc59 := NB199_209.out; have hnb60 := NB209_204.out; have hnc60 := NB204_209.out; have hcz61_0 : w56.cell? ⟨gb209, 0, none⟩ = some (.int .i64 0) := (blk_cell BK209.out 0).trans rfl; have hcz61_1 : w56.cell? ⟨gb209, 1, none⟩ = some (.slice none 0 0) := (blk_cell BK209.out 1).trans rfl; have hfz61_0 := blk_frozen BK209.out 0; have hfz61_1 := blk_frozen BK209.out 1; obtain ⟨Ao62, co62, eo62⟩ := Kd.R_slice HO208.out; subst eo62; have hcz63_0 : w56.cell? ⟨gb204, 0, none⟩ = some (.int .i64 t200) := (blk_cell BK204.out 0).trans rfl; have hcz63_1 : w56.cell? ⟨gb204, 1, none⟩ = some (.slice Ao52 t201.length co52) := (blk_cell BK204.out 1).trans rfl; have hfz63_0 := blk_frozen BK204.out 0; have hfz63_1 := blk_frozen BK204.out 1) | ((with_reducible refine gate_callee (f := 32) rfl ?_); refine goesL_ (some 42) rfl rfl Tryd.func32 (by kernel_rfl) rfl #[.agg #[.int .i64 t200, .slice Ao52 t201.length co52], .agg #[.int .i64 t205, .slice Ao62 t206.length co62]] rfl ma_ ?_; (with_reducible refine (impl_MultiplyWholes.calls t200 _ _ t201 t205 _ _ t206 t210 t211 t214 _ ?side1 ?side2 ?side3 ?side4 A24.out).mono ?_); (case side1 => refine (Kd.R_reads' (e := 2) (base := w.heap.size) (ok := fun k_ => ((((True ∧ some k_ ≠ (v188 : Value).ownBlock) ∧ some k_ ≠ (v192 : Value).ownBlock) ∧ some k_ ≠ (.slice Ao42 t195.length co42 : Value).ownBlock) ∧ some k_ ≠ (.slice Ao62 t206.length co62 : Value).ownBlock)) (n := t201.length) (c := co52) ?_).2.2; exact (rg_ HO203 BK209)); (case side2 => exact (Kd.R_reads' HO203.out).2.1); (case side3 => refine (Kd.R_reads' (e := 2) (base := w.heap.size) (ok := fun k_ => ((((True ∧ some k_ ≠ (v188 : Value).ownBlock) ∧ some k_ ≠ (v192 : Value).ownBlock) ∧ some k_ ≠ (.slice Ao42 t195.length co42 : Value).ownBlock) ∧ some k_ ≠ (.slice Ao52 t201.length co52 : Value).ownBlock)) (n := t206.length) (c := co62) ?_).2.2; exact (rg_ HO208 BK209)); (case side4 => exact (Kd.R_reads' HO208.out).2.1); rintro e w64 ⟨v212, rfl, ho0, hb⟩; refine ⟨_, rfl, ?_⟩; have n0_ := am_ (Kd.R_elder' (rg_ HO189 BK209) (Kd.R_base ho0) hb); have n1_ := am_ (Kd.R_elder' (rg_ HO193 BK209) (Kd.R_base ho0) hb); have n2_ := am_ (Kd.R_elder' (rg_ HO197 BK209) (Kd.R_base ho0) hb); have n3_ := am_ (Kd.R_elder' (rg_ HO203 BK209) (Kd.R_base ho0) hb); have n4_ := am_ (Kd.R_elder' (rg_ HO208 BK209) (Kd.R_base ho0) hb); have n5_ := am_ (Kd.R_lower (Kd.R_new' (Kd.R_new' (Kd.R_new' (Kd.R_new' (Kd.R_new' ho0 (Kd.R_lt (rg_ HO189 BK209))) (Kd.R_lt (rg_ HO193 BK209))) (Kd.R_lt (rg_ HO197 BK209))) (Kd.R_lt (rg_ HO203 BK209))) (Kd.R_lt (rg_ HO208 BK209))) (below_size (bl_ HB))); have n6_ := am_ (blk_below (bk_ BK182) hb); have n7_ := am_ (blk_below (bk_ BK183) hb); have n8_ := am_ (blk_below (bk_ BK199) hb); have n9_ := am_ (blk_below (bk_ BK204) hb); have n10_ := am_ (blk_below (g := gb209) (o := .cells #[.int .i64 t205, .slice Ao62 t206.length co62] 28 (0, 0)) (by (with_reducible repeat (first | refine blk_drewN ?_ _ | refine blk_drew ?_ | refine blk_alloc ?_ _)); refine blk_put (cs := #[.int .i64 t205, .slice none 0 0]) ?_ 1 _ rfl; (with_reducible repeat (first | refine blk_drewN ?_ _ | refine blk_drew ?_ | refine blk_alloc ?_ _)); refine blk_put (cs := #[.int .i64 0, .slice none 0 0]) ?_ 0 _ rfl; (with_reducible repeat (first | refine blk_drewN ?_ _ | refine blk_drew ?_ | refine blk_alloc ?_ _)); exact BK209.out) hb); have n11_ := am_ (below_step (bl_ HB) hb); clear HO189; clear HO193; clear HO197; clear HO203; clear HO208; clear BK182; clear BK183; clear BK199; clear BK204; clear BK209; clear HB; have HO189 := n0_; have HO193 := n1_; have HO197 := n2_; have HO203 := n3_; have HO208 := n4_; have HO213 := n5_; have BK182 := n6_; have BK183 := n7_; have BK199 := n8_; have BK204 := n9_; have BK209 := n10_; have HB := n11_; clear n0_ n1_ n2_ n3_ n4_ n5_ n6_ n7_ n8_ n9_ n10_ n11_; (try clear hb); (try clear hb2); (try clear hk); (try clear hi); (try clear ho0)) | ((with_reducible refine gate_dst (N := 10) rfl ?_); refine box_event ?hg (N := 10) ?hd (cs := #[.int .i64 0, .slice none 0 0]) (t := 28) ?hr ?_; (case hd => rfl); (case hg => rfl); (case hr => first | (go_simp; done) | (go_simp; rfl)); intro gb215 hg w65 hbox hb; have n0_ := am_ (Kd.R_below (kr_ HO189) hb); have n1_ := am_ (Kd.R_below (kr_ HO193) hb); have n2_ := am_ (Kd.R_below (kr_ HO197) hb); have n3_ := am_ (Kd.R_below (kr_ HO203) hb); have n4_ := am_ (Kd.R_below (kr_ HO208) hb); have n5_ := am_ (Kd.R_below (kr_ HO213) hb); have n6_ := am_ (blk_below (bk_ BK182) hb); have n7_ := am_ (blk_below (bk_ BK183) hb); have n8_ := am_ (blk_below (bk_ BK199) hb); have n9_ := am_ (blk_below (bk_ BK204) hb); have n10_ := am_ (blk_below (bk_ BK209) hb); have n11_ := am_ (below_step (bl_ HB) hb); have n12_ := am_ (hbox); have n13_ := am_ (gs_ hg HB); have n14_ := am_ (gs_ hg HB); have n15_ := am_ (nl_ hg BK182); have n16_ := am_ (ng_ hg BK182); have n17_ := am_ (nl_ hg BK183); have n18_ := am_ (ng_ hg BK183); have n19_ := am_ (nl_ hg BK199); have n20_ := am_ (ng_ hg BK199); have n21_ := am_ (nl_ hg BK204); have n22_ := am_ (ng_ hg BK204); have n23_ := am_ (nl_ hg BK209); have n24_ := am_ (ng_ hg BK209); clear HO189; clear HO193; clear HO197; clear HO203; clear HO208; clear HO213; clear BK182; clear BK183; clear BK199; clear BK204; clear BK209; clear HB; have HO189 := n0_; have HO193 := n1_; have HO197 := n2_; have HO203 := n3_; have HO208 := n4_; have HO213 := n5_; have BK182 := n6_; have BK183 := n7_; have BK199 := n8_; have BK204 := n9_; have BK209 := n10_; have HB := n11_; have BK215 := n12_; have GW215 := n13_; have GE215 := n14_; have NB182_215 := n15_; have NB215_182 := n16_; have NB183_215 := n17_; have NB215_183 := n18_; have NB199_215 := n19_; have NB215_199 := n20_; have NB204_215 := n21_; have NB215_204 := n22_; have NB209_215 := n23_; have NB215_209 := n24_; clear n0_ n1_ n2_ n3_ n4_ n5_ n6_ n7_ n8_ n9_ n10_ n11_ n12_ n13_ n14_ n15_ n16_ n17_ n18_ n19_ n20_ n21_ n22_ n23_ n24_; clear hb hbox hg; have hnb66 := NB215_182.out; have hnc66 := NB182_215.out; have hnb67 := NB215_183.out; have hnc67 := NB183_215.out; have hnb68 := NB215_199.out; have hnc68 := NB199_215.out; have hnb69 := NB215_204.out; have hnc69 := NB204_215.out; have hnb70 := NB215_209.out; have hnc70 := NB209_215.out; have hcz71_0 : w65.cell? ⟨gb215, 0, none⟩ = some (.int .i64 0) := (blk_cell BK215.out 0).trans rfl; have hcz71_1 : w65.cell? ⟨gb215, 1, none⟩ = some (.slice none 0 0) := (blk_cell BK215.out 1).trans rfl; have hfz71_0 := blk_frozen BK215.out 0; have hfz71_1 := blk_frozen BK215.out 1; obtain ⟨Ao72, co72, eo72⟩ := Kd.R_slice HO213.out; subst eo72))
   (try simp only [Act.put, List.setIfInBounds_toArray, List.set_cons_zero, List.set_cons_succ])
   go_cut [53] (fun v53 wc => ∃ (kq : Nat) (x53_24 : Bool), v53 = .bool x53_24 ∧ Aside0 (laws_FnExactMultiplyWholes.j0 kq t198 t214 x53_24 a0_0 l0_1 a1_0 l1_1 t194 t195 t200 t201 t205 t206 t210 t211 = some r) ∧ Aside0 (kq ≤ k) ∧ Aside0 (Kd.R (Kd.int .i64) 2 wc w.heap.size (fun k_ => some k_ ≠ ((.slice Ao52 t201.length co52) : Value).ownBlock ∧ some k_ ≠ ((.slice Ao62 t206.length co62) : Value).ownBlock ∧ some k_ ≠ ((.slice Ao72 t211.length co72) : Value).ownBlock) (.slice Ao42 t195.length co42) t195) ∧ Aside0 (Kd.R (Kd.int .i64) 2 wc w.heap.size (fun k_ => some k_ ≠ ((.slice Ao42 t195.length co42) : Value).ownBlock ∧ some k_ ≠ ((.slice Ao62 t206.length co62) : Value).ownBlock ∧ some k_ ≠ ((.slice Ao72 t211.length co72) : Value).ownBlock) (.slice Ao52 t201.length co52) t201) ∧ Aside0 (Kd.R (Kd.int .i64) 2 wc w.heap.size (fun k_ => some k_ ≠ ((.slice Ao42 t195.length co42) : Value).ownBlock ∧ some k_ ≠ ((.slice Ao52 t201.length co52) : Value).ownBlock ∧ some k_ ≠ ((.slice Ao72 t211.length co72) : Value).ownBlock) (.slice Ao62 t206.length co62) t206) ∧ Aside0 (Kd.R (Kd.int .i64) 2 wc w.heap.size (fun k_ => some k_ ≠ ((.slice Ao42 t195.length co42) : Value).ownBlock ∧ some k_ ≠ ((.slice Ao52 t201.length co52) : Value).ownBlock ∧ some k_ ≠ ((.slice Ao62 t206.length co62) : Value).ownBlock) (.slice Ao72 t211.length co72) t211) ∧ Aside0 (wc.heap[gb182]? = some (.cells #[.int .i64 a0_0, (.slice A0_1 l0_1.length c0_1)] 24 (0, 0))) ∧ Aside0 (wc.heap[gb183]? = some (.cells #[.int .i64 a1_0, (.slice A1_1 l1_1.length c1_1)] 24 (0, 0))) ∧ Aside0 (wc.heap[gb199]? = some (.cells #[.int .i64 t194, (.slice Ao42 t195.length co42)] 28 (0, 0))) ∧ Aside0 (wc.heap[gb204]? = some (.cells #[.int .i64 t200, (.slice Ao52 t201.length co52)] 28 (0, 0))) ∧ Aside0 (wc.heap[gb209]? = some (.cells #[.int .i64 t205, (.slice Ao62 t206.length co62)] 28 (0, 0))) ∧ Aside0 (wc.heap[gb215]? = some (.cells #[.int .i64 t210, (.slice Ao72 t211.length co72)] 28 (0, 0))) ∧ Aside0 (Below w.heap.size w wc))
   case first =>
    have H := HC25.out; clear HC25
    replace H := Option.bind_eq_some_iff.mp H
    obtain ⟨t216, A730, H⟩ := H
    replace H : (if t216 = true then (laws_FnExactMultiplyWholes.j0 k t198 t214 (t214 != t198) a0_0 l0_1 a1_0 l1_1 t194 t195 t200 t201 t205 t206 t210 t211) else (laws_FnExactMultiplyWholes.j0 k t198 t214 true a0_0 l0_1 a1_0 l1_1 t194 t195 t200 t201 t205 t206 t210 t211)) = some r := H
    have A73 := Aside0.mk A730; clear A730
    by_cases c74 : t216 = true
    ·subst c74
     have H1 : (laws_FnExactMultiplyWholes.j0 k t198 t214 (t214 != t198) a0_0 l0_1 a1_0 l1_1 t194 t195 t200 t201 t205 t206 t210 t211) = some r := by rw [if_pos rfl] at H; exact H
     clear H; have H := H1; clear H1
     have H' := Aside0.mk H
     clear H; have hnb75 := NB215_182.out; have hnc75 := NB182_215.out; have hnb76 := NB215_183.out; have hnc76 := NB183_215.out; have hnb77 := NB215_199.out; have hnc77 := NB199_215.out; have hnb78 := NB215_204.out; have hnc78 := NB204_215.out; have hnb79 := NB215_209.out; have hnc79 := NB209_215.out
     have hcz80_0 : w65.cell? ⟨gb215, 0, none⟩ = some (.int .i64 0) := (blk_cell BK215.out 0).trans rfl
     have hcz80_1 : w65.cell? ⟨gb215, 1, none⟩ = some (.slice none 0 0) := (blk_cell BK215.out 1).trans rfl
     have hfz80_0 := blk_frozen BK215.out 0; have hfz80_1 := blk_frozen BK215.out 1; have hnb81 := NB199_182.out; have hnc81 := NB182_199.out; have hnb82 := NB199_183.out; have hnc82 := NB183_199.out; have hnb83 := NB199_204.out; have hnc83 := NB204_199.out; have hnb84 := NB199_209.out; have hnc84 := NB209_199.out
     have hcz85_0 : w65.cell? ⟨gb199, 0, none⟩ = some (.int .i64 t194) := (blk_cell BK199.out 0).trans rfl
     have hcz85_1 : w65.cell? ⟨gb199, 1, none⟩ = some (.slice Ao42 t195.length co42) := (blk_cell BK199.out 1).trans rfl
     have hfz85_0 := blk_frozen BK199.out 0; have hfz85_1 := blk_frozen BK199.out 1
     go_wp2_with (first | ((with_reducible refine gate_callee (f := 22) rfl ?_); refine goesL_ (some 47) rfl rfl Tryd.func22 (by kernel_rfl) rfl #[.agg #[.int .i64 t210, .slice Ao72 t211.length co72], .agg #[.int .i64 t194, .slice Ao42 t195.length co42]] rfl ma_ ?_; (with_reducible refine (laws_eqWhole.calls k t210 _ _ t211 t194 _ _ t195 true _ ?side1 ?side2 ?side3 ?side4 A73.out).mono ?_); (case side1 => refine (Kd.R_reads' (e := 2) (base := w.heap.size) (ok := fun k_ => (((((True ∧ some k_ ≠ (v188 : Value).ownBlock) ∧ some k_ ≠ (v192 : Value).ownBlock) ∧ some k_ ≠ (.slice Ao42 t195.length co42 : Value).ownBlock) ∧ some k_ ≠ (.slice Ao52 t201.length co52 : Value).ownBlock) ∧ some k_ ≠ (.slice Ao62 t206.length co62 : Value).ownBlock)) (n := t211.length) (c := co72) ?_).2.2; exact (rg_ HO213 BK215)); (case side2 => exact (Kd.R_reads' HO213.out).2.1); (case side3 => refine (Kd.R_reads' (e := 2) (base := w.heap.size) (ok := fun k_ => ((((some k_ ≠ (v188 : Value).ownBlock ∧ some k_ ≠ (v192 : Value).ownBlock) ∧ some k_ ≠ (.slice Ao52 t201.length co52 : Value).ownBlock) ∧ some k_ ≠ (.slice Ao62 t206.length co62 : Value).ownBlock) ∧ some k_ ≠ (.slice Ao72 t211.length co72 : Value).ownBlock)) (n := t195.length) (c := co42) ?_).2.2; exact (rg_ HO197 BK215)); (case side4 => exact (Kd.R_reads' HO197.out).2.1); rintro e w86 ⟨rfl, hb⟩; refine ⟨_, rfl, ?_⟩; have n0_ := am_ (Kd.R_below (rg_ HO189 BK215) hb); have n1_ := am_ (Kd.R_below (rg_ HO193 BK215) hb); have n2_ := am_ (Kd.R_below (rg_ HO197 BK215) hb); have n3_ := am_ (Kd.R_below (rg_ HO203 BK215) hb); have n4_ := am_ (Kd.R_below (rg_ HO208 BK215) hb); have n5_ := am_ (Kd.R_below (rg_ HO213 BK215) hb); have n6_ := am_ (blk_below (bk_ BK182) hb); have n7_ := am_ (blk_below (bk_ BK183) hb); have n8_ := am_ (blk_below (bk_ BK199) hb); have n9_ := am_ (blk_below (bk_ BK204) hb); have n10_ := am_ (blk_below (bk_ BK209) hb); have n11_ := am_ (blk_below (g := gb215) (o := .cells #[.int .i64 t210, .slice Ao72 t211.length co72] 28 (0, 0)) (by (with_reducible repeat (first | refine blk_drewN ?_ _ | refine blk_drew ?_ | refine blk_alloc ?_ _)); refine blk_put (cs := #[.int .i64 t210, .slice none 0 0]) ?_ 1 _ rfl; (with_reducible repeat (first | refine blk_drewN ?_ _ | refine blk_drew ?_ | refine blk_alloc ?_ _)); refine blk_put (cs := #[.int .i64 0, .slice none 0 0]) ?_ 0 _ rfl; (with_reducible repeat (first | refine blk_drewN ?_ _ | refine blk_drew ?_ | refine blk_alloc ?_ _)); exact BK215.out) hb); have n12_ := am_ (below_step (bl_ HB) hb); clear HO189; clear HO193; clear HO197; clear HO203; clear HO208; clear HO213; clear BK182; clear BK183; clear BK199; clear BK204; clear BK209; clear BK215; clear HB; have HO189 := n0_; have HO193 := n1_; have HO197 := n2_; have HO203 := n3_; have HO208 := n4_; have HO213 := n5_; have BK182 := n6_; have BK183 := n7_; have BK199 := n8_; have BK204 := n9_; have BK209 := n10_; have BK215 := n11_; have HB := n12_; clear n0_ n1_ n2_ n3_ n4_ n5_ n6_ n7_ n8_ n9_ n10_ n11_ n12_; (try clear hb); (try clear hb2); (try clear hk); (try clear hi)))
     go_meet
     case rel => exact ⟨_, ((t214 != t198)), (by first | rfl | (simp; done) | (simp [*]; done)), H', ⟨by first | omega | exact Nat.le_refl _⟩, ⟨km_ HO197 (fun _ hk => ⟨hk.1.1.2, ⟨hk.1.2, hk.2⟩⟩)⟩, ⟨km_ HO203 (fun _ hk => ⟨hk.1.1.2, ⟨hk.1.2, hk.2⟩⟩)⟩, ⟨km_ HO208 (fun _ hk => ⟨hk.1.1.2, ⟨hk.1.2, hk.2⟩⟩)⟩, ⟨km_ HO213 (fun _ hk => ⟨hk.1.1.2, ⟨hk.1.2, hk.2⟩⟩)⟩, ⟨bk_ BK182⟩, ⟨bk_ BK183⟩, ⟨bk_ BK199⟩, ⟨bk_ BK204⟩, ⟨bk_ BK209⟩, ⟨bk_ BK215⟩, ⟨bl_ HB⟩⟩
    ·replace c74 := Bool.eq_false_iff.mpr c74
     subst c74
     have H1 : (laws_FnExactMultiplyWholes.j0 k t198 t214 true a0_0 l0_1 a1_0 l1_1 t194 t195 t200 t201 t205 t206 t210 t211) = some r := by rw [if_neg (show ¬ (false = true) by decide)] at H; exact H
     clear H; have H := H1; clear H1
     have H' := Aside0.mk H
     clear H; have hnb87 := NB215_182.out; have hnc87 := NB182_215.out; have hnb88 := NB215_183.out; have hnc88 := NB183_215.out; have hnb89 := NB215_199.out; have hnc89 := NB199_215.out; have hnb90 := NB215_204.out; have hnc90 := NB204_215.out; have hnb91 := NB215_209.out; have hnc91 := NB209_215.out
     have hcz92_0 : w65.cell? ⟨gb215, 0, none⟩ = some (.int .i64 0) := (blk_cell BK215.out 0).trans rfl
     have hcz92_1 : w65.cell? ⟨gb215, 1, none⟩ = some (.slice none 0 0) := (blk_cell BK215.out 1).trans rfl
     have hfz92_0 := blk_frozen BK215.out 0; have hfz92_1 := blk_frozen BK215.out 1; have hnb93 := NB199_182.out; have hnc93 := NB182_199.out; have hnb94 := NB199_183.out; have hnc94 := NB183_199.out; have hnb95 := NB199_204.out; have hnc95 := NB204_199.out; have hnb96 := NB199_209.out; have hnc96 := NB209_199.out
     have hcz97_0 : w65.cell? ⟨gb199, 0, none⟩ = some (.int .i64 t194) := (blk_cell BK199.out 0).trans rfl
     have hcz97_1 : w65.cell? ⟨gb199, 1, none⟩ = some (.slice Ao42 t195.length co42) := (blk_cell BK199.out 1).trans rfl
     have hfz97_0 := blk_frozen BK199.out 0; have hfz97_1 := blk_frozen BK199.out 1
     go_wp2_with (first | ((with_reducible refine gate_callee (f := 22) rfl ?_); refine goesL_ (some 47) rfl rfl Tryd.func22 (by kernel_rfl) rfl #[.agg #[.int .i64 t210, .slice Ao72 t211.length co72], .agg #[.int .i64 t194, .slice Ao42 t195.length co42]] rfl ma_ ?_; (with_reducible refine (laws_eqWhole.calls k t210 _ _ t211 t194 _ _ t195 false _ ?side1 ?side2 ?side3 ?side4 A73.out).mono ?_); (case side1 => refine (Kd.R_reads' (e := 2) (base := w.heap.size) (ok := fun k_ => (((((True ∧ some k_ ≠ (v188 : Value).ownBlock) ∧ some k_ ≠ (v192 : Value).ownBlock) ∧ some k_ ≠ (.slice Ao42 t195.length co42 : Value).ownBlock) ∧ some k_ ≠ (.slice Ao52 t201.length co52 : Value).ownBlock) ∧ some k_ ≠ (.slice Ao62 t206.length co62 : Value).ownBlock)) (n := t211.length) (c := co72) ?_).2.2; exact (rg_ HO213 BK215)); (case side2 => exact (Kd.R_reads' HO213.out).2.1); (case side3 => refine (Kd.R_reads' (e := 2) (base := w.heap.size) (ok := fun k_ => ((((some k_ ≠ (v188 : Value).ownBlock ∧ some k_ ≠ (v192 : Value).ownBlock) ∧ some k_ ≠ (.slice Ao52 t201.length co52 : Value).ownBlock) ∧ some k_ ≠ (.slice Ao62 t206.length co62 : Value).ownBlock) ∧ some k_ ≠ (.slice Ao72 t211.length co72 : Value).ownBlock)) (n := t195.length) (c := co42) ?_).2.2; exact (rg_ HO197 BK215)); (case side4 => exact (Kd.R_reads' HO197.out).2.1); rintro e w98 ⟨rfl, hb⟩; refine ⟨_, rfl, ?_⟩; have n0_ := am_ (Kd.R_below (rg_ HO189 BK215) hb); have n1_ := am_ (Kd.R_below (rg_ HO193 BK215) hb); have n2_ := am_ (Kd.R_below (rg_ HO197 BK215) hb); have n3_ := am_ (Kd.R_below (rg_ HO203 BK215) hb); have n4_ := am_ (Kd.R_below (rg_ HO208 BK215) hb); have n5_ := am_ (Kd.R_below (rg_ HO213 BK215) hb); have n6_ := am_ (blk_below (bk_ BK182) hb); have n7_ := am_ (blk_below (bk_ BK183) hb); have n8_ := am_ (blk_below (bk_ BK199) hb); have n9_ := am_ (blk_below (bk_ BK204) hb); have n10_ := am_ (blk_below (bk_ BK209) hb); have n11_ := am_ (blk_below (g := gb215) (o := .cells #[.int .i64 t210, .slice Ao72 t211.length co72] 28 (0, 0)) (by (with_reducible repeat (first | refine blk_drewN ?_ _ | refine blk_drew ?_ | refine blk_alloc ?_ _)); refine blk_put (cs := #[.int .i64 t210, .slice none 0 0]) ?_ 1 _ rfl; (with_reducible repeat (first | refine blk_drewN ?_ _ | refine blk_drew ?_ | refine blk_alloc ?_ _)); refine blk_put (cs := #[.int .i64 0, .slice none 0 0]) ?_ 0 _ rfl; (with_reducible repeat (first | refine blk_drewN ?_ _ | refine blk_drew ?_ | refine blk_alloc ?_ _)); exact BK215.out) hb); have n12_ := am_ (below_step (bl_ HB) hb); clear HO189; clear HO193; clear HO197; clear HO203; clear HO208; clear HO213; clear BK182; clear BK183; clear BK199; clear BK204; clear BK209; clear BK215; clear HB; have HO189 := n0_; have HO193 := n1_; have HO197 := n2_; have HO203 := n3_; have HO208 := n4_; have HO213 := n5_; have BK182 := n6_; have BK183 := n7_; have BK199 := n8_; have BK204 := n9_; have BK209 := n10_; have BK215 := n11_; have HB := n12_; clear n0_ n1_ n2_ n3_ n4_ n5_ n6_ n7_ n8_ n9_ n10_ n11_ n12_; (try clear hb); (try clear hb2); (try clear hk); (try clear hi)))
     go_meet
     case rel => exact ⟨_, (true), (by first | rfl | (simp; done) | (simp [*]; done)), H', ⟨by first | omega | exact Nat.le_refl _⟩, ⟨km_ HO197 (fun _ hk => ⟨hk.1.1.2, ⟨hk.1.2, hk.2⟩⟩)⟩, ⟨km_ HO203 (fun _ hk => ⟨hk.1.1.2, ⟨hk.1.2, hk.2⟩⟩)⟩, ⟨km_ HO208 (fun _ hk => ⟨hk.1.1.2, ⟨hk.1.2, hk.2⟩⟩)⟩, ⟨km_ HO213 (fun _ hk => ⟨hk.1.1.2, ⟨hk.1.2, hk.2⟩⟩)⟩, ⟨bk_ BK182⟩, ⟨bk_ BK183⟩, ⟨bk_ BK199⟩, ⟨bk_ BK204⟩, ⟨bk_ BK209⟩, ⟨bk_ BK215⟩, ⟨bl_ HB⟩⟩
   case rest =>
    clear HC25; try clear c1; try clear c2; try clear p2; try clear c3; try clear c4; try clear c5; try clear c6; try clear c7; try clear c8; try clear c9; try clear c20; try clear c22; try clear c31; try clear c32; try clear c44; try clear c48; try clear c49; try clear c50; try clear c53; try clear c57; try clear c58; try clear c59; try clear c60; try clear c66; try clear c67; try clear c68; try clear c69; try clear c70; try clear c74; try clear c75; try clear c76; try clear c77; try clear c78; try clear c79; try clear c81; try clear c82; try clear c83; try clear c84; try clear c87; try clear c88; try clear c89; try clear c90; try clear c91; try clear c93; try clear c94; try clear c95; try clear c96; try clear hcz45_0; try clear hcz45_1; try clear hcz51_0; try clear hcz51_1; try clear hcz54_0; try clear hcz54_1; try clear hcz61_0; try clear hcz61_1; try clear hcz63_0; try clear hcz63_1; try clear hcz71_0; try clear hcz71_1; try clear hcz80_0; try clear hcz80_1; try clear hcz85_0; try clear hcz85_1; try clear hcz92_0; try clear hcz92_1; try clear hcz97_0; try clear hcz97_1; try clear hfz45_0; try clear hfz45_1; try clear hfz51_0; try clear hfz51_1; try clear hfz54_0; try clear hfz54_1; try clear hfz61_0; try clear hfz61_1; try clear hfz63_0; try clear hfz63_1; try clear hfz71_0; try clear hfz71_1; try clear hfz80_0; try clear hfz80_1; try clear hfz85_0; try clear hfz85_1; try clear hfz92_0; try clear hfz92_1; try clear hfz97_0; try clear hfz97_1
    obtain ⟨kq, x53_24, rfl, HA, HJ24, HO_200001, HO_205001, HO_210001, HO_216001, BK182, BK183, BK199, BK204, BK209, BK215, HB⟩ := hcut
    cases kq with
    | zero => exact absurd HA.out (by simp [laws_FnExactMultiplyWholes.j0])
    | succ kj24 =>
     have H := HA.out; clear HA
     simp only [laws_FnExactMultiplyWholes.j0] at H
     by_cases c99 : x53_24 = true
     ·subst c99
      have H1 : (some false) = some r := by rw [if_pos rfl] at H; exact H
      clear H; have H := H1; clear H1; obtain rfl := Option.some.inj H
      go_wp2
      go_ret
      exact ⟨by first | rfl | (simp [errW_none, errW_some] <;> rfl) | (simp [*, errW_none, errW_some] <;> rfl), bl_ HB⟩
     ·replace c99 := Bool.eq_false_iff.mpr c99
      subst c99
      have H1 : ((laws_toWhole.f kj24 a0_0 l0_1).bind fun bt217 => ((laws_eqWhole.f kj24 t200 t201 bt217.1 bt217.2).bind fun t221 => (if t221 = true then ((laws_toWhole.f kj24 a1_0 l1_1).bind fun bt222 => ((laws_eqWhole.f kj24 t205 t206 bt222.1 bt222.2).bind fun t226 => (if t226 = true then ((laws_markWhole.f kj24 t200 t201 1).bind fun bt227 => ((laws_markWhole.f kj24 t205 t206 bt227.1).bind fun bt229 => (if bt229.1 < 0 then (laws_FnExactMultiplyWholes.j1 kj24 t198 true a0_0 l0_1 a1_0 l1_1 t194 t195 t210 t211) else ((laws_eqWhole.f kj24 t210 t211 t194 t195).bind fun t231 => (if t231 = true then (laws_FnExactMultiplyWholes.j1 kj24 t198 (t214 != t198) a0_0 l0_1 a1_0 l1_1 t194 t195 t210 t211) else (laws_FnExactMultiplyWholes.j1 kj24 t198 true a0_0 l0_1 a1_0 l1_1 t194 t195 t210 t211)))))) else (some false)))) else (some false)))) = some r := by rw [if_neg (show ¬ (false = true) by decide)] at H; exact H
      clear H; have H := H1; clear H1
      replace H := Option.bind_eq_some_iff.mp H
      obtain ⟨⟨t217, t218⟩, A1000, H⟩ := H
      replace H : ((laws_eqWhole.f kj24 t200 t201 t217 t218).bind fun t221 => (if t221 = true then ((laws_toWhole.f kj24 a1_0 l1_1).bind fun bt222 => ((laws_eqWhole.f kj24 t205 t206 bt222.1 bt222.2).bind fun t226 => (if t226 = true then ((laws_markWhole.f kj24 t200 t201 1).bind fun bt227 => ((laws_markWhole.f kj24 t205 t206 bt227.1).bind fun bt229 => (if bt229.1 < 0 then (laws_FnExactMultiplyWholes.j1 kj24 t198 true a0_0 l0_1 a1_0 l1_1 t194 t195 t210 t211) else ((laws_eqWhole.f kj24 t210 t211 t194 t195).bind fun t231 => (if t231 = true then (laws_FnExactMultiplyWholes.j1 kj24 t198 (t214 != t198) a0_0 l0_1 a1_0 l1_1 t194 t195 t210 t211) else (laws_FnExactMultiplyWholes.j1 kj24 t198 true a0_0 l0_1 a1_0 l1_1 t194 t195 t210 t211)))))) else (some false)))) else (some false))) = some r := H
      have A100 := Aside0.mk A1000; clear A1000
      replace H := Option.bind_eq_some_iff.mp H
      obtain ⟨t221, A1010, H⟩ := H
      replace H : (if t221 = true then ((laws_toWhole.f kj24 a1_0 l1_1).bind fun bt222 => ((laws_eqWhole.f kj24 t205 t206 bt222.1 bt222.2).bind fun t226 => (if t226 = true then ((laws_markWhole.f kj24 t200 t201 1).bind fun bt227 => ((laws_markWhole.f kj24 t205 t206 bt227.1).bind fun bt229 => (if bt229.1 < 0 then (laws_FnExactMultiplyWholes.j1 kj24 t198 true a0_0 l0_1 a1_0 l1_1 t194 t195 t210 t211) else ((laws_eqWhole.f kj24 t210 t211 t194 t195).bind fun t231 => (if t231 = true then (laws_FnExactMultiplyWholes.j1 kj24 t198 (t214 != t198) a0_0 l0_1 a1_0 l1_1 t194 t195 t210 t211) else (laws_FnExactMultiplyWholes.j1 kj24 t198 true a0_0 l0_1 a1_0 l1_1 t194 t195 t210 t211)))))) else (some false)))) else (some false)) = some r := H
      have A101 := Aside0.mk A1010; clear A1010
      by_cases c102 : t221 = true
      ·subst c102
       have H1 : ((laws_toWhole.f kj24 a1_0 l1_1).bind fun bt222 => ((laws_eqWhole.f kj24 t205 t206 bt222.1 bt222.2).bind fun t226 => (if t226 = true then ((laws_markWhole.f kj24 t200 t201 1).bind fun bt227 => ((laws_markWhole.f kj24 t205 t206 bt227.1).bind fun bt229 => (if bt229.1 < 0 then (laws_FnExactMultiplyWholes.j1 kj24 t198 true a0_0 l0_1 a1_0 l1_1 t194 t195 t210 t211) else ((laws_eqWhole.f kj24 t210 t211 t194 t195).bind fun t231 => (if t231 = true then (laws_FnExactMultiplyWholes.j1 kj24 t198 (t214 != t198) a0_0 l0_1 a1_0 l1_1 t194 t195 t210 t211) else (laws_FnExactMultiplyWholes.j1 kj24 t198 true a0_0 l0_1 a1_0 l1_1 t194 t195 t210 t211)))))) else (some false)))) = some r := by rw [if_pos rfl] at H; exact H
       clear H; have H := H1; clear H1
       replace H := Option.bind_eq_some_iff.mp H
       obtain ⟨⟨t222, t223⟩, A1030, H⟩ := H
       replace H : ((laws_eqWhole.f kj24 t205 t206 t222 t223).bind fun t226 => (if t226 = true then ((laws_markWhole.f kj24 t200 t201 1).bind fun bt227 => ((laws_markWhole.f kj24 t205 t206 bt227.1).bind fun bt229 => (if bt229.1 < 0 then (laws_FnExactMultiplyWholes.j1 kj24 t198 true a0_0 l0_1 a1_0 l1_1 t194 t195 t210 t211) else ((laws_eqWhole.f kj24 t210 t211 t194 t195).bind fun t231 => (if t231 = true then (laws_FnExactMultiplyWholes.j1 kj24 t198 (t214 != t198) a0_0 l0_1 a1_0 l1_1 t194 t195 t210 t211) else (laws_FnExactMultiplyWholes.j1 kj24 t198 true a0_0 l0_1 a1_0 l1_1 t194 t195 t210 t211)))))) else (some false))) = some r := H
       have A103 := Aside0.mk A1030; clear A1030
       replace H := Option.bind_eq_some_iff.mp H
       obtain ⟨t226, A1040, H⟩ := H
       replace H : (if t226 = true then ((laws_markWhole.f kj24 t200 t201 1).bind fun bt227 => ((laws_markWhole.f kj24 t205 t206 bt227.1).bind fun bt229 => (if bt229.1 < 0 then (laws_FnExactMultiplyWholes.j1 kj24 t198 true a0_0 l0_1 a1_0 l1_1 t194 t195 t210 t211) else ((laws_eqWhole.f kj24 t210 t211 t194 t195).bind fun t231 => (if t231 = true then (laws_FnExactMultiplyWholes.j1 kj24 t198 (t214 != t198) a0_0 l0_1 a1_0 l1_1 t194 t195 t210 t211) else (laws_FnExactMultiplyWholes.j1 kj24 t198 true a0_0 l0_1 a1_0 l1_1 t194 t195 t210 t211)))))) else (some false)) = some r := H
       have A104 := Aside0.mk A1040; clear A1040
       by_cases c105 : t226 = true
       ·subst c105
        have H1 : ((laws_markWhole.f kj24 t200 t201 1).bind fun bt227 => ((laws_markWhole.f kj24 t205 t206 bt227.1).bind fun bt229 => (if bt229.1 < 0 then (laws_FnExactMultiplyWholes.j1 kj24 t198 true a0_0 l0_1 a1_0 l1_1 t194 t195 t210 t211) else ((laws_eqWhole.f kj24 t210 t211 t194 t195).bind fun t231 => (if t231 = true then (laws_FnExactMultiplyWholes.j1 kj24 t198 (t214 != t198) a0_0 l0_1 a1_0 l1_1 t194 t195 t210 t211) else (laws_FnExactMultiplyWholes.j1 kj24 t198 true a0_0 l0_1 a1_0 l1_1 t194 t195 t210 t211)))))) = some r := by rw [if_pos rfl] at H; exact H
        clear H; have H := H1; clear H1
        replace H := Option.bind_eq_some_iff.mp H
        obtain ⟨⟨t227, t228⟩, A1060, H⟩ := H
        replace H : ((laws_markWhole.f kj24 t205 t206 t227).bind fun bt229 => (if bt229.1 < 0 then (laws_FnExactMultiplyWholes.j1 kj24 t198 true a0_0 l0_1 a1_0 l1_1 t194 t195 t210 t211) else ((laws_eqWhole.f kj24 t210 t211 t194 t195).bind fun t231 => (if t231 = true then (laws_FnExactMultiplyWholes.j1 kj24 t198 (t214 != t198) a0_0 l0_1 a1_0 l1_1 t194 t195 t210 t211) else (laws_FnExactMultiplyWholes.j1 kj24 t198 true a0_0 l0_1 a1_0 l1_1 t194 t195 t210 t211))))) = some r := H
        have A106 := Aside0.mk A1060; clear A1060
        replace H := Option.bind_eq_some_iff.mp H
        obtain ⟨⟨t229, t230⟩, A1070, H⟩ := H
        replace H : (if t229 < 0 then (laws_FnExactMultiplyWholes.j1 kj24 t198 true a0_0 l0_1 a1_0 l1_1 t194 t195 t210 t211) else ((laws_eqWhole.f kj24 t210 t211 t194 t195).bind fun t231 => (if t231 = true then (laws_FnExactMultiplyWholes.j1 kj24 t198 (t214 != t198) a0_0 l0_1 a1_0 l1_1 t194 t195 t210 t211) else (laws_FnExactMultiplyWholes.j1 kj24 t198 true a0_0 l0_1 a1_0 l1_1 t194 t195 t210 t211)))) = some r := H
        have A107 := Aside0.mk A1070; clear A1070; have HC108 := Aside0.mk H; clear H
        try go_wp2
        have n0_ := am_ (Kd.R_drew HO_200001.out); have n1_ := am_ (Kd.R_drew HO_205001.out); have n2_ := am_ (Kd.R_drew HO_210001.out); have n3_ := am_ (Kd.R_drew HO_216001.out); have n4_ := am_ (blk_drew BK182.out); have n5_ := am_ (blk_drew BK183.out); have n6_ := am_ (blk_drew BK199.out); have n7_ := am_ (blk_drew BK204.out); have n8_ := am_ (blk_drew BK209.out); have n9_ := am_ (blk_drew BK215.out); have n10_ := am_ (below_drew1 HB.out); clear HO_200001 HO_205001 HO_210001 HO_216001 BK182 BK183 BK199 BK204 BK209 BK215 HB; have HO_200001 := n0_; have HO_205001 := n1_; have HO_210001 := n2_; have HO_216001 := n3_; have BK182 := n4_; have BK183 := n5_; have BK199 := n6_; have BK204 := n7_; have BK209 := n8_; have BK215 := n9_; have HB := n10_; clear n0_ n1_ n2_ n3_ n4_ n5_ n6_ n7_ n8_ n9_ n10_
        refine start_ (n := 5) (S := fun w' => w'.cell? ⟨gb204, 0, none⟩ = some (.int .i64 t200) ∧ w'.cell? ⟨gb204, 1, none⟩ = some (.slice Ao52 t201.length co52) ∧ w'.cell? ⟨gb182, 0, none⟩ = some (.int .i64 a0_0) ∧ w'.cell? ⟨gb182, 1, none⟩ = some (.slice A0_1 l0_1.length c0_1)) (ds := []) #[false, false, false, false, false] (by kernel_rfl) rfl rfl ⟨(blk_cell BK204.out 0).trans rfl, (blk_cell BK204.out 1).trans rfl, (blk_cell BK182.out 0).trans rfl, (blk_cell BK182.out 1).trans rfl⟩ (fun hHeld => ?_)
        generalize wc.drew = w109 at HO_200001 HO_205001 HO_210001 HO_216001 BK182 BK183 BK199 BK204 BK209 BK215 HB hHeld ⊢
        refine take_ (i := 0) (N := some 54) (v := ?_) (a' := ?_) #[true, false, false, false, false] rfl rfl (by kernel_rfl) (fun _ _ _ h => h) (Or.inl ⟨by rfl, ?_⟩) hHeld ?_ ?_
        rotate_left
        ·rintro w' ⟨s0, s1, s2, s3⟩
         go_simp
         with_reducible rfl
        rotate_left
        ·exact nm_
        refine take_ (i := 1) (N := some 55) (v := ?_) (a' := ?_) #[true, true, false, false, false] rfl rfl (by kernel_rfl) (fun _ _ _ h => h) (Or.inl ⟨by rfl, ?_⟩) hHeld ?_ ?_
        rotate_left
        ·rintro w' ⟨s0, s1, s2, s3⟩
         go_simp
         with_reducible rfl
        rotate_left
        ·exact nm_
        refine one_ (i := 2) (N := some 56) #[true, true, true, false, false] rfl rfl (by kernel_rfl) (by decide) (fun K hK => ?_)
        refine goes_ Tryd.func20 (by kernel_rfl) rfl #[.agg #[.int .i64 a0_0, .slice A0_1 l0_1.length c0_1]] (by rfl) rfl rfl ma_ ?_
        with_reducible refine (laws_toWhole.calls kj24 a0_0 _ _ l0_1 t217 t218 _ ?side1 ?side2 A100.out).mono ?_
        (case side1 => repeat (first | exact (Kd.C_below HR0_1.out HB.out) | (with_reducible refine Kd.C_alloc ?_ _) | (with_reducible refine Kd.C_drewN ?_ _) | (with_reducible refine Kd.C_drew ?_)))
        (case side2 => exact HC0_1.out)
        rintro e w110 ⟨v219, rfl, ho0, hb⟩
        refine ⟨_, rfl, ?_⟩
        have n0_ := am_ (Kd.R_elder' (kr_ HO_200001) (Kd.R_base ho0) hb); have n1_ := am_ (Kd.R_elder' (kr_ HO_205001) (Kd.R_base ho0) hb); have n2_ := am_ (Kd.R_elder' (kr_ HO_210001) (Kd.R_base ho0) hb); have n3_ := am_ (Kd.R_elder' (kr_ HO_216001) (Kd.R_base ho0) hb); have n4_ := am_ (Kd.R_lower (Kd.R_new' (Kd.R_new' (Kd.R_new' (Kd.R_new' ho0 (Kd.R_lt (kr_ HO_200001))) (Kd.R_lt (kr_ HO_205001))) (Kd.R_lt (kr_ HO_210001))) (Kd.R_lt (kr_ HO_216001))) (below_size (bl_ HB))); have n5_ := am_ (blk_below (bk_ BK182) hb); have n6_ := am_ (blk_below (bk_ BK183) hb); have n7_ := am_ (blk_below (bk_ BK199) hb); have n8_ := am_ (blk_below (bk_ BK204) hb); have n9_ := am_ (blk_below (bk_ BK209) hb); have n10_ := am_ (blk_below (bk_ BK215) hb); have n11_ := am_ (below_step (bl_ HB) hb); clear HO_200001 HO_205001 HO_210001 HO_216001 BK182 BK183 BK199 BK204 BK209 BK215 HB; have HO_200001 := n0_; have HO_205001 := n1_; have HO_210001 := n2_; have HO_216001 := n3_; have HO220 := n4_; have BK182 := n5_; have BK183 := n6_; have BK199 := n7_; have BK204 := n8_; have BK209 := n9_; have BK215 := n10_; have HB := n11_; clear n0_ n1_ n2_ n3_ n4_ n5_ n6_ n7_ n8_ n9_ n10_ n11_; (try clear hb); (try clear hb2); (try clear hk); (try clear hi); (try clear ho0)
        obtain ⟨Ao111, co111, eo111⟩ := Kd.R_slice HO220.out
        (first | subst eo111 | (injection eo111 with f1_ f2_ f3_; have f4_ := f1_.symm; have f5_ := f3_.symm; clear f1_ f2_ f3_; subst f4_; subst f5_))
        refine hK.out _ _ ⟨(blk_cell BK204.out 0).trans rfl, (blk_cell BK204.out 1).trans rfl, (blk_cell BK182.out 0).trans rfl, (blk_cell BK182.out 1).trans rfl⟩ (fun hHeld => ?_)
        clear hK K
        refine norm_ (a' := ?_) ?_ ?_
        rotate_left
        ·show Act.put _ (some 56) _ = _
         exact nm_
        refine one_ (i := 3) (N := some 57) #[true, true, true, true, false] rfl rfl (by kernel_rfl) (by decide) (fun K hK => ?_)
        refine goes_ Tryd.func22 (by kernel_rfl) rfl #[.agg #[.int .i64 t200, .slice Ao52 t201.length co52], .agg #[.int .i64 t217, .slice Ao111 t218.length co111]] (by rfl) rfl rfl ma_ ?_
        with_reducible refine (laws_eqWhole.calls kj24 t200 _ _ t201 t217 _ _ t218 true _ ?side1 ?side2 ?side3 ?side4 A101.out).mono ?_
        (case side1 => repeat (first | exact (Kd.R_reads' HO_205001.out).2.2 | (with_reducible refine Kd.C_alloc ?_ _) | (with_reducible refine Kd.C_drewN ?_ _) | (with_reducible refine Kd.C_drew ?_)))
        (case side2 => exact (Kd.R_reads' HO_205001.out).2.1)
        (case side3 => repeat (first | exact (Kd.R_reads' HO220.out).2.2 | (with_reducible refine Kd.C_alloc ?_ _) | (with_reducible refine Kd.C_drewN ?_ _) | (with_reducible refine Kd.C_drew ?_)))
        (case side4 => exact (Kd.R_reads' HO220.out).2.1)
        rintro e w112 ⟨rfl, hb⟩
        refine ⟨_, rfl, ?_⟩
        have n0_ := am_ (Kd.R_below (kr_ HO_200001) hb); have n1_ := am_ (Kd.R_below (kr_ HO_205001) hb); have n2_ := am_ (Kd.R_below (kr_ HO_210001) hb); have n3_ := am_ (Kd.R_below (kr_ HO_216001) hb); have n4_ := am_ (Kd.R_below (kr_ HO220) hb); have n5_ := am_ (blk_below (bk_ BK182) hb); have n6_ := am_ (blk_below (bk_ BK183) hb); have n7_ := am_ (blk_below (bk_ BK199) hb); have n8_ := am_ (blk_below (bk_ BK204) hb); have n9_ := am_ (blk_below (bk_ BK209) hb); have n10_ := am_ (blk_below (bk_ BK215) hb); have n11_ := am_ (below_step (bl_ HB) hb); clear HO_200001 HO_205001 HO_210001 HO_216001 HO220 BK182 BK183 BK199 BK204 BK209 BK215 HB; have HO_200001 := n0_; have HO_205001 := n1_; have HO_210001 := n2_; have HO_216001 := n3_; have HO220 := n4_; have BK182 := n5_; have BK183 := n6_; have BK199 := n7_; have BK204 := n8_; have BK209 := n9_; have BK215 := n10_; have HB := n11_; clear n0_ n1_ n2_ n3_ n4_ n5_ n6_ n7_ n8_ n9_ n10_ n11_; (try clear hb); (try clear hb2); (try clear hk); (try clear hi)
        refine hK.out _ _ ⟨(blk_cell BK204.out 0).trans rfl, (blk_cell BK204.out 1).trans rfl, (blk_cell BK182.out 0).trans rfl, (blk_cell BK182.out 1).trans rfl⟩ (fun hHeld => ?_)
        clear hK K
        refine norm_ (a' := ?_) ?_ ?_
        rotate_left
        ·show Act.put _ (some 57) _ = _
         exact nm_
        refine pure_ (i := 4) (N := some 58) (v := ?_) (a' := ?_) #[true, true, true, true, true] rfl rfl (by kernel_rfl) (fun _ _ _ h => h) (Or.inl ⟨by rfl, ?_⟩) ?_ ?_
        rotate_left
        ·intro w'
         go_simp
         with_reducible rfl
        rotate_left
        ·exact nm_
        refine done_ (by kernel_rfl) ?_
        try go_wp2
        have n0_ := am_ (Kd.R_drew HO_200001.out); have n1_ := am_ (Kd.R_drew HO_205001.out); have n2_ := am_ (Kd.R_drew HO_210001.out); have n3_ := am_ (Kd.R_drew HO_216001.out); have n4_ := am_ (Kd.R_drew HO220.out); have n5_ := am_ (blk_drew BK182.out); have n6_ := am_ (blk_drew BK183.out); have n7_ := am_ (blk_drew BK199.out); have n8_ := am_ (blk_drew BK204.out); have n9_ := am_ (blk_drew BK209.out); have n10_ := am_ (blk_drew BK215.out); have n11_ := am_ (below_drew1 HB.out); clear HO_200001 HO_205001 HO_210001 HO_216001 HO220 BK182 BK183 BK199 BK204 BK209 BK215 HB; have HO_200001 := n0_; have HO_205001 := n1_; have HO_210001 := n2_; have HO_216001 := n3_; have HO220 := n4_; have BK182 := n5_; have BK183 := n6_; have BK199 := n7_; have BK204 := n8_; have BK209 := n9_; have BK215 := n10_; have HB := n11_; clear n0_ n1_ n2_ n3_ n4_ n5_ n6_ n7_ n8_ n9_ n10_ n11_
        refine start_ (n := 5) (S := fun w' => w'.cell? ⟨gb209, 0, none⟩ = some (.int .i64 t205) ∧ w'.cell? ⟨gb209, 1, none⟩ = some (.slice Ao62 t206.length co62) ∧ w'.cell? ⟨gb183, 0, none⟩ = some (.int .i64 a1_0) ∧ w'.cell? ⟨gb183, 1, none⟩ = some (.slice A1_1 l1_1.length c1_1)) (ds := []) #[false, false, false, false, false] (by kernel_rfl) rfl rfl ⟨(blk_cell BK209.out 0).trans rfl, (blk_cell BK209.out 1).trans rfl, (blk_cell BK183.out 0).trans rfl, (blk_cell BK183.out 1).trans rfl⟩ (fun hHeld => ?_)
        generalize w112.drew = w113 at HO_200001 HO_205001 HO_210001 HO_216001 HO220 BK182 BK183 BK199 BK204 BK209 BK215 HB hHeld ⊢
        refine take_ (i := 0) (N := some 59) (v := ?_) (a' := ?_) #[true, false, false, false, false] rfl rfl (by kernel_rfl) (fun _ _ _ h => h) (Or.inl ⟨by rfl, ?_⟩) hHeld ?_ ?_
        rotate_left
        ·rintro w' ⟨s0, s1, s2, s3⟩
         go_simp
         with_reducible rfl
        rotate_left
        ·exact nm_
        refine take_ (i := 1) (N := some 60) (v := ?_) (a' := ?_) #[true, true, false, false, false] rfl rfl (by kernel_rfl) (fun _ _ _ h => h) (Or.inl ⟨by rfl, ?_⟩) hHeld ?_ ?_
        rotate_left
        ·rintro w' ⟨s0, s1, s2, s3⟩
         go_simp
         with_reducible rfl
        rotate_left
        ·exact nm_
        refine one_ (i := 2) (N := some 61) #[true, true, true, false, false] rfl rfl (by kernel_rfl) (by decide) (fun K hK => ?_)
        refine goes_ Tryd.func20 (by kernel_rfl) rfl #[.agg #[.int .i64 a1_0, .slice A1_1 l1_1.length c1_1]] (by rfl) rfl rfl ma_ ?_
        with_reducible refine (laws_toWhole.calls kj24 a1_0 _ _ l1_1 t222 t223 _ ?side1 ?side2 A103.out).mono ?_
        (case side1 => repeat (first | exact (Kd.C_below HR1_1.out HB.out) | (with_reducible refine Kd.C_alloc ?_ _) | (with_reducible refine Kd.C_drewN ?_ _) | (with_reducible refine Kd.C_drew ?_)))
        (case side2 => exact HC1_1.out)
        rintro e w114 ⟨v224, rfl, ho0, hb⟩
        refine ⟨_, rfl, ?_⟩
        have n0_ := am_ (Kd.R_elder' (kr_ HO_200001) (Kd.R_base ho0) hb); have n1_ := am_ (Kd.R_elder' (kr_ HO_205001) (Kd.R_base ho0) hb); have n2_ := am_ (Kd.R_elder' (kr_ HO_210001) (Kd.R_base ho0) hb); have n3_ := am_ (Kd.R_elder' (kr_ HO_216001) (Kd.R_base ho0) hb); have n4_ := am_ (Kd.R_elder' (kr_ HO220) (Kd.R_base ho0) hb); have n5_ := am_ (Kd.R_lower (Kd.R_new' (Kd.R_new' (Kd.R_new' (Kd.R_new' (Kd.R_new' ho0 (Kd.R_lt (kr_ HO_200001))) (Kd.R_lt (kr_ HO_205001))) (Kd.R_lt (kr_ HO_210001))) (Kd.R_lt (kr_ HO_216001))) (Kd.R_lt (kr_ HO220))) (below_size (bl_ HB))); have n6_ := am_ (blk_below (bk_ BK182) hb); have n7_ := am_ (blk_below (bk_ BK183) hb); have n8_ := am_ (blk_below (bk_ BK199) hb); have n9_ := am_ (blk_below (bk_ BK204) hb); have n10_ := am_ (blk_below (bk_ BK209) hb); have n11_ := am_ (blk_below (bk_ BK215) hb); have n12_ := am_ (below_step (bl_ HB) hb); clear HO_200001 HO_205001 HO_210001 HO_216001 HO220 BK182 BK183 BK199 BK204 BK209 BK215 HB; have HO_200001 := n0_; have HO_205001 := n1_; have HO_210001 := n2_; have HO_216001 := n3_; have HO220 := n4_; have HO225 := n5_; have BK182 := n6_; have BK183 := n7_; have BK199 := n8_; have BK204 := n9_; have BK209 := n10_; have BK215 := n11_; have HB := n12_; clear n0_ n1_ n2_ n3_ n4_ n5_ n6_ n7_ n8_ n9_ n10_ n11_ n12_; (try clear hb); (try clear hb2); (try clear hk); (try clear hi); (try clear ho0)
        obtain ⟨Ao115, co115, eo115⟩ := Kd.R_slice HO225.out
        (first | subst eo115 | (injection eo115 with f1_ f2_ f3_; have f4_ := f1_.symm; have f5_ := f3_.symm; clear f1_ f2_ f3_; subst f4_; subst f5_))
        refine hK.out _ _ ⟨(blk_cell BK209.out 0).trans rfl, (blk_cell BK209.out 1).trans rfl, (blk_cell BK183.out 0).trans rfl, (blk_cell BK183.out 1).trans rfl⟩ (fun hHeld => ?_)
        clear hK K
        refine norm_ (a' := ?_) ?_ ?_
        rotate_left
        ·show Act.put _ (some 61) _ = _
         exact nm_
        refine one_ (i := 3) (N := some 62) #[true, true, true, true, false] rfl rfl (by kernel_rfl) (by decide) (fun K hK => ?_)
        refine goes_ Tryd.func22 (by kernel_rfl) rfl #[.agg #[.int .i64 t205, .slice Ao62 t206.length co62], .agg #[.int .i64 t222, .slice Ao115 t223.length co115]] (by rfl) rfl rfl ma_ ?_
        with_reducible refine (laws_eqWhole.calls kj24 t205 _ _ t206 t222 _ _ t223 true _ ?side1 ?side2 ?side3 ?side4 A104.out).mono ?_
        (case side1 => repeat (first | exact (Kd.R_reads' HO_210001.out).2.2 | (with_reducible refine Kd.C_alloc ?_ _) | (with_reducible refine Kd.C_drewN ?_ _) | (with_reducible refine Kd.C_drew ?_)))
        (case side2 => exact (Kd.R_reads' HO_210001.out).2.1)
        (case side3 => repeat (first | exact (Kd.R_reads' HO225.out).2.2 | (with_reducible refine Kd.C_alloc ?_ _) | (with_reducible refine Kd.C_drewN ?_ _) | (with_reducible refine Kd.C_drew ?_)))
        (case side4 => exact (Kd.R_reads' HO225.out).2.1)
        rintro e w116 ⟨rfl, hb⟩
        refine ⟨_, rfl, ?_⟩
        have n0_ := am_ (Kd.R_below (kr_ HO_200001) hb); have n1_ := am_ (Kd.R_below (kr_ HO_205001) hb); have n2_ := am_ (Kd.R_below (kr_ HO_210001) hb); have n3_ := am_ (Kd.R_below (kr_ HO_216001) hb); have n4_ := am_ (Kd.R_below (kr_ HO220) hb); have n5_ := am_ (Kd.R_below (kr_ HO225) hb); have n6_ := am_ (blk_below (bk_ BK182) hb); have n7_ := am_ (blk_below (bk_ BK183) hb); have n8_ := am_ (blk_below (bk_ BK199) hb); have n9_ := am_ (blk_below (bk_ BK204) hb); have n10_ := am_ (blk_below (bk_ BK209) hb); have n11_ := am_ (blk_below (bk_ BK215) hb); have n12_ := am_ (below_step (bl_ HB) hb); clear HO_200001 HO_205001 HO_210001 HO_216001 HO220 HO225 BK182 BK183 BK199 BK204 BK209 BK215 HB; have HO_200001 := n0_; have HO_205001 := n1_; have HO_210001 := n2_; have HO_216001 := n3_; have HO220 := n4_; have HO225 := n5_; have BK182 := n6_; have BK183 := n7_; have BK199 := n8_; have BK204 := n9_; have BK209 := n10_; have BK215 := n11_; have HB := n12_; clear n0_ n1_ n2_ n3_ n4_ n5_ n6_ n7_ n8_ n9_ n10_ n11_ n12_; (try clear hb); (try clear hb2); (try clear hk); (try clear hi)
        refine hK.out _ _ ⟨(blk_cell BK209.out 0).trans rfl, (blk_cell BK209.out 1).trans rfl, (blk_cell BK183.out 0).trans rfl, (blk_cell BK183.out 1).trans rfl⟩ (fun hHeld => ?_)
        clear hK K
        refine norm_ (a' := ?_) ?_ ?_
        rotate_left
        ·show Act.put _ (some 62) _ = _
         exact nm_
        refine pure_ (i := 4) (N := some 63) (v := ?_) (a' := ?_) #[true, true, true, true, true] rfl rfl (by kernel_rfl) (fun _ _ _ h => h) (Or.inl ⟨by rfl, ?_⟩) ?_ ?_
        rotate_left
        ·intro w'
         go_simp
         with_reducible rfl
        rotate_left
        ·exact nm_
        refine done_ (by kernel_rfl) ?_
        have hnb117 := NB204_182.out; have hnc117 := NB182_204.out; have hnb118 := NB204_183.out; have hnc118 := NB183_204.out; have hnb119 := NB204_199.out; have hnc119 := NB199_204.out; have hnb120 := NB204_209.out; have hnc120 := NB209_204.out; have hnb121 := NB204_215.out; have hnc121 := NB215_204.out
        have hcz122_0 : w116.cell? ⟨gb204, 0, none⟩ = some (.int .i64 t200) := (blk_cell BK204.out 0).trans rfl
        have hcz122_1 : w116.cell? ⟨gb204, 1, none⟩ = some (.slice Ao52 t201.length co52) := (blk_cell BK204.out 1).trans rfl
        have hfz122_0 := blk_frozen BK204.out 0; have hfz122_1 := blk_frozen BK204.out 1
        go_upto_region 21 with (first | ((with_reducible refine gate_callee (f := 25) rfl ?_); refine goesL_ (some 66) rfl rfl Tryd.func25 (by kernel_rfl) rfl #[.agg #[.int .i64 t200, .slice Ao52 t201.length co52], .int .i64 1] rfl ma_ ?_; (with_reducible refine (laws_markWhole.calls kj24 t200 (fun k_ => some k_ = (.slice Ao52 t201.length co52 : Value).ownBlock) (.slice Ao52 t201.length co52) t201 1 t227 t228 w _ ?side1 ?side2 A106.out).mono ?_); (case side1 => repeat (first | (with_reducible first | exact HB.out | apply below_alloc | apply pw_below_drewN | apply below_drew1 | refine below_set ?_ GE182.out | refine below_set ?_ GE183.out | refine below_set ?_ GE199.out | refine below_set ?_ GE204.out | refine below_set ?_ GE209.out | refine below_set ?_ GE215.out) | exact HB.out)); (case side2 => exact Kd.R_tight rfl HO_205001.out); rintro e w123 ⟨rfl, hy0, hb, hkp⟩; refine ⟨_, rfl, ?_⟩; have n0_ := am_ (Kd.R_mono (ok' := fun k_ => some k_ ≠ (.slice Ao52 t201.length co52 : Value).ownBlock ∧ some k_ ≠ (.slice Ao62 t206.length co62 : Value).ownBlock ∧ some k_ ≠ (.slice Ao72 t211.length co72 : Value).ownBlock ∧ some k_ ≠ (.slice Ao111 t218.length co111 : Value).ownBlock ∧ some k_ ≠ (.slice Ao115 t223.length co115 : Value).ownBlock) (Kd.R_keptB (HO_200001.out) hkp (fun k_ hk_ hs_ => (hk_.1.1.1) hs_)) (fun k_ hk_ => ⟨hk_.1.1.1.1, hk_.1.1.1.2.1, hk_.1.1.1.2.2, hk_.1.1.2, hk_.1.2⟩)); have n1_ := am_ (Kd.R_reok rfl hy0 (fun k_ e_ => HO_205001.out.1 k_ e_)); have n2_ := am_ (Kd.R_mono (ok' := fun k_ => some k_ ≠ (.slice Ao42 t195.length co42 : Value).ownBlock ∧ some k_ ≠ (.slice Ao52 t201.length co52 : Value).ownBlock ∧ some k_ ≠ (.slice Ao72 t211.length co72 : Value).ownBlock ∧ some k_ ≠ (.slice Ao111 t218.length co111 : Value).ownBlock ∧ some k_ ≠ (.slice Ao115 t223.length co115 : Value).ownBlock) (Kd.R_keptB (HO_210001.out) hkp (fun k_ hk_ hs_ => (hk_.1.1.2.1) hs_)) (fun k_ hk_ => ⟨hk_.1.1.1.1, hk_.1.1.1.2.1, hk_.1.1.1.2.2, hk_.1.1.2, hk_.1.2⟩)); have n3_ := am_ (Kd.R_mono (ok' := fun k_ => some k_ ≠ (.slice Ao42 t195.length co42 : Value).ownBlock ∧ some k_ ≠ (.slice Ao52 t201.length co52 : Value).ownBlock ∧ some k_ ≠ (.slice Ao62 t206.length co62 : Value).ownBlock ∧ some k_ ≠ (.slice Ao111 t218.length co111 : Value).ownBlock ∧ some k_ ≠ (.slice Ao115 t223.length co115 : Value).ownBlock) (Kd.R_keptB (HO_216001.out) hkp (fun k_ hk_ hs_ => (hk_.1.1.2.1) hs_)) (fun k_ hk_ => ⟨hk_.1.1.1.1, hk_.1.1.1.2.1, hk_.1.1.1.2.2, hk_.1.1.2, hk_.1.2⟩)); have n4_ := am_ (blk_kept (bk_ BK182) hkp (fun hs_ => (fun e_ => (Kd.R_ne HO_205001.out BK182.out (by decide)) e_) hs_)); have n5_ := am_ (blk_kept (bk_ BK183) hkp (fun hs_ => (fun e_ => (Kd.R_ne HO_205001.out BK183.out (by decide)) e_) hs_)); have n6_ := am_ (blk_kept (bk_ BK199) hkp (fun hs_ => (fun e_ => (Kd.R_ne HO_205001.out BK199.out (by decide)) e_) hs_)); have n7_ := am_ (blk_kept (bk_ BK204) hkp (fun hs_ => (fun e_ => (Kd.R_ne HO_205001.out BK204.out (by decide)) e_) hs_)); have n8_ := am_ (blk_kept (bk_ BK209) hkp (fun hs_ => (fun e_ => (Kd.R_ne HO_205001.out BK209.out (by decide)) e_) hs_)); have n9_ := am_ (blk_kept (bk_ BK215) hkp (fun hs_ => (fun e_ => (Kd.R_ne HO_205001.out BK215.out (by decide)) e_) hs_)); have n10_ := am_ (Kd.R_mono (ok' := fun k_ => some k_ ≠ (.slice Ao42 t195.length co42 : Value).ownBlock ∧ some k_ ≠ (.slice Ao52 t201.length co52 : Value).ownBlock ∧ some k_ ≠ (.slice Ao62 t206.length co62 : Value).ownBlock ∧ some k_ ≠ (.slice Ao72 t211.length co72 : Value).ownBlock ∧ some k_ ≠ (.slice Ao115 t223.length co115 : Value).ownBlock) (Kd.R_keptB (HO220.out) hkp (fun k_ hk_ hs_ => (hk_.1.1.1.2) hs_)) (fun k_ hk_ => ⟨hk_.1.1.1.1.1.2, hk_.1.1.1.1.2, hk_.1.1.1.2, hk_.1.1.2, hk_.1.2⟩)); have n11_ := am_ (Kd.R_mono (ok' := fun k_ => some k_ ≠ (.slice Ao42 t195.length co42 : Value).ownBlock ∧ some k_ ≠ (.slice Ao52 t201.length co52 : Value).ownBlock ∧ some k_ ≠ (.slice Ao62 t206.length co62 : Value).ownBlock ∧ some k_ ≠ (.slice Ao72 t211.length co72 : Value).ownBlock ∧ some k_ ≠ (.slice Ao111 t218.length co111 : Value).ownBlock) (Kd.R_keptB (HO225.out) hkp (fun k_ hk_ hs_ => (hk_.1.1.1.2) hs_)) (fun k_ hk_ => ⟨hk_.1.1.1.1.1.2, hk_.1.1.1.1.2, hk_.1.1.1.2, hk_.1.1.2, hk_.1.2⟩)); have n12_ := am_ (hb); clear HO_200001; clear HO_205001; clear HO_210001; clear HO_216001; clear BK182; clear BK183; clear BK199; clear BK204; clear BK209; clear BK215; clear HO220; clear HO225; clear HB; have HO_200001 := n0_; have HO_205001 := n1_; have HO_210001 := n2_; have HO_216001 := n3_; have BK182 := n4_; have BK183 := n5_; have BK199 := n6_; have BK204 := n7_; have BK209 := n8_; have BK215 := n9_; have HO220 := n10_; have HO225 := n11_; have HB := n12_; clear n0_ n1_ n2_ n3_ n4_ n5_ n6_ n7_ n8_ n9_ n10_ n11_ n12_; (try clear hb); (try clear hkp); (try clear hy0); have hnb124 := NB209_182.out; have hnc124 := NB182_209.out; have hnb125 := NB209_183.out; have hnc125 := NB183_209.out; have hnb126 := NB209_199.out; have hnc126 := NB199_209.out; have hnb127 := NB209_215.out; have hnc127 := NB215_209.out; have hcz128_0 : w123.cell? ⟨gb209, 0, none⟩ = some (.int .i64 t205) := (blk_cell BK209.out 0).trans rfl; have hcz128_1 : w123.cell? ⟨gb209, 1, none⟩ = some (.slice Ao62 t206.length co62) := (blk_cell BK209.out 1).trans rfl; have hfz128_0 := blk_frozen BK209.out 0; have hfz128_1 := blk_frozen BK209.out 1) | ((with_reducible refine gate_callee (f := 25) rfl ?_); refine goesL_ (some 69) rfl rfl Tryd.func25 (by kernel_rfl) rfl #[.agg #[.int .i64 t205, .slice Ao62 t206.length co62], .int .i64 t227] rfl ma_ ?_; (with_reducible refine (laws_markWhole.calls kj24 t205 (fun k_ => some k_ = (.slice Ao62 t206.length co62 : Value).ownBlock) (.slice Ao62 t206.length co62) t206 t227 t229 t230 w _ ?side1 ?side2 A107.out).mono ?_); (case side1 => repeat (first | (with_reducible first | exact HB.out | apply below_alloc | apply pw_below_drewN | apply below_drew1 | refine below_set ?_ GE182.out | refine below_set ?_ GE183.out | refine below_set ?_ GE199.out | refine below_set ?_ GE204.out | refine below_set ?_ GE209.out | refine below_set ?_ GE215.out) | exact HB.out)); (case side2 => exact Kd.R_tight rfl HO_210001.out); rintro e w129 ⟨rfl, hy0, hb, hkp⟩; refine ⟨_, rfl, ?_⟩; have n0_ := am_ (Kd.R_mono (ok' := fun k_ => some k_ ≠ (.slice Ao52 t201.length co52 : Value).ownBlock ∧ some k_ ≠ (.slice Ao62 t206.length co62 : Value).ownBlock ∧ some k_ ≠ (.slice Ao72 t211.length co72 : Value).ownBlock ∧ some k_ ≠ (.slice Ao111 t218.length co111 : Value).ownBlock ∧ some k_ ≠ (.slice Ao115 t223.length co115 : Value).ownBlock) (Kd.R_keptB (HO_200001.out) hkp (fun k_ hk_ hs_ => (hk_.2.1) hs_)) (fun k_ hk_ => ⟨hk_.1.1, hk_.1.2.1, hk_.1.2.2.1, hk_.1.2.2.2.1, hk_.1.2.2.2.2⟩)); have n1_ := am_ (Kd.R_mono (ok' := fun k_ => some k_ ≠ (.slice Ao42 t195.length co42 : Value).ownBlock ∧ some k_ ≠ (.slice Ao62 t206.length co62 : Value).ownBlock ∧ some k_ ≠ (.slice Ao72 t211.length co72 : Value).ownBlock ∧ some k_ ≠ (.slice Ao111 t218.length co111 : Value).ownBlock ∧ some k_ ≠ (.slice Ao115 t223.length co115 : Value).ownBlock) (Kd.R_keptB (HO_205001.out) hkp (fun k_ hk_ hs_ => (hk_.1.1.2.1) hs_)) (fun k_ hk_ => ⟨hk_.1.1.1.1, hk_.1.1.1.2.1, hk_.1.1.1.2.2, hk_.1.1.2, hk_.1.2⟩)); have n2_ := am_ (Kd.R_reok rfl hy0 (fun k_ e_ => HO_210001.out.1 k_ e_)); have n3_ := am_ (Kd.R_mono (ok' := fun k_ => some k_ ≠ (.slice Ao42 t195.length co42 : Value).ownBlock ∧ some k_ ≠ (.slice Ao52 t201.length co52 : Value).ownBlock ∧ some k_ ≠ (.slice Ao62 t206.length co62 : Value).ownBlock ∧ some k_ ≠ (.slice Ao111 t218.length co111 : Value).ownBlock ∧ some k_ ≠ (.slice Ao115 t223.length co115 : Value).ownBlock) (Kd.R_keptB (HO_216001.out) hkp (fun k_ hk_ hs_ => (hk_.2.2.1) hs_)) (fun k_ hk_ => ⟨hk_.1.1, hk_.1.2.1, hk_.1.2.2.1, hk_.1.2.2.2.1, hk_.1.2.2.2.2⟩)); have n4_ := am_ (blk_kept (bk_ BK182) hkp (fun hs_ => (fun e_ => (Kd.R_ne HO_210001.out BK182.out (by decide)) e_) hs_)); have n5_ := am_ (blk_kept (bk_ BK183) hkp (fun hs_ => (fun e_ => (Kd.R_ne HO_210001.out BK183.out (by decide)) e_) hs_)); have n6_ := am_ (blk_kept (bk_ BK199) hkp (fun hs_ => (fun e_ => (Kd.R_ne HO_210001.out BK199.out (by decide)) e_) hs_)); have n7_ := am_ (blk_kept (bk_ BK204) hkp (fun hs_ => (fun e_ => (Kd.R_ne HO_210001.out BK204.out (by decide)) e_) hs_)); have n8_ := am_ (blk_kept (bk_ BK209) hkp (fun hs_ => (fun e_ => (Kd.R_ne HO_210001.out BK209.out (by decide)) e_) hs_)); have n9_ := am_ (blk_kept (bk_ BK215) hkp (fun hs_ => (fun e_ => (Kd.R_ne HO_210001.out BK215.out (by decide)) e_) hs_)); have n10_ := am_ (Kd.R_mono (ok' := fun k_ => some k_ ≠ (.slice Ao42 t195.length co42 : Value).ownBlock ∧ some k_ ≠ (.slice Ao52 t201.length co52 : Value).ownBlock ∧ some k_ ≠ (.slice Ao62 t206.length co62 : Value).ownBlock ∧ some k_ ≠ (.slice Ao72 t211.length co72 : Value).ownBlock ∧ some k_ ≠ (.slice Ao115 t223.length co115 : Value).ownBlock) (Kd.R_keptB (HO220.out) hkp (fun k_ hk_ hs_ => (hk_.2.2.1) hs_)) (fun k_ hk_ => ⟨hk_.1.1, hk_.1.2.1, hk_.1.2.2.1, hk_.1.2.2.2.1, hk_.1.2.2.2.2⟩)); have n11_ := am_ (Kd.R_mono (ok' := fun k_ => some k_ ≠ (.slice Ao42 t195.length co42 : Value).ownBlock ∧ some k_ ≠ (.slice Ao52 t201.length co52 : Value).ownBlock ∧ some k_ ≠ (.slice Ao62 t206.length co62 : Value).ownBlock ∧ some k_ ≠ (.slice Ao72 t211.length co72 : Value).ownBlock ∧ some k_ ≠ (.slice Ao111 t218.length co111 : Value).ownBlock) (Kd.R_keptB (HO225.out) hkp (fun k_ hk_ hs_ => (hk_.2.2.1) hs_)) (fun k_ hk_ => ⟨hk_.1.1, hk_.1.2.1, hk_.1.2.2.1, hk_.1.2.2.2.1, hk_.1.2.2.2.2⟩)); have n12_ := am_ (hb); clear HO_200001; clear HO_205001; clear HO_210001; clear HO_216001; clear BK182; clear BK183; clear BK199; clear BK204; clear BK209; clear BK215; clear HO220; clear HO225; clear HB; have HO_200001 := n0_; have HO_205001 := n1_; have HO_210001 := n2_; have HO_216001 := n3_; have BK182 := n4_; have BK183 := n5_; have BK199 := n6_; have BK204 := n7_; have BK209 := n8_; have BK215 := n9_; have HO220 := n10_; have HO225 := n11_; have HB := n12_; clear n0_ n1_ n2_ n3_ n4_ n5_ n6_ n7_ n8_ n9_ n10_ n11_ n12_; (try clear hb); (try clear hkp); (try clear hy0)))
        (try simp only [Act.put, List.setIfInBounds_toArray, List.set_cons_zero, List.set_cons_succ])
        go_cut [82] (fun v82 wc => ∃ (kq : Nat) (x82_107 : Bool), v82 = .bool x82_107 ∧ Aside0 (laws_FnExactMultiplyWholes.j1 kq t198 x82_107 a0_0 l0_1 a1_0 l1_1 t194 t195 t210 t211 = some r) ∧ Aside0 (kq ≤ kj24) ∧ Aside0 (Kd.R (Kd.int .i64) 2 wc w.heap.size (fun k_ => some k_ ≠ ((.slice Ao52 t201.length co52) : Value).ownBlock ∧ some k_ ≠ ((.slice Ao62 t206.length co62) : Value).ownBlock ∧ some k_ ≠ ((.slice Ao72 t211.length co72) : Value).ownBlock) (.slice Ao42 t195.length co42) t195) ∧ Aside0 (Kd.R (Kd.int .i64) 2 wc w.heap.size (fun k_ => some k_ ≠ ((.slice Ao42 t195.length co42) : Value).ownBlock ∧ some k_ ≠ ((.slice Ao62 t206.length co62) : Value).ownBlock ∧ some k_ ≠ ((.slice Ao72 t211.length co72) : Value).ownBlock) (.slice Ao52 t201.length co52) t228) ∧ Aside0 (Kd.R (Kd.int .i64) 2 wc w.heap.size (fun k_ => some k_ ≠ ((.slice Ao42 t195.length co42) : Value).ownBlock ∧ some k_ ≠ ((.slice Ao52 t201.length co52) : Value).ownBlock ∧ some k_ ≠ ((.slice Ao72 t211.length co72) : Value).ownBlock) (.slice Ao62 t206.length co62) t230) ∧ Aside0 (Kd.R (Kd.int .i64) 2 wc w.heap.size (fun k_ => some k_ ≠ ((.slice Ao42 t195.length co42) : Value).ownBlock ∧ some k_ ≠ ((.slice Ao52 t201.length co52) : Value).ownBlock ∧ some k_ ≠ ((.slice Ao62 t206.length co62) : Value).ownBlock) (.slice Ao72 t211.length co72) t211) ∧ Aside0 (wc.heap[gb182]? = some (.cells #[.int .i64 a0_0, (.slice A0_1 l0_1.length c0_1)] 24 (0, 0))) ∧ Aside0 (wc.heap[gb183]? = some (.cells #[.int .i64 a1_0, (.slice A1_1 l1_1.length c1_1)] 24 (0, 0))) ∧ Aside0 (wc.heap[gb199]? = some (.cells #[.int .i64 t194, (.slice Ao42 t195.length co42)] 28 (0, 0))) ∧ Aside0 (wc.heap[gb204]? = some (.cells #[.int .i64 t200, (.slice Ao52 t201.length co52)] 28 (0, 0))) ∧ Aside0 (wc.heap[gb209]? = some (.cells #[.int .i64 t205, (.slice Ao62 t206.length co62)] 28 (0, 0))) ∧ Aside0 (wc.heap[gb215]? = some (.cells #[.int .i64 t210, (.slice Ao72 t211.length co72)] 28 (0, 0))) ∧ Aside0 (Below w.heap.size w wc))
        case first =>
         have H := HC108.out; clear HC108
         by_cases c130 : t229 < 0
         ·rw [if_pos c130] at H
          have c130b0 : decide (t229 < 0) = true := decide_eq_true c130
          clear c130
          (first | rw [c130b0] | (simp only [i64_w, i32_w]; rw [c130b0]) | skip)
          have H' := Aside0.mk H
          clear H
          go_wp2
          go_meet
          case rel => exact ⟨_, (true), (by first | rfl | (simp; done) | (simp [*]; done)), H', ⟨by have := HJ24.out; first | omega | exact Nat.le_refl _⟩, ⟨km_ HO_200001 (fun _ hk => ⟨hk.1, ⟨hk.2.1, hk.2.2.1⟩⟩)⟩, ⟨km_ HO_205001 (fun _ hk => ⟨hk.1, ⟨hk.2.1, hk.2.2.1⟩⟩)⟩, ⟨km_ HO_210001 (fun _ hk => ⟨hk.1, ⟨hk.2.1, hk.2.2.1⟩⟩)⟩, ⟨km_ HO_216001 (fun _ hk => ⟨hk.1, ⟨hk.2.1, hk.2.2.1⟩⟩)⟩, ⟨bk_ BK182⟩, ⟨bk_ BK183⟩, ⟨bk_ BK199⟩, ⟨bk_ BK204⟩, ⟨bk_ BK209⟩, ⟨bk_ BK215⟩, ⟨bl_ HB⟩⟩
         ·rw [if_neg c130] at H
          have c130b0 : decide (t229 < 0) = false := decide_eq_false c130
          clear c130
          (first | rw [c130b0] | (simp only [i64_w, i32_w]; rw [c130b0]) | skip)
          replace H := Option.bind_eq_some_iff.mp H
          obtain ⟨t231, A1310, H⟩ := H
          replace H : (if t231 = true then (laws_FnExactMultiplyWholes.j1 kj24 t198 (t214 != t198) a0_0 l0_1 a1_0 l1_1 t194 t195 t210 t211) else (laws_FnExactMultiplyWholes.j1 kj24 t198 true a0_0 l0_1 a1_0 l1_1 t194 t195 t210 t211)) = some r := H
          have A131 := Aside0.mk A1310; clear A1310
          by_cases c132 : t231 = true
          ·subst c132
           have H1 : (laws_FnExactMultiplyWholes.j1 kj24 t198 (t214 != t198) a0_0 l0_1 a1_0 l1_1 t194 t195 t210 t211) = some r := by rw [if_pos rfl] at H; exact H
           clear H; have H := H1; clear H1
           have H' := Aside0.mk H
           clear H; have hnb133 := NB215_182.out; have hnc133 := NB182_215.out; have hnb134 := NB215_183.out; have hnc134 := NB183_215.out; have hnb135 := NB215_199.out; have hnc135 := NB199_215.out; have hnb136 := NB215_204.out; have hnc136 := NB204_215.out; have hnb137 := NB215_209.out; have hnc137 := NB209_215.out
           have hcz138_0 : w129.cell? ⟨gb215, 0, none⟩ = some (.int .i64 t210) := (blk_cell BK215.out 0).trans rfl
           have hcz138_1 : w129.cell? ⟨gb215, 1, none⟩ = some (.slice Ao72 t211.length co72) := (blk_cell BK215.out 1).trans rfl
           have hfz138_0 := blk_frozen BK215.out 0; have hfz138_1 := blk_frozen BK215.out 1; have hnb139 := NB199_182.out; have hnc139 := NB182_199.out; have hnb140 := NB199_183.out; have hnc140 := NB183_199.out; have hnb141 := NB199_204.out; have hnc141 := NB204_199.out; have hnb142 := NB199_209.out; have hnc142 := NB209_199.out
           have hcz143_0 : w129.cell? ⟨gb199, 0, none⟩ = some (.int .i64 t194) := (blk_cell BK199.out 0).trans rfl
           have hcz143_1 : w129.cell? ⟨gb199, 1, none⟩ = some (.slice Ao42 t195.length co42) := (blk_cell BK199.out 1).trans rfl
           have hfz143_0 := blk_frozen BK199.out 0; have hfz143_1 := blk_frozen BK199.out 1
           go_wp2_with (first | (go_at_call 22; (with_reducible refine (laws_eqWhole.calls kj24 t210 _ _ t211 t194 _ _ t195 true _ ?side1 ?side2 ?side3 ?side4 A131.out).mono ?_); (case side1 => repeat (first | exact (Kd.R_reads' HO_216001.out).2.2 | (with_reducible refine Kd.C_alloc ?_ _) | (with_reducible refine Kd.C_drewN ?_ _) | (with_reducible refine Kd.C_drew ?_))); (case side2 => exact (Kd.R_reads' HO_216001.out).2.1); (case side3 => repeat (first | exact (Kd.R_reads' HO_200001.out).2.2 | (with_reducible refine Kd.C_alloc ?_ _) | (with_reducible refine Kd.C_drewN ?_ _) | (with_reducible refine Kd.C_drew ?_))); (case side4 => exact (Kd.R_reads' HO_200001.out).2.1); rintro e w144 ⟨rfl, hb⟩; have n0_ := am_ (Kd.R_below (kr_ HO_200001) hb); have n1_ := am_ (Kd.R_below (kr_ HO_205001) hb); have n2_ := am_ (Kd.R_below (kr_ HO_210001) hb); have n3_ := am_ (Kd.R_below (kr_ HO_216001) hb); have n4_ := am_ (Kd.R_below (kr_ HO220) hb); have n5_ := am_ (Kd.R_below (kr_ HO225) hb); have n6_ := am_ (blk_below (bk_ BK182) hb); have n7_ := am_ (blk_below (bk_ BK183) hb); have n8_ := am_ (blk_below (bk_ BK199) hb); have n9_ := am_ (blk_below (bk_ BK204) hb); have n10_ := am_ (blk_below (bk_ BK209) hb); have n11_ := am_ (blk_below (bk_ BK215) hb); have n12_ := am_ (below_step (bl_ HB) hb); clear HO_200001; clear HO_205001; clear HO_210001; clear HO_216001; clear HO220; clear HO225; clear BK182; clear BK183; clear BK199; clear BK204; clear BK209; clear BK215; clear HB; have HO_200001 := n0_; have HO_205001 := n1_; have HO_210001 := n2_; have HO_216001 := n3_; have HO220 := n4_; have HO225 := n5_; have BK182 := n6_; have BK183 := n7_; have BK199 := n8_; have BK204 := n9_; have BK209 := n10_; have BK215 := n11_; have HB := n12_; clear n0_ n1_ n2_ n3_ n4_ n5_ n6_ n7_ n8_ n9_ n10_ n11_ n12_; (try clear hb); (try clear hb2); (try clear hk); (try clear hi)))
           go_meet
           case rel => exact ⟨_, ((t214 != t198)), (by first | rfl | (simp; done) | (simp [*]; done)), H', ⟨by have := HJ24.out; first | omega | exact Nat.le_refl _⟩, ⟨km_ HO_200001 (fun _ hk => ⟨hk.1, ⟨hk.2.1, hk.2.2.1⟩⟩)⟩, ⟨km_ HO_205001 (fun _ hk => ⟨hk.1, ⟨hk.2.1, hk.2.2.1⟩⟩)⟩, ⟨km_ HO_210001 (fun _ hk => ⟨hk.1, ⟨hk.2.1, hk.2.2.1⟩⟩)⟩, ⟨km_ HO_216001 (fun _ hk => ⟨hk.1, ⟨hk.2.1, hk.2.2.1⟩⟩)⟩, ⟨bk_ BK182⟩, ⟨bk_ BK183⟩, ⟨bk_ BK199⟩, ⟨bk_ BK204⟩, ⟨bk_ BK209⟩, ⟨bk_ BK215⟩, ⟨bl_ HB⟩⟩
          ·replace c132 := Bool.eq_false_iff.mpr c132
           subst c132
           have H1 : (laws_FnExactMultiplyWholes.j1 kj24 t198 true a0_0 l0_1 a1_0 l1_1 t194 t195 t210 t211) = some r := by rw [if_neg (show ¬ (false = true) by decide)] at H; exact H
           clear H; have H := H1; clear H1
           have H' := Aside0.mk H
           clear H; have hnb145 := NB215_182.out; have hnc145 := NB182_215.out; have hnb146 := NB215_183.out; have hnc146 := NB183_215.out; have hnb147 := NB215_199.out; have hnc147 := NB199_215.out; have hnb148 := NB215_204.out; have hnc148 := NB204_215.out; have hnb149 := NB215_209.out; have hnc149 := NB209_215.out
           have hcz150_0 : w129.cell? ⟨gb215, 0, none⟩ = some (.int .i64 t210) := (blk_cell BK215.out 0).trans rfl
           have hcz150_1 : w129.cell? ⟨gb215, 1, none⟩ = some (.slice Ao72 t211.length co72) := (blk_cell BK215.out 1).trans rfl
           have hfz150_0 := blk_frozen BK215.out 0; have hfz150_1 := blk_frozen BK215.out 1; have hnb151 := NB199_182.out; have hnc151 := NB182_199.out; have hnb152 := NB199_183.out; have hnc152 := NB183_199.out; have hnb153 := NB199_204.out; have hnc153 := NB204_199.out; have hnb154 := NB199_209.out; have hnc154 := NB209_199.out
           have hcz155_0 : w129.cell? ⟨gb199, 0, none⟩ = some (.int .i64 t194) := (blk_cell BK199.out 0).trans rfl
           have hcz155_1 : w129.cell? ⟨gb199, 1, none⟩ = some (.slice Ao42 t195.length co42) := (blk_cell BK199.out 1).trans rfl
           have hfz155_0 := blk_frozen BK199.out 0; have hfz155_1 := blk_frozen BK199.out 1
           go_wp2_with (first | (go_at_call 22; (with_reducible refine (laws_eqWhole.calls kj24 t210 _ _ t211 t194 _ _ t195 false _ ?side1 ?side2 ?side3 ?side4 A131.out).mono ?_); (case side1 => repeat (first | exact (Kd.R_reads' HO_216001.out).2.2 | (with_reducible refine Kd.C_alloc ?_ _) | (with_reducible refine Kd.C_drewN ?_ _) | (with_reducible refine Kd.C_drew ?_))); (case side2 => exact (Kd.R_reads' HO_216001.out).2.1); (case side3 => repeat (first | exact (Kd.R_reads' HO_200001.out).2.2 | (with_reducible refine Kd.C_alloc ?_ _) | (with_reducible refine Kd.C_drewN ?_ _) | (with_reducible refine Kd.C_drew ?_))); (case side4 => exact (Kd.R_reads' HO_200001.out).2.1); rintro e w156 ⟨rfl, hb⟩; have n0_ := am_ (Kd.R_below (kr_ HO_200001) hb); have n1_ := am_ (Kd.R_below (kr_ HO_205001) hb); have n2_ := am_ (Kd.R_below (kr_ HO_210001) hb); have n3_ := am_ (Kd.R_below (kr_ HO_216001) hb); have n4_ := am_ (Kd.R_below (kr_ HO220) hb); have n5_ := am_ (Kd.R_below (kr_ HO225) hb); have n6_ := am_ (blk_below (bk_ BK182) hb); have n7_ := am_ (blk_below (bk_ BK183) hb); have n8_ := am_ (blk_below (bk_ BK199) hb); have n9_ := am_ (blk_below (bk_ BK204) hb); have n10_ := am_ (blk_below (bk_ BK209) hb); have n11_ := am_ (blk_below (bk_ BK215) hb); have n12_ := am_ (below_step (bl_ HB) hb); clear HO_200001; clear HO_205001; clear HO_210001; clear HO_216001; clear HO220; clear HO225; clear BK182; clear BK183; clear BK199; clear BK204; clear BK209; clear BK215; clear HB; have HO_200001 := n0_; have HO_205001 := n1_; have HO_210001 := n2_; have HO_216001 := n3_; have HO220 := n4_; have HO225 := n5_; have BK182 := n6_; have BK183 := n7_; have BK199 := n8_; have BK204 := n9_; have BK209 := n10_; have BK215 := n11_; have HB := n12_; clear n0_ n1_ n2_ n3_ n4_ n5_ n6_ n7_ n8_ n9_ n10_ n11_ n12_; (try clear hb); (try clear hb2); (try clear hk); (try clear hi)))
           go_meet
           case rel => exact ⟨_, (true), (by first | rfl | (simp; done) | (simp [*]; done)), H', ⟨by have := HJ24.out; first | omega | exact Nat.le_refl _⟩, ⟨km_ HO_200001 (fun _ hk => ⟨hk.1, ⟨hk.2.1, hk.2.2.1⟩⟩)⟩, ⟨km_ HO_205001 (fun _ hk => ⟨hk.1, ⟨hk.2.1, hk.2.2.1⟩⟩)⟩, ⟨km_ HO_210001 (fun _ hk => ⟨hk.1, ⟨hk.2.1, hk.2.2.1⟩⟩)⟩, ⟨km_ HO_216001 (fun _ hk => ⟨hk.1, ⟨hk.2.1, hk.2.2.1⟩⟩)⟩, ⟨bk_ BK182⟩, ⟨bk_ BK183⟩, ⟨bk_ BK199⟩, ⟨bk_ BK204⟩, ⟨bk_ BK209⟩, ⟨bk_ BK215⟩, ⟨bl_ HB⟩⟩
        case rest =>
         clear HC108; try clear c1; try clear c2; try clear p2; try clear c7; try clear c8; try clear c9; try clear c10; try clear c11; try clear c12; try clear c13; try clear c14; try clear c15; try clear c20; try clear c22; try clear c25; try clear c76; try clear c77; try clear c78; try clear c79; try clear c81; try clear c82; try clear c83; try clear c84; try clear c87; try clear c88; try clear c89; try clear c90; try clear c91; try clear c93; try clear c94; try clear c95; try clear c96; try clear c99; try clear c102; try clear c105; try clear c117; try clear c118; try clear c119; try clear c120; try clear c121; try clear c124; try clear c125; try clear c126; try clear c127; try clear c130; try clear c130b0; try clear c132; try clear c133; try clear c134; try clear c135; try clear c136; try clear c137; try clear c139; try clear c140; try clear c141; try clear c142; try clear c145; try clear c146; try clear c147; try clear c148; try clear c149; try clear c151; try clear c152; try clear c153; try clear c154; try clear hcz122_0; try clear hcz122_1; try clear hcz128_0; try clear hcz128_1; try clear hcz138_0; try clear hcz138_1; try clear hcz143_0; try clear hcz143_1; try clear hcz150_0; try clear hcz150_1; try clear hcz155_0; try clear hcz155_1; try clear hcz45_0; try clear hcz45_1; try clear hcz51_0; try clear hcz51_1; try clear hcz54_0; try clear hcz54_1; try clear hcz61_0; try clear hcz61_1; try clear hcz63_0; try clear hcz63_1; try clear hcz71_0; try clear hcz71_1; try clear hcz80_0; try clear hcz80_1; try clear hcz85_0; try clear hcz85_1; try clear hcz92_0; try clear hcz92_1; try clear hcz97_0; try clear hcz97_1; try clear hfz122_0; try clear hfz122_1; try clear hfz128_0; try clear hfz128_1; try clear hfz138_0; try clear hfz138_1; try clear hfz143_0; try clear hfz143_1; try clear hfz150_0; try clear hfz150_1; try clear hfz155_0; try clear hfz155_1; try clear hfz45_0; try clear hfz45_1; try clear hfz51_0; try clear hfz51_1; try clear hfz54_0; try clear hfz54_1; try clear hfz61_0
         try clear hfz61_1; try clear hfz63_0; try clear hfz63_1; try clear hfz71_0; try clear hfz71_1; try clear hfz80_0; try clear hfz80_1; try clear hfz85_0; try clear hfz85_1; try clear hfz92_0; try clear hfz92_1; try clear hfz97_0; try clear hfz97_1
         obtain ⟨kq, x82_107, rfl, HA, HJ107, HO_200001, HO_205001, HO_210001, HO_216001, BK182, BK183, BK199, BK204, BK209, BK215, HB⟩ := hcut
         have hl205001_107 := (Kd.R_reads' HO_205001.out).1
         rw [hl205001_107] at HO_205001
         (try simp only [hl205001_107])
         (try simp only [hl205001_107] at BK182)
         (try simp only [hl205001_107] at BK183)
         (try simp only [hl205001_107] at BK199)
         (try simp only [hl205001_107] at BK204)
         (try simp only [hl205001_107] at BK209)
         (try simp only [hl205001_107] at BK215)
         (try simp only [hl205001_107] at HO_200001)
         (try simp only [hl205001_107] at HO_210001)
         (try simp only [hl205001_107] at HO_216001)
         have hl210001_107 := (Kd.R_reads' HO_210001.out).1
         rw [hl210001_107] at HO_210001
         (try simp only [hl210001_107])
         (try simp only [hl210001_107] at BK182)
         (try simp only [hl210001_107] at BK183)
         (try simp only [hl210001_107] at BK199)
         (try simp only [hl210001_107] at BK204)
         (try simp only [hl210001_107] at BK209)
         (try simp only [hl210001_107] at BK215)
         (try simp only [hl210001_107] at HO_200001)
         (try simp only [hl210001_107] at HO_205001)
         (try simp only [hl210001_107] at HO_216001)
         cases kq with
         | zero => exact absurd HA.out (by simp [laws_FnExactMultiplyWholes.j1])
         | succ kj107 =>
          have H := HA.out; clear HA
          simp only [laws_FnExactMultiplyWholes.j1] at H
          by_cases c157 : x82_107 = true
          ·subst c157
           have H1 : (some false) = some r := by rw [if_pos rfl] at H; exact H
           clear H; have H := H1; clear H1; obtain rfl := Option.some.inj H
           go_wp2
           go_ret
           exact ⟨by first | rfl | (simp [errW_none, errW_some] <;> rfl) | (simp [*, errW_none, errW_some] <;> rfl), bl_ HB⟩
          ·replace c157 := Bool.eq_false_iff.mpr c157
           subst c157
           have H1 : ((laws_markWhole.f kj107 t210 t211 1).bind fun bt232 => ((laws_heldWhole.f kj107 t210 bt232.2 1).bind fun t234 => (if t234 < 0 then (some false) else (if t234 = bt232.1 then ((laws_toWhole.f kj107 a0_0 l0_1).bind fun bt235 => ((laws_toWhole.f kj107 a1_0 l1_1).bind fun bt239 => ((impl_MultiplyWholes.f bt235.1 bt235.2 bt239.1 bt239.2).bind fun bt243 => ((laws_eqWhole.f kj107 bt243.1 bt243.2.1 t194 t195).bind fun t249 => (if t249 = true then (laws_FnExactMultiplyWholes.j2 kj107 bt232.1 (bt243.2.2 != t198) t210 bt232.2) else (laws_FnExactMultiplyWholes.j2 kj107 bt232.1 true t210 bt232.2)))))) else (some false))))) = some r := by rw [if_neg (show ¬ (false = true) by decide)] at H; exact H
           clear H; have H := H1; clear H1
           replace H := Option.bind_eq_some_iff.mp H
           obtain ⟨⟨t232, t233⟩, A1580, H⟩ := H
           replace H : ((laws_heldWhole.f kj107 t210 t233 1).bind fun t234 => (if t234 < 0 then (some false) else (if t234 = t232 then ((laws_toWhole.f kj107 a0_0 l0_1).bind fun bt235 => ((laws_toWhole.f kj107 a1_0 l1_1).bind fun bt239 => ((impl_MultiplyWholes.f bt235.1 bt235.2 bt239.1 bt239.2).bind fun bt243 => ((laws_eqWhole.f kj107 bt243.1 bt243.2.1 t194 t195).bind fun t249 => (if t249 = true then (laws_FnExactMultiplyWholes.j2 kj107 t232 (bt243.2.2 != t198) t210 t233) else (laws_FnExactMultiplyWholes.j2 kj107 t232 true t210 t233)))))) else (some false)))) = some r := H
           have A158 := Aside0.mk A1580; clear A1580
           replace H := Option.bind_eq_some_iff.mp H
           obtain ⟨t234, A1590, H⟩ := H
           replace H : (if t234 < 0 then (some false) else (if t234 = t232 then ((laws_toWhole.f kj107 a0_0 l0_1).bind fun bt235 => ((laws_toWhole.f kj107 a1_0 l1_1).bind fun bt239 => ((impl_MultiplyWholes.f bt235.1 bt235.2 bt239.1 bt239.2).bind fun bt243 => ((laws_eqWhole.f kj107 bt243.1 bt243.2.1 t194 t195).bind fun t249 => (if t249 = true then (laws_FnExactMultiplyWholes.j2 kj107 t232 (bt243.2.2 != t198) t210 t233) else (laws_FnExactMultiplyWholes.j2 kj107 t232 true t210 t233)))))) else (some false))) = some r := H
           have A159 := Aside0.mk A1590; clear A1590
           by_cases c160 : t234 < 0
           ·rw [if_pos c160] at H
            have c160b0 : decide (t234 < 0) = true := decide_eq_true c160
            clear c160; obtain rfl := Option.some.inj H; have hnb161 := NB215_182.out; have hnc161 := NB182_215.out; have hnb162 := NB215_183.out; have hnc162 := NB183_215.out; have hnb163 := NB215_199.out; have hnc163 := NB199_215.out; have hnb164 := NB215_204.out; have hnc164 := NB204_215.out; have hnb165 := NB215_209.out; have hnc165 := NB209_215.out
            have hcz166_0 : wc.cell? ⟨gb215, 0, none⟩ = some (.int .i64 t210) := (blk_cell BK215.out 0).trans rfl
            have hcz166_1 : wc.cell? ⟨gb215, 1, none⟩ = some (.slice Ao72 t211.length co72) := (blk_cell BK215.out 1).trans rfl
            have hfz166_0 := blk_frozen BK215.out 0; have hfz166_1 := blk_frozen BK215.out 1
            go_wp2_with (first | ((with_reducible refine gate_callee (f := 25) rfl ?_); refine goesL_ (some 85) rfl rfl Tryd.func25 (by kernel_rfl) rfl #[.agg #[.int .i64 t210, .slice Ao72 t211.length co72], .int .i64 1] rfl ma_ ?_; (with_reducible refine (laws_markWhole.calls kj107 t210 (fun k_ => some k_ = (.slice Ao72 t211.length co72 : Value).ownBlock) (.slice Ao72 t211.length co72) t211 1 t232 t233 w _ ?side1 ?side2 A158.out).mono ?_); (case side1 => repeat (first | (with_reducible first | exact HB.out | apply below_alloc | apply pw_below_drewN | apply below_drew1 | refine below_set ?_ GE182.out | refine below_set ?_ GE183.out | refine below_set ?_ GE199.out | refine below_set ?_ GE204.out | refine below_set ?_ GE209.out | refine below_set ?_ GE215.out) | exact HB.out)); (case side2 => exact Kd.R_tight rfl HO_216001.out); rintro e w167 ⟨rfl, hy0, hb, hkp⟩; refine ⟨_, rfl, ?_⟩; have n0_ := am_ (Kd.R_mono (ok' := fun k_ => some k_ ≠ (.slice Ao52 t228.length co52 : Value).ownBlock ∧ some k_ ≠ (.slice Ao62 t230.length co62 : Value).ownBlock ∧ some k_ ≠ (.slice Ao72 t211.length co72 : Value).ownBlock) (Kd.R_keptB (HO_200001.out) hkp (fun k_ hk_ hs_ => (hk_.2.2) hs_)) (fun k_ hk_ => ⟨hk_.1.1, hk_.1.2.1, hk_.1.2.2⟩)); have n1_ := am_ (Kd.R_mono (ok' := fun k_ => some k_ ≠ (.slice Ao42 t195.length co42 : Value).ownBlock ∧ some k_ ≠ (.slice Ao62 t230.length co62 : Value).ownBlock ∧ some k_ ≠ (.slice Ao72 t211.length co72 : Value).ownBlock) (Kd.R_keptB (HO_205001.out) hkp (fun k_ hk_ hs_ => (hk_.2.2) hs_)) (fun k_ hk_ => ⟨hk_.1.1, hk_.1.2.1, hk_.1.2.2⟩)); have n2_ := am_ (Kd.R_mono (ok' := fun k_ => some k_ ≠ (.slice Ao42 t195.length co42 : Value).ownBlock ∧ some k_ ≠ (.slice Ao52 t228.length co52 : Value).ownBlock ∧ some k_ ≠ (.slice Ao72 t211.length co72 : Value).ownBlock) (Kd.R_keptB (HO_210001.out) hkp (fun k_ hk_ hs_ => (hk_.2.2) hs_)) (fun k_ hk_ => ⟨hk_.1.1, hk_.1.2.1, hk_.1.2.2⟩)); have n3_ := am_ (Kd.R_reok rfl hy0 (fun k_ e_ => HO_216001.out.1 k_ e_)); have n4_ := am_ (blk_kept (bk_ BK182) hkp (fun hs_ => (fun e_ => (Kd.R_ne HO_216001.out BK182.out (by decide)) e_) hs_)); have n5_ := am_ (blk_kept (bk_ BK183) hkp (fun hs_ => (fun e_ => (Kd.R_ne HO_216001.out BK183.out (by decide)) e_) hs_)); have n6_ := am_ (blk_kept (bk_ BK199) hkp (fun hs_ => (fun e_ => (Kd.R_ne HO_216001.out BK199.out (by decide)) e_) hs_)); have n7_ := am_ (blk_kept (bk_ BK204) hkp (fun hs_ => (fun e_ => (Kd.R_ne HO_216001.out BK204.out (by decide)) e_) hs_)); have n8_ := am_ (blk_kept (bk_ BK209) hkp (fun hs_ => (fun e_ => (Kd.R_ne HO_216001.out BK209.out (by decide)) e_) hs_)); have n9_ := am_ (blk_kept (bk_ BK215) hkp (fun hs_ => (fun e_ => (Kd.R_ne HO_216001.out BK215.out (by decide)) e_) hs_)); have n10_ := am_ (hb); clear HO_200001; clear HO_205001; clear HO_210001; clear HO_216001; clear BK182; clear BK183; clear BK199; clear BK204; clear BK209; clear BK215; clear HB; have HO_200001 := n0_; have HO_205001 := n1_; have HO_210001 := n2_; have HO_216001 := n3_; have BK182 := n4_; have BK183 := n5_; have BK199 := n6_; have BK204 := n7_; have BK209 := n8_; have BK215 := n9_; have HB := n10_; clear n0_ n1_ n2_ n3_ n4_ n5_ n6_ n7_ n8_ n9_ n10_; (try clear hb); (try clear hkp); (try clear hy0); have hcz168_0 : w167.cell? ⟨gb215, 0, none⟩ = some (.int .i64 t210) := (blk_cell BK215.out 0).trans rfl; have hcz168_1 : w167.cell? ⟨gb215, 1, none⟩ = some (.slice Ao72 t211.length co72) := (blk_cell BK215.out 1).trans rfl; have hfz168_0 := blk_frozen BK215.out 0; have hfz168_1 := blk_frozen BK215.out 1) | ((with_reducible refine gate_callee (f := 26) rfl ?_); refine goesL_ (some 88) rfl rfl Tryd.func26 (by kernel_rfl) rfl #[.agg #[.int .i64 t210, .slice Ao72 t233.length co72], .int .i64 1] rfl (by (try simp only [List.map_toArray, List.map_cons, List.map_nil]); first | done | (rw [show t233.length = t211.length from (Kd.R_reads' HO_216001.out).1.symm] <;> rfl) | rfl | (simp only [List.length_drop, List.length_take]; rfl)) ?_; (with_reducible refine (laws_heldWhole.calls kj107 t210 _ _ t233 1 t234 _ ?side1 ?side2 A159.out).mono ?_); (case side1 => repeat (first | exact (Kd.R_reads' HO_216001.out).2.2 | (with_reducible refine Kd.C_alloc ?_ _) | (with_reducible refine Kd.C_drewN ?_ _) | (with_reducible refine Kd.C_drew ?_))); (case side2 => rw [show t233.length = t211.length from (Kd.R_reads' HO_216001.out).1.symm]; exact (Kd.R_reads' HO_216001.out).2.1); rintro e w169 ⟨rfl, hb⟩; refine ⟨_, rfl, ?_⟩; have n0_ := am_ (Kd.R_below (kr_ HO_200001) hb); have n1_ := am_ (Kd.R_below (kr_ HO_205001) hb); have n2_ := am_ (Kd.R_below (kr_ HO_210001) hb); have n3_ := am_ (Kd.R_below (kr_ HO_216001) hb); have n4_ := am_ (blk_below (bk_ BK182) hb); have n5_ := am_ (blk_below (bk_ BK183) hb); have n6_ := am_ (blk_below (bk_ BK199) hb); have n7_ := am_ (blk_below (bk_ BK204) hb); have n8_ := am_ (blk_below (bk_ BK209) hb); have n9_ := am_ (blk_below (bk_ BK215) hb); have n10_ := am_ (below_step (bl_ HB) hb); clear HO_200001; clear HO_205001; clear HO_210001; clear HO_216001; clear BK182; clear BK183; clear BK199; clear BK204; clear BK209; clear BK215; clear HB; have HO_200001 := n0_; have HO_205001 := n1_; have HO_210001 := n2_; have HO_216001 := n3_; have BK182 := n4_; have BK183 := n5_; have BK199 := n6_; have BK204 := n7_; have BK209 := n8_; have BK215 := n9_; have HB := n10_; clear n0_ n1_ n2_ n3_ n4_ n5_ n6_ n7_ n8_ n9_ n10_; (try clear hb); (try clear hb2); (try clear hk); (try clear hi)))
            go_ret
            exact ⟨by first | rfl | (simp [errW_none, errW_some] <;> rfl) | (simp [*, errW_none, errW_some] <;> rfl), bl_ HB⟩
           ·rw [if_neg c160] at H
            have c160b0 : decide (t234 < 0) = false := decide_eq_false c160
            clear c160
            by_cases c170 : t234 = t232
            ·rw [if_pos c170] at H
             have c170b0 : (t234 == t232) = true := beq_iff_eq.mpr c170
             have c170b1 : (t234 != t232) = false := bne_eq_false_iff_eq.mpr c170
             clear c170
             replace H := Option.bind_eq_some_iff.mp H
             obtain ⟨⟨t235, t236⟩, A1710, H⟩ := H
             replace H : ((laws_toWhole.f kj107 a1_0 l1_1).bind fun bt239 => ((impl_MultiplyWholes.f t235 t236 bt239.1 bt239.2).bind fun bt243 => ((laws_eqWhole.f kj107 bt243.1 bt243.2.1 t194 t195).bind fun t249 => (if t249 = true then (laws_FnExactMultiplyWholes.j2 kj107 t232 (bt243.2.2 != t198) t210 t233) else (laws_FnExactMultiplyWholes.j2 kj107 t232 true t210 t233))))) = some r := H
             have A171 := Aside0.mk A1710; clear A1710
             replace H := Option.bind_eq_some_iff.mp H
             obtain ⟨⟨t239, t240⟩, A1720, H⟩ := H
             replace H : ((impl_MultiplyWholes.f t235 t236 t239 t240).bind fun bt243 => ((laws_eqWhole.f kj107 bt243.1 bt243.2.1 t194 t195).bind fun t249 => (if t249 = true then (laws_FnExactMultiplyWholes.j2 kj107 t232 (bt243.2.2 != t198) t210 t233) else (laws_FnExactMultiplyWholes.j2 kj107 t232 true t210 t233)))) = some r := H
             have A172 := Aside0.mk A1720; clear A1720
             replace H := Option.bind_eq_some_iff.mp H
             obtain ⟨⟨t243, t244, t247⟩, A1730, H⟩ := H
             replace H : ((laws_eqWhole.f kj107 t243 t244 t194 t195).bind fun t249 => (if t249 = true then (laws_FnExactMultiplyWholes.j2 kj107 t232 (t247 != t198) t210 t233) else (laws_FnExactMultiplyWholes.j2 kj107 t232 true t210 t233))) = some r := H
             have A173 := Aside0.mk A1730; clear A1730; have HC174 := Aside0.mk H; clear H; have hnb175 := NB215_182.out; have hnc175 := NB182_215.out; have hnb176 := NB215_183.out; have hnc176 := NB183_215.out; have hnb177 := NB215_199.out; have hnc177 := NB199_215.out; have hnb178 := NB215_204.out; have hnc178 := NB204_215.out; have hnb179 := NB215_209.out; have hnc179 := NB209_215.out
             have hcz180_0 : wc.cell? ⟨gb215, 0, none⟩ = some (.int .i64 t210) := (blk_cell BK215.out 0).trans rfl
             have hcz180_1 : wc.cell? ⟨gb215, 1, none⟩ = some (.slice Ao72 t211.length co72) := (blk_cell BK215.out 1).trans rfl
             have hfz180_0 := blk_frozen BK215.out 0; have hfz180_1 := blk_frozen BK215.out 1
             try go_wp2_with (first | ((with_reducible refine gate_callee (f := 25) rfl ?_); refine goesL_ (some 85) rfl rfl Tryd.func25 (by kernel_rfl) rfl #[.agg #[.int .i64 t210, .slice Ao72 t211.length co72], .int .i64 1] rfl ma_ ?_; (with_reducible refine (laws_markWhole.calls kj107 t210 (fun k_ => some k_ = (.slice Ao72 t211.length co72 : Value).ownBlock) (.slice Ao72 t211.length co72) t211 1 t232 t233 w _ ?side1 ?side2 A158.out).mono ?_); (case side1 => repeat (first | (with_reducible first | exact HB.out | apply below_alloc | apply pw_below_drewN | apply below_drew1 | refine below_set ?_ GE182.out | refine below_set ?_ GE183.out | refine below_set ?_ GE199.out | refine below_set ?_ GE204.out | refine below_set ?_ GE209.out | refine below_set ?_ GE215.out) | exact HB.out)); (case side2 => exact Kd.R_tight rfl HO_216001.out); rintro e w181 ⟨rfl, hy0, hb, hkp⟩; refine ⟨_, rfl, ?_⟩; have n0_ := am_ (Kd.R_mono (ok' := fun k_ => some k_ ≠ (.slice Ao52 t228.length co52 : Value).ownBlock ∧ some k_ ≠ (.slice Ao62 t230.length co62 : Value).ownBlock ∧ some k_ ≠ (.slice Ao72 t211.length co72 : Value).ownBlock) (Kd.R_keptB (HO_200001.out) hkp (fun k_ hk_ hs_ => (hk_.2.2) hs_)) (fun k_ hk_ => ⟨hk_.1.1, hk_.1.2.1, hk_.1.2.2⟩)); have n1_ := am_ (Kd.R_mono (ok' := fun k_ => some k_ ≠ (.slice Ao42 t195.length co42 : Value).ownBlock ∧ some k_ ≠ (.slice Ao62 t230.length co62 : Value).ownBlock ∧ some k_ ≠ (.slice Ao72 t211.length co72 : Value).ownBlock) (Kd.R_keptB (HO_205001.out) hkp (fun k_ hk_ hs_ => (hk_.2.2) hs_)) (fun k_ hk_ => ⟨hk_.1.1, hk_.1.2.1, hk_.1.2.2⟩)); have n2_ := am_ (Kd.R_mono (ok' := fun k_ => some k_ ≠ (.slice Ao42 t195.length co42 : Value).ownBlock ∧ some k_ ≠ (.slice Ao52 t228.length co52 : Value).ownBlock ∧ some k_ ≠ (.slice Ao72 t211.length co72 : Value).ownBlock) (Kd.R_keptB (HO_210001.out) hkp (fun k_ hk_ hs_ => (hk_.2.2) hs_)) (fun k_ hk_ => ⟨hk_.1.1, hk_.1.2.1, hk_.1.2.2⟩)); have n3_ := am_ (Kd.R_reok rfl hy0 (fun k_ e_ => HO_216001.out.1 k_ e_)); have n4_ := am_ (blk_kept (bk_ BK182) hkp (fun hs_ => (fun e_ => (Kd.R_ne HO_216001.out BK182.out (by decide)) e_) hs_)); have n5_ := am_ (blk_kept (bk_ BK183) hkp (fun hs_ => (fun e_ => (Kd.R_ne HO_216001.out BK183.out (by decide)) e_) hs_)); have n6_ := am_ (blk_kept (bk_ BK199) hkp (fun hs_ => (fun e_ => (Kd.R_ne HO_216001.out BK199.out (by decide)) e_) hs_)); have n7_ := am_ (blk_kept (bk_ BK204) hkp (fun hs_ => (fun e_ => (Kd.R_ne HO_216001.out BK204.out (by decide)) e_) hs_)); have n8_ := am_ (blk_kept (bk_ BK209) hkp (fun hs_ => (fun e_ => (Kd.R_ne HO_216001.out BK209.out (by decide)) e_) hs_)); have n9_ := am_ (blk_kept (bk_ BK215) hkp (fun hs_ => (fun e_ => (Kd.R_ne HO_216001.out BK215.out (by decide)) e_) hs_)); have n10_ := am_ (hb); clear HO_200001; clear HO_205001; clear HO_210001; clear HO_216001; clear BK182; clear BK183; clear BK199; clear BK204; clear BK209; clear BK215; clear HB; have HO_200001 := n0_; have HO_205001 := n1_; have HO_210001 := n2_; have HO_216001 := n3_; have BK182 := n4_; have BK183 := n5_; have BK199 := n6_; have BK204 := n7_; have BK209 := n8_; have BK215 := n9_; have HB := n10_; clear n0_ n1_ n2_ n3_ n4_ n5_ n6_ n7_ n8_ n9_ n10_; (try clear hb); (try clear hkp); (try clear hy0); have hcz182_0 : w181.cell? ⟨gb215, 0, none⟩ = some (.int .i64 t210) := (blk_cell BK215.out 0).trans rfl; have hcz182_1 : w181.cell? ⟨gb215, 1, none⟩ = some (.slice Ao72 t211.length co72) := (blk_cell BK215.out 1).trans rfl; have hfz182_0 := blk_frozen BK215.out 0; have hfz182_1 := blk_frozen BK215.out 1) | ((with_reducible refine gate_callee (f := 26) rfl ?_); refine goesL_ (some 88) rfl rfl Tryd.func26 (by kernel_rfl) rfl #[.agg #[.int .i64 t210, .slice Ao72 t233.length co72], .int .i64 1] rfl (by (try simp only [List.map_toArray, List.map_cons, List.map_nil]); first | done | (rw [show t233.length = t211.length from (Kd.R_reads' HO_216001.out).1.symm] <;> rfl) | rfl | (simp only [List.length_drop, List.length_take]; rfl)) ?_; (with_reducible refine (laws_heldWhole.calls kj107 t210 _ _ t233 1 t234 _ ?side1 ?side2 A159.out).mono ?_); (case side1 => repeat (first | exact (Kd.R_reads' HO_216001.out).2.2 | (with_reducible refine Kd.C_alloc ?_ _) | (with_reducible refine Kd.C_drewN ?_ _) | (with_reducible refine Kd.C_drew ?_))); (case side2 => rw [show t233.length = t211.length from (Kd.R_reads' HO_216001.out).1.symm]; exact (Kd.R_reads' HO_216001.out).2.1); rintro e w183 ⟨rfl, hb⟩; refine ⟨_, rfl, ?_⟩; have n0_ := am_ (Kd.R_below (kr_ HO_200001) hb); have n1_ := am_ (Kd.R_below (kr_ HO_205001) hb); have n2_ := am_ (Kd.R_below (kr_ HO_210001) hb); have n3_ := am_ (Kd.R_below (kr_ HO_216001) hb); have n4_ := am_ (blk_below (bk_ BK182) hb); have n5_ := am_ (blk_below (bk_ BK183) hb); have n6_ := am_ (blk_below (bk_ BK199) hb); have n7_ := am_ (blk_below (bk_ BK204) hb); have n8_ := am_ (blk_below (bk_ BK209) hb); have n9_ := am_ (blk_below (bk_ BK215) hb); have n10_ := am_ (below_step (bl_ HB) hb); clear HO_200001; clear HO_205001; clear HO_210001; clear HO_216001; clear BK182; clear BK183; clear BK199; clear BK204; clear BK209; clear BK215; clear HB; have HO_200001 := n0_; have HO_205001 := n1_; have HO_210001 := n2_; have HO_216001 := n3_; have BK182 := n4_; have BK183 := n5_; have BK199 := n6_; have BK204 := n7_; have BK209 := n8_; have BK215 := n9_; have HB := n10_; clear n0_ n1_ n2_ n3_ n4_ n5_ n6_ n7_ n8_ n9_ n10_; (try clear hb); (try clear hb2); (try clear hk); (try clear hi)))
             have n0_ := am_ (Kd.R_drew HO_200001.out); have n1_ := am_ (Kd.R_drew HO_205001.out); have n2_ := am_ (Kd.R_drew HO_210001.out); have n3_ := am_ (Kd.R_drew HO_216001.out); have n4_ := am_ (blk_drew BK182.out); have n5_ := am_ (blk_drew BK183.out); have n6_ := am_ (blk_drew BK199.out); have n7_ := am_ (blk_drew BK204.out); have n8_ := am_ (blk_drew BK209.out); have n9_ := am_ (blk_drew BK215.out); have n10_ := am_ (below_drew1 HB.out); clear HO_200001 HO_205001 HO_210001 HO_216001 BK182 BK183 BK199 BK204 BK209 BK215 HB; have HO_200001 := n0_; have HO_205001 := n1_; have HO_210001 := n2_; have HO_216001 := n3_; have BK182 := n4_; have BK183 := n5_; have BK199 := n6_; have BK204 := n7_; have BK209 := n8_; have BK215 := n9_; have HB := n10_; clear n0_ n1_ n2_ n3_ n4_ n5_ n6_ n7_ n8_ n9_ n10_
             refine start_ (n := 11) (S := fun w' => w'.cell? ⟨gb182, 0, none⟩ = some (.int .i64 a0_0) ∧ w'.cell? ⟨gb182, 1, none⟩ = some (.slice A0_1 l0_1.length c0_1) ∧ w'.cell? ⟨gb183, 0, none⟩ = some (.int .i64 a1_0) ∧ w'.cell? ⟨gb183, 1, none⟩ = some (.slice A1_1 l1_1.length c1_1)) (ds := []) #[false, false, false, false, false, false, false, false, false, false, false] (by kernel_rfl) rfl rfl ⟨(blk_cell BK182.out 0).trans rfl, (blk_cell BK182.out 1).trans rfl, (blk_cell BK183.out 0).trans rfl, (blk_cell BK183.out 1).trans rfl⟩ (fun hHeld => ?_); refine with_tabW laws_FnExactMultiplyWholes.tab31 laws_FnExactMultiplyWholes.bits31 (fun HT_ HW_ => ?_)
             generalize w183.drew = w184 at HO_200001 HO_205001 HO_210001 HO_216001 BK182 BK183 BK199 BK204 BK209 BK215 HB hHeld ⊢
             refine take_ (i := 0) (N := some 95) (v := ?_) (a' := ?_) #[true, false, false, false, false, false, false, false, false, false, false] rfl rfl (take_ofW HT_.out HW_.out (by kernel_rfl)) (fun _ _ _ h => h) (Or.inl ⟨by rfl, ?_⟩) hHeld ?_ ?_
             rotate_left
             ·rintro w' ⟨s0, s1, s2, s3⟩
              go_simp
              with_reducible rfl
             rotate_left
             ·exact nm_
             refine take_ (i := 2) (N := some 97) (v := ?_) (a' := ?_) #[true, false, true, false, false, false, false, false, false, false, false] rfl rfl (take_ofW HT_.out HW_.out (by kernel_rfl)) (fun _ _ _ h => h) (Or.inl ⟨by rfl, ?_⟩) hHeld ?_ ?_
             rotate_left
             ·rintro w' ⟨s0, s1, s2, s3⟩
              go_simp
              with_reducible rfl
             rotate_left
             ·exact nm_
             refine join_ (σ := Value × Value × Value × Nat) 2 #[true, true, true, true, true, true, true, true, true, false, false] (fun s_ => [(96, .agg #[.int .i64 t235, s_.1]), (98, .agg #[.int .i64 t239, s_.2.1]), (99, .tuple #[.agg #[.int .i64 t243, s_.2.2.1], .int .i64 t247]), (15, .pointer (some ⟨s_.2.2.2, 0, none⟩)), (94, .tuple #[.agg #[.int .i64 t243, s_.2.2.1], .int .i64 t247]), (100, .agg #[.int .i64 t243, s_.2.2.1]), (101, .int .i64 t247)]) (fun s_ w' => (w'.cell? ⟨gb182, 0, none⟩ = some (.int .i64 a0_0) ∧ w'.cell? ⟨gb182, 1, none⟩ = some (.slice A0_1 l0_1.length c0_1) ∧ w'.cell? ⟨gb183, 0, none⟩ = some (.int .i64 a1_0) ∧ w'.cell? ⟨gb183, 1, none⟩ = some (.slice A1_1 l1_1.length c1_1)) ∧ (Kd.R (Kd.int .i64) 2 w' w.heap.size (fun k_ => some k_ ≠ (s_.2.1 : Value).ownBlock ∧ some k_ ≠ (s_.2.2.1 : Value).ownBlock ∧ some k_ ≠ (.slice Ao42 t195.length co42 : Value).ownBlock ∧ some k_ ≠ (.slice Ao52 t228.length co52 : Value).ownBlock ∧ some k_ ≠ (.slice Ao62 t230.length co62 : Value).ownBlock ∧ some k_ ≠ (.slice Ao72 t211.length co72 : Value).ownBlock) s_.1 t236) ∧ (Kd.R (Kd.int .i64) 2 w' w.heap.size (fun k_ => some k_ ≠ (s_.1 : Value).ownBlock ∧ some k_ ≠ (s_.2.2.1 : Value).ownBlock ∧ some k_ ≠ (.slice Ao42 t195.length co42 : Value).ownBlock ∧ some k_ ≠ (.slice Ao52 t228.length co52 : Value).ownBlock ∧ some k_ ≠ (.slice Ao62 t230.length co62 : Value).ownBlock ∧ some k_ ≠ (.slice Ao72 t211.length co72 : Value).ownBlock) s_.2.1 t240) ∧ (Kd.R (Kd.int .i64) 2 w' w.heap.size (fun k_ => some k_ ≠ (s_.1 : Value).ownBlock ∧ some k_ ≠ (s_.2.1 : Value).ownBlock ∧ some k_ ≠ (.slice Ao42 t195.length co42 : Value).ownBlock ∧ some k_ ≠ (.slice Ao52 t228.length co52 : Value).ownBlock ∧ some k_ ≠ (.slice Ao62 t230.length co62 : Value).ownBlock ∧ some k_ ≠ (.slice Ao72 t211.length co72 : Value).ownBlock) s_.2.2.1 t244) ∧ (Kd.R (Kd.int .i64) 2 w' w.heap.size (fun k_ => some k_ ≠ (s_.1 : Value).ownBlock ∧ some k_ ≠ (s_.2.1 : Value).ownBlock ∧ some k_ ≠ (s_.2.2.1 : Value).ownBlock ∧ some k_ ≠ (.slice Ao52 t228.length co52 : Value).ownBlock ∧ some k_ ≠ (.slice Ao62 t230.length co62 : Value).ownBlock ∧ some k_ ≠ (.slice Ao72 t211.length co72 : Value).ownBlock) (.slice Ao42 t195.length co42) t195) ∧ (Kd.R (Kd.int .i64) 2 w' w.heap.size (fun k_ => some k_ ≠ (s_.1 : Value).ownBlock ∧ some k_ ≠ (s_.2.1 : Value).ownBlock ∧ some k_ ≠ (s_.2.2.1 : Value).ownBlock ∧ some k_ ≠ (.slice Ao42 t195.length co42 : Value).ownBlock ∧ some k_ ≠ (.slice Ao62 t230.length co62 : Value).ownBlock ∧ some k_ ≠ (.slice Ao72 t211.length co72 : Value).ownBlock) (.slice Ao52 t228.length co52) t228) ∧ (Kd.R (Kd.int .i64) 2 w' w.heap.size (fun k_ => some k_ ≠ (s_.1 : Value).ownBlock ∧ some k_ ≠ (s_.2.1 : Value).ownBlock ∧ some k_ ≠ (s_.2.2.1 : Value).ownBlock ∧ some k_ ≠ (.slice Ao42 t195.length co42 : Value).ownBlock ∧ some k_ ≠ (.slice Ao52 t228.length co52 : Value).ownBlock ∧ some k_ ≠ (.slice Ao72 t211.length co72 : Value).ownBlock) (.slice Ao62 t230.length co62) t230) ∧ (Kd.R (Kd.int .i64) 2 w' w.heap.size (fun k_ => some k_ ≠ (s_.1 : Value).ownBlock ∧ some k_ ≠ (s_.2.1 : Value).ownBlock ∧ some k_ ≠ (s_.2.2.1 : Value).ownBlock ∧ some k_ ≠ (.slice Ao42 t195.length co42 : Value).ownBlock ∧ some k_ ≠ (.slice Ao52 t228.length co52 : Value).ownBlock ∧ some k_ ≠ (.slice Ao62 t230.length co62 : Value).ownBlock) (.slice Ao72 t211.length co72) t233) ∧ (w'.heap[gb182]? = some (.cells #[.int .i64 a0_0, .slice A0_1 l0_1.length c0_1] 24 (0, 0))) ∧ (w'.heap[gb183]? = some (.cells #[.int .i64 a1_0, .slice A1_1 l1_1.length c1_1] 24 (0, 0))) ∧ (w'.heap[gb199]? = some (.cells #[.int .i64 t194, .slice Ao42 t195.length co42] 28 (0, 0))) ∧ (w'.heap[gb204]? = some (.cells #[.int .i64 t200, .slice Ao52 t228.length co52] 28 (0, 0))) ∧ (w'.heap[gb209]? = some (.cells #[.int .i64 t205, .slice Ao62 t230.length co62] 28 (0, 0))) ∧ (w'.heap[gb215]? = some (.cells #[.int .i64 t210, .slice Ao72 t211.length co72] 28 (0, 0))) ∧ (w'.heap[s_.2.2.2]? = some (.cells #[.int .i64 0, .slice none 0 0] 28 (0, 0))) ∧ (w.heap.size ≤ s_.2.2.2) ∧ (w.heap.size ≤ s_.2.2.2) ∧ (gb182 ≠ s_.2.2.2) ∧ (s_.2.2.2 ≠ gb182) ∧ (gb183 ≠ s_.2.2.2) ∧ (s_.2.2.2 ≠ gb183) ∧ (gb199 ≠ s_.2.2.2) ∧ (s_.2.2.2 ≠ gb199) ∧ (gb204 ≠ s_.2.2.2) ∧ (s_.2.2.2 ≠ gb204) ∧ (gb209 ≠ s_.2.2.2) ∧ (s_.2.2.2 ≠ gb209) ∧ (gb215 ≠ s_.2.2.2) ∧ (s_.2.2.2 ≠ gb215) ∧ (Below w.heap.size w w')) ?_ ?_
             rotate_left
             ·intro hCont
              refine two_ (i := 1) (j := 8) (Ni := some 96) (Nj := some 15) #[true, true, true, false, false, false, false, false, false, false, false] #[true, false, true, false, false, false, false, false, true, false, false] rfl rfl rfl rfl (two_of HT_.out (by kernel_rfl)) (by decide) (by decide) (fun K hK => ?_) (fun K hK => ?_)
              ·skip
               refine goes_ Tryd.func20 (by kernel_rfl) rfl #[.agg #[.int .i64 a0_0, .slice A0_1 l0_1.length c0_1]] (by rfl) rfl rfl ma_ ?_
               with_reducible refine (laws_toWhole.calls kj107 a0_0 _ _ l0_1 t235 t236 _ ?side1 ?side2 A171.out).mono ?_
               (case side1 => repeat (first | exact (Kd.C_below HR0_1.out HB.out) | (with_reducible refine Kd.C_alloc ?_ _) | (with_reducible refine Kd.C_drewN ?_ _) | (with_reducible refine Kd.C_drew ?_)))
               (case side2 => exact HC0_1.out)
               rintro e w185 ⟨v237, rfl, ho0, hb⟩
               refine ⟨_, rfl, ?_⟩
               have n0_ := am_ (Kd.R_elder' (kr_ HO_200001) (Kd.R_base ho0) hb); have n1_ := am_ (Kd.R_elder' (kr_ HO_205001) (Kd.R_base ho0) hb); have n2_ := am_ (Kd.R_elder' (kr_ HO_210001) (Kd.R_base ho0) hb); have n3_ := am_ (Kd.R_elder' (kr_ HO_216001) (Kd.R_base ho0) hb); have n4_ := am_ (Kd.R_lower (Kd.R_new' (Kd.R_new' (Kd.R_new' (Kd.R_new' ho0 (Kd.R_lt (kr_ HO_200001))) (Kd.R_lt (kr_ HO_205001))) (Kd.R_lt (kr_ HO_210001))) (Kd.R_lt (kr_ HO_216001))) (below_size (bl_ HB))); have n5_ := am_ (blk_below (bk_ BK182) hb); have n6_ := am_ (blk_below (bk_ BK183) hb); have n7_ := am_ (blk_below (bk_ BK199) hb); have n8_ := am_ (blk_below (bk_ BK204) hb); have n9_ := am_ (blk_below (bk_ BK209) hb); have n10_ := am_ (blk_below (bk_ BK215) hb); have n11_ := am_ (below_step (bl_ HB) hb); clear HO_200001 HO_205001 HO_210001 HO_216001 BK182 BK183 BK199 BK204 BK209 BK215 HB; have HO_200001 := n0_; have HO_205001 := n1_; have HO_210001 := n2_; have HO_216001 := n3_; have HO238 := n4_; have BK182 := n5_; have BK183 := n6_; have BK199 := n7_; have BK204 := n8_; have BK209 := n9_; have BK215 := n10_; have HB := n11_; clear n0_ n1_ n2_ n3_ n4_ n5_ n6_ n7_ n8_ n9_ n10_ n11_; (try clear hb); (try clear hb2); (try clear hk); (try clear hi); (try clear ho0)
               refine hK.out _ _ ⟨(blk_cell BK182.out 0).trans rfl, (blk_cell BK182.out 1).trans rfl, (blk_cell BK183.out 0).trans rfl, (blk_cell BK183.out 1).trans rfl⟩ (fun hHeld => ?_)
               clear hK K
               refine norm_ (a' := ?_) ?_ ?_
               rotate_left
               ·show Act.put _ (some 96) _ = _
                exact nm_
               refine two_ (i := 3) (j := 8) (Ni := some 98) (Nj := some 15) #[true, true, true, true, false, false, false, false, false, false, false] #[true, true, true, false, false, false, false, false, true, false, false] rfl rfl rfl rfl (two_of HT_.out (by kernel_rfl)) (by decide) (by decide) (fun K hK => ?_) (fun K hK => ?_)
               ·skip
                refine goes_ Tryd.func20 (by kernel_rfl) rfl #[.agg #[.int .i64 a1_0, .slice A1_1 l1_1.length c1_1]] (by rfl) rfl rfl ma_ ?_
                with_reducible refine (laws_toWhole.calls kj107 a1_0 _ _ l1_1 t239 t240 _ ?side1 ?side2 A172.out).mono ?_
                (case side1 => repeat (first | exact (Kd.C_below HR1_1.out HB.out) | (with_reducible refine Kd.C_alloc ?_ _) | (with_reducible refine Kd.C_drewN ?_ _) | (with_reducible refine Kd.C_drew ?_)))
                (case side2 => exact HC1_1.out)
                rintro e w186 ⟨v241, rfl, ho0, hb⟩
                refine ⟨_, rfl, ?_⟩
                have n0_ := am_ (Kd.R_elder' (kr_ HO_200001) (Kd.R_base ho0) hb); have n1_ := am_ (Kd.R_elder' (kr_ HO_205001) (Kd.R_base ho0) hb); have n2_ := am_ (Kd.R_elder' (kr_ HO_210001) (Kd.R_base ho0) hb); have n3_ := am_ (Kd.R_elder' (kr_ HO_216001) (Kd.R_base ho0) hb); have n4_ := am_ (Kd.R_elder' (kr_ HO238) (Kd.R_base ho0) hb); have n5_ := am_ (Kd.R_lower (Kd.R_new' (Kd.R_new' (Kd.R_new' (Kd.R_new' (Kd.R_new' ho0 (Kd.R_lt (kr_ HO_200001))) (Kd.R_lt (kr_ HO_205001))) (Kd.R_lt (kr_ HO_210001))) (Kd.R_lt (kr_ HO_216001))) (Kd.R_lt (kr_ HO238))) (below_size (bl_ HB))); have n6_ := am_ (blk_below (bk_ BK182) hb); have n7_ := am_ (blk_below (bk_ BK183) hb); have n8_ := am_ (blk_below (bk_ BK199) hb); have n9_ := am_ (blk_below (bk_ BK204) hb); have n10_ := am_ (blk_below (bk_ BK209) hb); have n11_ := am_ (blk_below (bk_ BK215) hb); have n12_ := am_ (below_step (bl_ HB) hb); clear HO_200001 HO_205001 HO_210001 HO_216001 HO238 BK182 BK183 BK199 BK204 BK209 BK215 HB; have HO_200001 := n0_; have HO_205001 := n1_; have HO_210001 := n2_; have HO_216001 := n3_; have HO238 := n4_; have HO242 := n5_; have BK182 := n6_; have BK183 := n7_; have BK199 := n8_; have BK204 := n9_; have BK209 := n10_; have BK215 := n11_; have HB := n12_; clear n0_ n1_ n2_ n3_ n4_ n5_ n6_ n7_ n8_ n9_ n10_ n11_ n12_; (try clear hb); (try clear hb2); (try clear hk); (try clear hi); (try clear ho0)
                obtain ⟨Ao187, co187, eo187⟩ := Kd.R_slice HO238.out
                (first | subst eo187 | (injection eo187 with f1_ f2_ f3_; have f4_ := f1_.symm; have f5_ := f3_.symm; clear f1_ f2_ f3_; subst f4_; subst f5_))
                obtain ⟨Ao188, co188, eo188⟩ := Kd.R_slice HO242.out
                (first | subst eo188 | (injection eo188 with f1_ f2_ f3_; have f4_ := f1_.symm; have f5_ := f3_.symm; clear f1_ f2_ f3_; subst f4_; subst f5_))
                refine hK.out _ _ ⟨(blk_cell BK182.out 0).trans rfl, (blk_cell BK182.out 1).trans rfl, (blk_cell BK183.out 0).trans rfl, (blk_cell BK183.out 1).trans rfl⟩ (fun hHeld => ?_)
                clear hK K
                refine norm_ (a' := ?_) ?_ ?_
                rotate_left
                ·show Act.put _ (some 98) _ = _
                 exact nm_
                refine two_ (i := 4) (j := 8) (Ni := some 99) (Nj := some 15) #[true, true, true, true, true, false, false, false, false, false, false] #[true, true, true, true, false, false, false, false, true, false, false] rfl rfl rfl rfl (two_of HT_.out (by kernel_rfl)) (by decide) (by decide) (fun K hK => ?_) (fun K hK => ?_)
                ·skip
                 refine goes_ Tryd.func32 (by kernel_rfl) rfl #[.agg #[.int .i64 t235, .slice Ao187 t236.length co187], .agg #[.int .i64 t239, .slice Ao188 t240.length co188]] (by rfl) rfl rfl ma_ ?_
                 with_reducible refine (impl_MultiplyWholes.calls t235 _ _ t236 t239 _ _ t240 t243 t244 t247 _ ?side1 ?side2 ?side3 ?side4 A173.out).mono ?_
                 (case side1 => repeat (first | exact (Kd.R_reads' HO238.out).2.2 | (with_reducible refine Kd.C_alloc ?_ _) | (with_reducible refine Kd.C_drewN ?_ _) | (with_reducible refine Kd.C_drew ?_)))
                 (case side2 => exact (Kd.R_reads' HO238.out).2.1)
                 (case side3 => repeat (first | exact (Kd.R_reads' HO242.out).2.2 | (with_reducible refine Kd.C_alloc ?_ _) | (with_reducible refine Kd.C_drewN ?_ _) | (with_reducible refine Kd.C_drew ?_)))
                 (case side4 => exact (Kd.R_reads' HO242.out).2.1)
                 rintro e w189 ⟨v245, rfl, ho0, hb⟩
                 refine ⟨_, rfl, ?_⟩
                 have n0_ := am_ (Kd.R_elder' (kr_ HO_200001) (Kd.R_base ho0) hb); have n1_ := am_ (Kd.R_elder' (kr_ HO_205001) (Kd.R_base ho0) hb); have n2_ := am_ (Kd.R_elder' (kr_ HO_210001) (Kd.R_base ho0) hb); have n3_ := am_ (Kd.R_elder' (kr_ HO_216001) (Kd.R_base ho0) hb); have n4_ := am_ (Kd.R_elder' (kr_ HO238) (Kd.R_base ho0) hb); have n5_ := am_ (Kd.R_elder' (kr_ HO242) (Kd.R_base ho0) hb); have n6_ := am_ (Kd.R_lower (Kd.R_new' (Kd.R_new' (Kd.R_new' (Kd.R_new' (Kd.R_new' (Kd.R_new' ho0 (Kd.R_lt (kr_ HO_200001))) (Kd.R_lt (kr_ HO_205001))) (Kd.R_lt (kr_ HO_210001))) (Kd.R_lt (kr_ HO_216001))) (Kd.R_lt (kr_ HO238))) (Kd.R_lt (kr_ HO242))) (below_size (bl_ HB))); have n7_ := am_ (blk_below (bk_ BK182) hb); have n8_ := am_ (blk_below (bk_ BK183) hb); have n9_ := am_ (blk_below (bk_ BK199) hb); have n10_ := am_ (blk_below (bk_ BK204) hb); have n11_ := am_ (blk_below (bk_ BK209) hb); have n12_ := am_ (blk_below (bk_ BK215) hb); have n13_ := am_ (below_step (bl_ HB) hb); clear HO_200001 HO_205001 HO_210001 HO_216001 HO238 HO242 BK182 BK183 BK199 BK204 BK209 BK215 HB; have HO_200001 := n0_; have HO_205001 := n1_; have HO_210001 := n2_; have HO_216001 := n3_; have HO238 := n4_; have HO242 := n5_; have HO246 := n6_; have BK182 := n7_; have BK183 := n8_; have BK199 := n9_; have BK204 := n10_; have BK209 := n11_; have BK215 := n12_; have HB := n13_; clear n0_ n1_ n2_ n3_ n4_ n5_ n6_ n7_ n8_ n9_ n10_ n11_ n12_ n13_; (try clear hb); (try clear hb2); (try clear hk); (try clear hi); (try clear ho0)
                 refine hK.out _ _ ⟨(blk_cell BK182.out 0).trans rfl, (blk_cell BK182.out 1).trans rfl, (blk_cell BK183.out 0).trans rfl, (blk_cell BK183.out 1).trans rfl⟩ (fun hHeld => ?_)
                 clear hK K
                 refine norm_ (a' := ?_) ?_ ?_
                 rotate_left
                 ·show Act.put _ (some 99) _ = _
                  exact nm_
                 refine pure_ (i := 5) (N := some 94) (v := ?_) (a' := ?_) #[true, true, true, true, true, true, false, false, false, false, false] rfl rfl (any_of HT_.out (by kernel_rfl)) (fun _ _ _ h => h) (Or.inl ⟨by rfl, ?_⟩) ?_ ?_
                 rotate_left
                 ·intro w'
                  go_simp
                  with_reducible rfl
                 rotate_left
                 ·exact nm_
                 refine pure_ (i := 6) (N := some 100) (v := ?_) (a' := ?_) #[true, true, true, true, true, true, true, false, false, false, false] rfl rfl (any_of HT_.out (by kernel_rfl)) (fun _ _ _ h => h) (Or.inl ⟨by rfl, ?_⟩) ?_ ?_
                 rotate_left
                 ·intro w'
                  go_simp
                  with_reducible rfl
                 rotate_left
                 ·exact nm_
                 refine pure_ (i := 7) (N := some 101) (v := ?_) (a' := ?_) #[true, true, true, true, true, true, true, true, false, false, false] rfl rfl (any_of HT_.out (by kernel_rfl)) (fun _ _ _ h => h) (Or.inl ⟨by rfl, ?_⟩) ?_ ?_
                 rotate_left
                 ·intro w'
                  go_simp
                  with_reducible rfl
                 rotate_left
                 ·exact nm_
                 refine one_ (i := 8) (N := some 15) #[true, true, true, true, true, true, true, true, true, false, false] rfl rfl (one_of HT_.out (by kernel_rfl)) (by decide) (fun K hK => ?_)
                 refine box_step ?hg (N := 15) ?hd (cs := #[.int .i64 0, .slice none 0 0]) (t := 28) ?hr ?_; (case hd => rfl); (case hg => rfl); (case hr => first | (go_simp; done) | (go_simp; rfl))
                 intro gb248 hg w190 hbox hb
                 have n0_ := am_ (Kd.R_below (kr_ HO_200001) hb); have n1_ := am_ (Kd.R_below (kr_ HO_205001) hb); have n2_ := am_ (Kd.R_below (kr_ HO_210001) hb); have n3_ := am_ (Kd.R_below (kr_ HO_216001) hb); have n4_ := am_ (Kd.R_below (kr_ HO238) hb); have n5_ := am_ (Kd.R_below (kr_ HO242) hb); have n6_ := am_ (Kd.R_below (kr_ HO246) hb); have n7_ := am_ (blk_below (bk_ BK182) hb); have n8_ := am_ (blk_below (bk_ BK183) hb); have n9_ := am_ (blk_below (bk_ BK199) hb); have n10_ := am_ (blk_below (bk_ BK204) hb); have n11_ := am_ (blk_below (bk_ BK209) hb); have n12_ := am_ (blk_below (bk_ BK215) hb); have n13_ := am_ (below_step (bl_ HB) hb); have n14_ := am_ (hbox); have n15_ := am_ (gs_ hg HB); have n16_ := am_ (gs_ hg HB); have n17_ := am_ (nl_ hg BK182); have n18_ := am_ (ng_ hg BK182); have n19_ := am_ (nl_ hg BK183); have n20_ := am_ (ng_ hg BK183); have n21_ := am_ (nl_ hg BK199); have n22_ := am_ (ng_ hg BK199); have n23_ := am_ (nl_ hg BK204); have n24_ := am_ (ng_ hg BK204); have n25_ := am_ (nl_ hg BK209); have n26_ := am_ (ng_ hg BK209); have n27_ := am_ (nl_ hg BK215); have n28_ := am_ (ng_ hg BK215); clear HO_200001 HO_205001 HO_210001 HO_216001 HO238 HO242 HO246 BK182 BK183 BK199 BK204 BK209 BK215 HB; have HO_200001 := n0_; have HO_205001 := n1_; have HO_210001 := n2_; have HO_216001 := n3_; have HO238 := n4_; have HO242 := n5_; have HO246 := n6_; have BK182 := n7_; have BK183 := n8_; have BK199 := n9_; have BK204 := n10_; have BK209 := n11_; have BK215 := n12_; have HB := n13_; have BK248 := n14_; have GW248 := n15_; have GE248 := n16_; have NB182_248 := n17_; have NB248_182 := n18_; have NB183_248 := n19_; have NB248_183 := n20_; have NB199_248 := n21_; have NB248_199 := n22_; have NB204_248 := n23_; have NB248_204 := n24_; have NB209_248 := n25_; have NB248_209 := n26_; have NB215_248 := n27_; have NB248_215 := n28_; clear n0_ n1_ n2_ n3_ n4_ n5_ n6_ n7_ n8_ n9_ n10_ n11_ n12_ n13_ n14_ n15_ n16_ n17_ n18_ n19_ n20_ n21_ n22_ n23_ n24_ n25_ n26_ n27_ n28_ hb hbox hg
                 refine hK.out _ _ ⟨(blk_cell BK182.out 0).trans rfl, (blk_cell BK182.out 1).trans rfl, (blk_cell BK183.out 0).trans rfl, (blk_cell BK183.out 1).trans rfl⟩ (fun hHeld => ?_)
                 clear hK K
                 refine norm_ (a' := ?_) ?_ ?_
                 rotate_left
                 ·show Act.put _ (some 15) _ = _
                  exact nm_
                 exact norm_ (by simp only [putAll, Act.put, List.setIfInBounds_toArray, List.set_cons_zero, List.set_cons_succ]) (hCont (.slice Ao187 t236.length co187, .slice Ao188 t240.length co188, v245, gb248) _ ⟨hHeld, (km_ HO238 (fun _ hk => ⟨hk.1.2, ⟨hk.2, ⟨hk.1.1.1.1.1.2, ⟨hk.1.1.1.1.2, ⟨hk.1.1.1.2, hk.1.1.2⟩⟩⟩⟩⟩)), (km_ HO242 (fun _ hk => ⟨hk.1.2, ⟨hk.2, ⟨hk.1.1.1.1.1.2, ⟨hk.1.1.1.1.2, ⟨hk.1.1.1.2, hk.1.1.2⟩⟩⟩⟩⟩)), (km_ HO246 (fun _ hk => ⟨hk.1.2, ⟨hk.2, ⟨hk.1.1.1.1.1.2, ⟨hk.1.1.1.1.2, ⟨hk.1.1.1.2, hk.1.1.2⟩⟩⟩⟩⟩)), (km_ HO_200001 (fun _ hk => ⟨hk.1.1.2, ⟨hk.1.2, ⟨hk.2, ⟨hk.1.1.1.1, ⟨hk.1.1.1.2.1, hk.1.1.1.2.2⟩⟩⟩⟩⟩)), (km_ HO_205001 (fun _ hk => ⟨hk.1.1.2, ⟨hk.1.2, ⟨hk.2, ⟨hk.1.1.1.1, ⟨hk.1.1.1.2.1, hk.1.1.1.2.2⟩⟩⟩⟩⟩)), (km_ HO_210001 (fun _ hk => ⟨hk.1.1.2, ⟨hk.1.2, ⟨hk.2, ⟨hk.1.1.1.1, ⟨hk.1.1.1.2.1, hk.1.1.1.2.2⟩⟩⟩⟩⟩)), (km_ HO_216001 (fun _ hk => ⟨hk.1.1.2, ⟨hk.1.2, ⟨hk.2, ⟨hk.1.1.1.1, ⟨hk.1.1.1.2.1, hk.1.1.1.2.2⟩⟩⟩⟩⟩)), (bk_ BK182), (bk_ BK183), (bk_ BK199), (bk_ BK204), (bk_ BK209), (bk_ BK215), (bk_ BK248), GW248.out, GE248.out, NB182_248.out, NB248_182.out, NB183_248.out, NB248_183.out, NB199_248.out, NB248_199.out, NB204_248.out, NB248_204.out, NB209_248.out, NB248_209.out, NB215_248.out, NB248_215.out, (bl_ HB)⟩)
                ·skip
                 refine box_step ?hg (N := 15) ?hd (cs := #[.int .i64 0, .slice none 0 0]) (t := 28) ?hr ?_; (case hd => rfl); (case hg => rfl); (case hr => first | (go_simp; done) | (go_simp; rfl))
                 intro gb248 hg w187 hbox hb
                 have n0_ := am_ (Kd.R_below (kr_ HO_200001) hb); have n1_ := am_ (Kd.R_below (kr_ HO_205001) hb); have n2_ := am_ (Kd.R_below (kr_ HO_210001) hb); have n3_ := am_ (Kd.R_below (kr_ HO_216001) hb); have n4_ := am_ (Kd.R_below (kr_ HO238) hb); have n5_ := am_ (Kd.R_below (kr_ HO242) hb); have n6_ := am_ (blk_below (bk_ BK182) hb); have n7_ := am_ (blk_below (bk_ BK183) hb); have n8_ := am_ (blk_below (bk_ BK199) hb); have n9_ := am_ (blk_below (bk_ BK204) hb); have n10_ := am_ (blk_below (bk_ BK209) hb); have n11_ := am_ (blk_below (bk_ BK215) hb); have n12_ := am_ (below_step (bl_ HB) hb); have n13_ := am_ (hbox); have n14_ := am_ (gs_ hg HB); have n15_ := am_ (gs_ hg HB); have n16_ := am_ (nl_ hg BK182); have n17_ := am_ (ng_ hg BK182); have n18_ := am_ (nl_ hg BK183); have n19_ := am_ (ng_ hg BK183); have n20_ := am_ (nl_ hg BK199); have n21_ := am_ (ng_ hg BK199); have n22_ := am_ (nl_ hg BK204); have n23_ := am_ (ng_ hg BK204); have n24_ := am_ (nl_ hg BK209); have n25_ := am_ (ng_ hg BK209); have n26_ := am_ (nl_ hg BK215); have n27_ := am_ (ng_ hg BK215); clear HO_200001 HO_205001 HO_210001 HO_216001 HO238 HO242 BK182 BK183 BK199 BK204 BK209 BK215 HB; have HO_200001 := n0_; have HO_205001 := n1_; have HO_210001 := n2_; have HO_216001 := n3_; have HO238 := n4_; have HO242 := n5_; have BK182 := n6_; have BK183 := n7_; have BK199 := n8_; have BK204 := n9_; have BK209 := n10_; have BK215 := n11_; have HB := n12_; have BK248 := n13_; have GW248 := n14_; have GE248 := n15_; have NB182_248 := n16_; have NB248_182 := n17_; have NB183_248 := n18_; have NB248_183 := n19_; have NB199_248 := n20_; have NB248_199 := n21_; have NB204_248 := n22_; have NB248_204 := n23_; have NB209_248 := n24_; have NB248_209 := n25_; have NB215_248 := n26_; have NB248_215 := n27_; clear n0_ n1_ n2_ n3_ n4_ n5_ n6_ n7_ n8_ n9_ n10_ n11_ n12_ n13_ n14_ n15_ n16_ n17_ n18_ n19_ n20_ n21_ n22_ n23_ n24_ n25_ n26_ n27_ hb hbox hg
                 obtain ⟨Ao188, co188, eo188⟩ := Kd.R_slice HO238.out
                 (first | subst eo188 | (injection eo188 with f1_ f2_ f3_; have f4_ := f1_.symm; have f5_ := f3_.symm; clear f1_ f2_ f3_; subst f4_; subst f5_))
                 obtain ⟨Ao189, co189, eo189⟩ := Kd.R_slice HO242.out
                 (first | subst eo189 | (injection eo189 with f1_ f2_ f3_; have f4_ := f1_.symm; have f5_ := f3_.symm; clear f1_ f2_ f3_; subst f4_; subst f5_))
                 refine hK.out _ _ ⟨(blk_cell BK182.out 0).trans rfl, (blk_cell BK182.out 1).trans rfl, (blk_cell BK183.out 0).trans rfl, (blk_cell BK183.out 1).trans rfl⟩ (fun hHeld => ?_)
                 clear hK K
                 refine norm_ (a' := ?_) ?_ ?_
                 rotate_left
                 ·show Act.put _ (some 15) _ = _
                  exact nm_
                 refine one_ (i := 4) (N := some 99) #[true, true, true, true, true, false, false, false, true, false, false] rfl rfl (one_of HT_.out (by kernel_rfl)) (by decide) (fun K hK => ?_)
                 refine goes_ Tryd.func32 (by kernel_rfl) rfl #[.agg #[.int .i64 t235, .slice Ao188 t236.length co188], .agg #[.int .i64 t239, .slice Ao189 t240.length co189]] (by rfl) rfl rfl ma_ ?_
                 with_reducible refine (impl_MultiplyWholes.calls t235 _ _ t236 t239 _ _ t240 t243 t244 t247 _ ?side1 ?side2 ?side3 ?side4 A173.out).mono ?_
                 (case side1 => repeat (first | exact (Kd.R_reads' HO238.out).2.2 | (with_reducible refine Kd.C_alloc ?_ _) | (with_reducible refine Kd.C_drewN ?_ _) | (with_reducible refine Kd.C_drew ?_)))
                 (case side2 => exact (Kd.R_reads' HO238.out).2.1)
                 (case side3 => repeat (first | exact (Kd.R_reads' HO242.out).2.2 | (with_reducible refine Kd.C_alloc ?_ _) | (with_reducible refine Kd.C_drewN ?_ _) | (with_reducible refine Kd.C_drew ?_)))
                 (case side4 => exact (Kd.R_reads' HO242.out).2.1)
                 rintro e w190 ⟨v245, rfl, ho0, hb⟩
                 refine ⟨_, rfl, ?_⟩
                 have n0_ := am_ (Kd.R_elder' (kr_ HO_200001) (Kd.R_base ho0) hb); have n1_ := am_ (Kd.R_elder' (kr_ HO_205001) (Kd.R_base ho0) hb); have n2_ := am_ (Kd.R_elder' (kr_ HO_210001) (Kd.R_base ho0) hb); have n3_ := am_ (Kd.R_elder' (kr_ HO_216001) (Kd.R_base ho0) hb); have n4_ := am_ (Kd.R_elder' (kr_ HO238) (Kd.R_base ho0) hb); have n5_ := am_ (Kd.R_elder' (kr_ HO242) (Kd.R_base ho0) hb); have n6_ := am_ (Kd.R_lower (Kd.R_new' (Kd.R_new' (Kd.R_new' (Kd.R_new' (Kd.R_new' (Kd.R_new' ho0 (Kd.R_lt (kr_ HO_200001))) (Kd.R_lt (kr_ HO_205001))) (Kd.R_lt (kr_ HO_210001))) (Kd.R_lt (kr_ HO_216001))) (Kd.R_lt (kr_ HO238))) (Kd.R_lt (kr_ HO242))) (below_size (bl_ HB))); have n7_ := am_ (blk_below (bk_ BK182) hb); have n8_ := am_ (blk_below (bk_ BK183) hb); have n9_ := am_ (blk_below (bk_ BK199) hb); have n10_ := am_ (blk_below (bk_ BK204) hb); have n11_ := am_ (blk_below (bk_ BK209) hb); have n12_ := am_ (blk_below (bk_ BK215) hb); have n13_ := am_ (blk_below (bk_ BK248) hb); have n14_ := am_ (below_step (bl_ HB) hb); clear HO_200001 HO_205001 HO_210001 HO_216001 HO238 HO242 BK182 BK183 BK199 BK204 BK209 BK215 BK248 HB; have HO_200001 := n0_; have HO_205001 := n1_; have HO_210001 := n2_; have HO_216001 := n3_; have HO238 := n4_; have HO242 := n5_; have HO246 := n6_; have BK182 := n7_; have BK183 := n8_; have BK199 := n9_; have BK204 := n10_; have BK209 := n11_; have BK215 := n12_; have BK248 := n13_; have HB := n14_; clear n0_ n1_ n2_ n3_ n4_ n5_ n6_ n7_ n8_ n9_ n10_ n11_ n12_ n13_ n14_; (try clear hb); (try clear hb2); (try clear hk); (try clear hi); (try clear ho0)
                 refine hK.out _ _ ⟨(blk_cell BK182.out 0).trans rfl, (blk_cell BK182.out 1).trans rfl, (blk_cell BK183.out 0).trans rfl, (blk_cell BK183.out 1).trans rfl⟩ (fun hHeld => ?_)
                 clear hK K
                 refine norm_ (a' := ?_) ?_ ?_
                 rotate_left
                 ·show Act.put _ (some 99) _ = _
                  exact nm_
                 refine pure_ (i := 5) (N := some 94) (v := ?_) (a' := ?_) #[true, true, true, true, true, true, false, false, true, false, false] rfl rfl (any_of HT_.out (by kernel_rfl)) (fun _ _ _ h => h) (Or.inl ⟨by rfl, ?_⟩) ?_ ?_
                 rotate_left
                 ·intro w'
                  go_simp
                  with_reducible rfl
                 rotate_left
                 ·exact nm_
                 refine pure_ (i := 6) (N := some 100) (v := ?_) (a' := ?_) #[true, true, true, true, true, true, true, false, true, false, false] rfl rfl (any_of HT_.out (by kernel_rfl)) (fun _ _ _ h => h) (Or.inl ⟨by rfl, ?_⟩) ?_ ?_
                 rotate_left
                 ·intro w'
                  go_simp
                  with_reducible rfl
                 rotate_left
                 ·exact nm_
                 refine pure_ (i := 7) (N := some 101) (v := ?_) (a' := ?_) #[true, true, true, true, true, true, true, true, true, false, false] rfl rfl (any_of HT_.out (by kernel_rfl)) (fun _ _ _ h => h) (Or.inl ⟨by rfl, ?_⟩) ?_ ?_
                 rotate_left
                 ·intro w'
                  go_simp
                  with_reducible rfl
                 rotate_left
                 ·exact nm_
                 exact norm_ (by simp only [putAll, Act.put, List.setIfInBounds_toArray, List.set_cons_zero, List.set_cons_succ]) (hCont (.slice Ao188 t236.length co188, .slice Ao189 t240.length co189, v245, gb248) _ ⟨hHeld, (km_ HO238 (fun _ hk => ⟨hk.1.2, ⟨hk.2, ⟨hk.1.1.1.1.1.2, ⟨hk.1.1.1.1.2, ⟨hk.1.1.1.2, hk.1.1.2⟩⟩⟩⟩⟩)), (km_ HO242 (fun _ hk => ⟨hk.1.2, ⟨hk.2, ⟨hk.1.1.1.1.1.2, ⟨hk.1.1.1.1.2, ⟨hk.1.1.1.2, hk.1.1.2⟩⟩⟩⟩⟩)), (km_ HO246 (fun _ hk => ⟨hk.1.2, ⟨hk.2, ⟨hk.1.1.1.1.1.2, ⟨hk.1.1.1.1.2, ⟨hk.1.1.1.2, hk.1.1.2⟩⟩⟩⟩⟩)), (km_ HO_200001 (fun _ hk => ⟨hk.1.1.2, ⟨hk.1.2, ⟨hk.2, ⟨hk.1.1.1.1, ⟨hk.1.1.1.2.1, hk.1.1.1.2.2⟩⟩⟩⟩⟩)), (km_ HO_205001 (fun _ hk => ⟨hk.1.1.2, ⟨hk.1.2, ⟨hk.2, ⟨hk.1.1.1.1, ⟨hk.1.1.1.2.1, hk.1.1.1.2.2⟩⟩⟩⟩⟩)), (km_ HO_210001 (fun _ hk => ⟨hk.1.1.2, ⟨hk.1.2, ⟨hk.2, ⟨hk.1.1.1.1, ⟨hk.1.1.1.2.1, hk.1.1.1.2.2⟩⟩⟩⟩⟩)), (km_ HO_216001 (fun _ hk => ⟨hk.1.1.2, ⟨hk.1.2, ⟨hk.2, ⟨hk.1.1.1.1, ⟨hk.1.1.1.2.1, hk.1.1.1.2.2⟩⟩⟩⟩⟩)), (bk_ BK182), (bk_ BK183), (bk_ BK199), (bk_ BK204), (bk_ BK209), (bk_ BK215), (bk_ BK248), GW248.out, GE248.out, NB182_248.out, NB248_182.out, NB183_248.out, NB248_183.out, NB199_248.out, NB248_199.out, NB204_248.out, NB248_204.out, NB209_248.out, NB248_209.out, NB215_248.out, NB248_215.out, (bl_ HB)⟩)
               ·skip
                refine box_step ?hg (N := 15) ?hd (cs := #[.int .i64 0, .slice none 0 0]) (t := 28) ?hr ?_; (case hd => rfl); (case hg => rfl); (case hr => first | (go_simp; done) | (go_simp; rfl))
                intro gb248 hg w186 hbox hb
                have n0_ := am_ (Kd.R_below (kr_ HO_200001) hb); have n1_ := am_ (Kd.R_below (kr_ HO_205001) hb); have n2_ := am_ (Kd.R_below (kr_ HO_210001) hb); have n3_ := am_ (Kd.R_below (kr_ HO_216001) hb); have n4_ := am_ (Kd.R_below (kr_ HO238) hb); have n5_ := am_ (blk_below (bk_ BK182) hb); have n6_ := am_ (blk_below (bk_ BK183) hb); have n7_ := am_ (blk_below (bk_ BK199) hb); have n8_ := am_ (blk_below (bk_ BK204) hb); have n9_ := am_ (blk_below (bk_ BK209) hb); have n10_ := am_ (blk_below (bk_ BK215) hb); have n11_ := am_ (below_step (bl_ HB) hb); have n12_ := am_ (hbox); have n13_ := am_ (gs_ hg HB); have n14_ := am_ (gs_ hg HB); have n15_ := am_ (nl_ hg BK182); have n16_ := am_ (ng_ hg BK182); have n17_ := am_ (nl_ hg BK183); have n18_ := am_ (ng_ hg BK183); have n19_ := am_ (nl_ hg BK199); have n20_ := am_ (ng_ hg BK199); have n21_ := am_ (nl_ hg BK204); have n22_ := am_ (ng_ hg BK204); have n23_ := am_ (nl_ hg BK209); have n24_ := am_ (ng_ hg BK209); have n25_ := am_ (nl_ hg BK215); have n26_ := am_ (ng_ hg BK215); clear HO_200001 HO_205001 HO_210001 HO_216001 HO238 BK182 BK183 BK199 BK204 BK209 BK215 HB; have HO_200001 := n0_; have HO_205001 := n1_; have HO_210001 := n2_; have HO_216001 := n3_; have HO238 := n4_; have BK182 := n5_; have BK183 := n6_; have BK199 := n7_; have BK204 := n8_; have BK209 := n9_; have BK215 := n10_; have HB := n11_; have BK248 := n12_; have GW248 := n13_; have GE248 := n14_; have NB182_248 := n15_; have NB248_182 := n16_; have NB183_248 := n17_; have NB248_183 := n18_; have NB199_248 := n19_; have NB248_199 := n20_; have NB204_248 := n21_; have NB248_204 := n22_; have NB209_248 := n23_; have NB248_209 := n24_; have NB215_248 := n25_; have NB248_215 := n26_; clear n0_ n1_ n2_ n3_ n4_ n5_ n6_ n7_ n8_ n9_ n10_ n11_ n12_ n13_ n14_ n15_ n16_ n17_ n18_ n19_ n20_ n21_ n22_ n23_ n24_ n25_ n26_ hb hbox hg
                refine hK.out _ _ ⟨(blk_cell BK182.out 0).trans rfl, (blk_cell BK182.out 1).trans rfl, (blk_cell BK183.out 0).trans rfl, (blk_cell BK183.out 1).trans rfl⟩ (fun hHeld => ?_)
                clear hK K
                refine norm_ (a' := ?_) ?_ ?_
                rotate_left
                ·show Act.put _ (some 15) _ = _
                 exact nm_
                refine one_ (i := 3) (N := some 98) #[true, true, true, true, false, false, false, false, true, false, false] rfl rfl (one_of HT_.out (by kernel_rfl)) (by decide) (fun K hK => ?_)
                refine goes_ Tryd.func20 (by kernel_rfl) rfl #[.agg #[.int .i64 a1_0, .slice A1_1 l1_1.length c1_1]] (by rfl) rfl rfl ma_ ?_
                with_reducible refine (laws_toWhole.calls kj107 a1_0 _ _ l1_1 t239 t240 _ ?side1 ?side2 A172.out).mono ?_
                (case side1 => repeat (first | exact (Kd.C_below HR1_1.out HB.out) | (with_reducible refine Kd.C_alloc ?_ _) | (with_reducible refine Kd.C_drewN ?_ _) | (with_reducible refine Kd.C_drew ?_)))
                (case side2 => exact HC1_1.out)
                rintro e w187 ⟨v241, rfl, ho0, hb⟩
                refine ⟨_, rfl, ?_⟩
                have n0_ := am_ (Kd.R_elder' (kr_ HO_200001) (Kd.R_base ho0) hb); have n1_ := am_ (Kd.R_elder' (kr_ HO_205001) (Kd.R_base ho0) hb); have n2_ := am_ (Kd.R_elder' (kr_ HO_210001) (Kd.R_base ho0) hb); have n3_ := am_ (Kd.R_elder' (kr_ HO_216001) (Kd.R_base ho0) hb); have n4_ := am_ (Kd.R_elder' (kr_ HO238) (Kd.R_base ho0) hb); have n5_ := am_ (Kd.R_lower (Kd.R_new' (Kd.R_new' (Kd.R_new' (Kd.R_new' (Kd.R_new' ho0 (Kd.R_lt (kr_ HO_200001))) (Kd.R_lt (kr_ HO_205001))) (Kd.R_lt (kr_ HO_210001))) (Kd.R_lt (kr_ HO_216001))) (Kd.R_lt (kr_ HO238))) (below_size (bl_ HB))); have n6_ := am_ (blk_below (bk_ BK182) hb); have n7_ := am_ (blk_below (bk_ BK183) hb); have n8_ := am_ (blk_below (bk_ BK199) hb); have n9_ := am_ (blk_below (bk_ BK204) hb); have n10_ := am_ (blk_below (bk_ BK209) hb); have n11_ := am_ (blk_below (bk_ BK215) hb); have n12_ := am_ (blk_below (bk_ BK248) hb); have n13_ := am_ (below_step (bl_ HB) hb); clear HO_200001 HO_205001 HO_210001 HO_216001 HO238 BK182 BK183 BK199 BK204 BK209 BK215 BK248 HB; have HO_200001 := n0_; have HO_205001 := n1_; have HO_210001 := n2_; have HO_216001 := n3_; have HO238 := n4_; have HO242 := n5_; have BK182 := n6_; have BK183 := n7_; have BK199 := n8_; have BK204 := n9_; have BK209 := n10_; have BK215 := n11_; have BK248 := n12_; have HB := n13_; clear n0_ n1_ n2_ n3_ n4_ n5_ n6_ n7_ n8_ n9_ n10_ n11_ n12_ n13_; (try clear hb); (try clear hb2); (try clear hk); (try clear hi); (try clear ho0)
                obtain ⟨Ao188, co188, eo188⟩ := Kd.R_slice HO238.out
                (first | subst eo188 | (injection eo188 with f1_ f2_ f3_; have f4_ := f1_.symm; have f5_ := f3_.symm; clear f1_ f2_ f3_; subst f4_; subst f5_))
                obtain ⟨Ao189, co189, eo189⟩ := Kd.R_slice HO242.out
                (first | subst eo189 | (injection eo189 with f1_ f2_ f3_; have f4_ := f1_.symm; have f5_ := f3_.symm; clear f1_ f2_ f3_; subst f4_; subst f5_))
                refine hK.out _ _ ⟨(blk_cell BK182.out 0).trans rfl, (blk_cell BK182.out 1).trans rfl, (blk_cell BK183.out 0).trans rfl, (blk_cell BK183.out 1).trans rfl⟩ (fun hHeld => ?_)
                clear hK K
                refine norm_ (a' := ?_) ?_ ?_
                rotate_left
                ·show Act.put _ (some 98) _ = _
                 exact nm_
                refine one_ (i := 4) (N := some 99) #[true, true, true, true, true, false, false, false, true, false, false] rfl rfl (one_of HT_.out (by kernel_rfl)) (by decide) (fun K hK => ?_)
                refine goes_ Tryd.func32 (by kernel_rfl) rfl #[.agg #[.int .i64 t235, .slice Ao188 t236.length co188], .agg #[.int .i64 t239, .slice Ao189 t240.length co189]] (by rfl) rfl rfl ma_ ?_
                with_reducible refine (impl_MultiplyWholes.calls t235 _ _ t236 t239 _ _ t240 t243 t244 t247 _ ?side1 ?side2 ?side3 ?side4 A173.out).mono ?_
                (case side1 => repeat (first | exact (Kd.R_reads' HO238.out).2.2 | (with_reducible refine Kd.C_alloc ?_ _) | (with_reducible refine Kd.C_drewN ?_ _) | (with_reducible refine Kd.C_drew ?_)))
                (case side2 => exact (Kd.R_reads' HO238.out).2.1)
                (case side3 => repeat (first | exact (Kd.R_reads' HO242.out).2.2 | (with_reducible refine Kd.C_alloc ?_ _) | (with_reducible refine Kd.C_drewN ?_ _) | (with_reducible refine Kd.C_drew ?_)))
                (case side4 => exact (Kd.R_reads' HO242.out).2.1)
                rintro e w190 ⟨v245, rfl, ho0, hb⟩
                refine ⟨_, rfl, ?_⟩
                have n0_ := am_ (Kd.R_elder' (kr_ HO_200001) (Kd.R_base ho0) hb); have n1_ := am_ (Kd.R_elder' (kr_ HO_205001) (Kd.R_base ho0) hb); have n2_ := am_ (Kd.R_elder' (kr_ HO_210001) (Kd.R_base ho0) hb); have n3_ := am_ (Kd.R_elder' (kr_ HO_216001) (Kd.R_base ho0) hb); have n4_ := am_ (Kd.R_elder' (kr_ HO238) (Kd.R_base ho0) hb); have n5_ := am_ (Kd.R_elder' (kr_ HO242) (Kd.R_base ho0) hb); have n6_ := am_ (Kd.R_lower (Kd.R_new' (Kd.R_new' (Kd.R_new' (Kd.R_new' (Kd.R_new' (Kd.R_new' ho0 (Kd.R_lt (kr_ HO_200001))) (Kd.R_lt (kr_ HO_205001))) (Kd.R_lt (kr_ HO_210001))) (Kd.R_lt (kr_ HO_216001))) (Kd.R_lt (kr_ HO238))) (Kd.R_lt (kr_ HO242))) (below_size (bl_ HB))); have n7_ := am_ (blk_below (bk_ BK182) hb); have n8_ := am_ (blk_below (bk_ BK183) hb); have n9_ := am_ (blk_below (bk_ BK199) hb); have n10_ := am_ (blk_below (bk_ BK204) hb); have n11_ := am_ (blk_below (bk_ BK209) hb); have n12_ := am_ (blk_below (bk_ BK215) hb); have n13_ := am_ (blk_below (bk_ BK248) hb); have n14_ := am_ (below_step (bl_ HB) hb); clear HO_200001 HO_205001 HO_210001 HO_216001 HO238 HO242 BK182 BK183 BK199 BK204 BK209 BK215 BK248 HB; have HO_200001 := n0_; have HO_205001 := n1_; have HO_210001 := n2_; have HO_216001 := n3_; have HO238 := n4_; have HO242 := n5_; have HO246 := n6_; have BK182 := n7_; have BK183 := n8_; have BK199 := n9_; have BK204 := n10_; have BK209 := n11_; have BK215 := n12_; have BK248 := n13_; have HB := n14_; clear n0_ n1_ n2_ n3_ n4_ n5_ n6_ n7_ n8_ n9_ n10_ n11_ n12_ n13_ n14_; (try clear hb); (try clear hb2); (try clear hk); (try clear hi); (try clear ho0)
                refine hK.out _ _ ⟨(blk_cell BK182.out 0).trans rfl, (blk_cell BK182.out 1).trans rfl, (blk_cell BK183.out 0).trans rfl, (blk_cell BK183.out 1).trans rfl⟩ (fun hHeld => ?_)
                clear hK K
                refine norm_ (a' := ?_) ?_ ?_
                rotate_left
                ·show Act.put _ (some 99) _ = _
                 exact nm_
                refine pure_ (i := 5) (N := some 94) (v := ?_) (a' := ?_) #[true, true, true, true, true, true, false, false, true, false, false] rfl rfl (any_of HT_.out (by kernel_rfl)) (fun _ _ _ h => h) (Or.inl ⟨by rfl, ?_⟩) ?_ ?_
                rotate_left
                ·intro w'
                 go_simp
                 with_reducible rfl
                rotate_left
                ·exact nm_
                refine pure_ (i := 6) (N := some 100) (v := ?_) (a' := ?_) #[true, true, true, true, true, true, true, false, true, false, false] rfl rfl (any_of HT_.out (by kernel_rfl)) (fun _ _ _ h => h) (Or.inl ⟨by rfl, ?_⟩) ?_ ?_
                rotate_left
                ·intro w'
                 go_simp
                 with_reducible rfl
                rotate_left
                ·exact nm_
                refine pure_ (i := 7) (N := some 101) (v := ?_) (a' := ?_) #[true, true, true, true, true, true, true, true, true, false, false] rfl rfl (any_of HT_.out (by kernel_rfl)) (fun _ _ _ h => h) (Or.inl ⟨by rfl, ?_⟩) ?_ ?_
                rotate_left
                ·intro w'
                 go_simp
                 with_reducible rfl
                rotate_left
                ·exact nm_
                exact norm_ (by simp only [putAll, Act.put, List.setIfInBounds_toArray, List.set_cons_zero, List.set_cons_succ]) (hCont (.slice Ao188 t236.length co188, .slice Ao189 t240.length co189, v245, gb248) _ ⟨hHeld, (km_ HO238 (fun _ hk => ⟨hk.1.2, ⟨hk.2, ⟨hk.1.1.1.1.1.2, ⟨hk.1.1.1.1.2, ⟨hk.1.1.1.2, hk.1.1.2⟩⟩⟩⟩⟩)), (km_ HO242 (fun _ hk => ⟨hk.1.2, ⟨hk.2, ⟨hk.1.1.1.1.1.2, ⟨hk.1.1.1.1.2, ⟨hk.1.1.1.2, hk.1.1.2⟩⟩⟩⟩⟩)), (km_ HO246 (fun _ hk => ⟨hk.1.2, ⟨hk.2, ⟨hk.1.1.1.1.1.2, ⟨hk.1.1.1.1.2, ⟨hk.1.1.1.2, hk.1.1.2⟩⟩⟩⟩⟩)), (km_ HO_200001 (fun _ hk => ⟨hk.1.1.2, ⟨hk.1.2, ⟨hk.2, ⟨hk.1.1.1.1, ⟨hk.1.1.1.2.1, hk.1.1.1.2.2⟩⟩⟩⟩⟩)), (km_ HO_205001 (fun _ hk => ⟨hk.1.1.2, ⟨hk.1.2, ⟨hk.2, ⟨hk.1.1.1.1, ⟨hk.1.1.1.2.1, hk.1.1.1.2.2⟩⟩⟩⟩⟩)), (km_ HO_210001 (fun _ hk => ⟨hk.1.1.2, ⟨hk.1.2, ⟨hk.2, ⟨hk.1.1.1.1, ⟨hk.1.1.1.2.1, hk.1.1.1.2.2⟩⟩⟩⟩⟩)), (km_ HO_216001 (fun _ hk => ⟨hk.1.1.2, ⟨hk.1.2, ⟨hk.2, ⟨hk.1.1.1.1, ⟨hk.1.1.1.2.1, hk.1.1.1.2.2⟩⟩⟩⟩⟩)), (bk_ BK182), (bk_ BK183), (bk_ BK199), (bk_ BK204), (bk_ BK209), (bk_ BK215), (bk_ BK248), GW248.out, GE248.out, NB182_248.out, NB248_182.out, NB183_248.out, NB248_183.out, NB199_248.out, NB248_199.out, NB204_248.out, NB248_204.out, NB209_248.out, NB248_209.out, NB215_248.out, NB248_215.out, (bl_ HB)⟩)
              ·skip
               refine box_step ?hg (N := 15) ?hd (cs := #[.int .i64 0, .slice none 0 0]) (t := 28) ?hr ?_; (case hd => rfl); (case hg => rfl); (case hr => first | (go_simp; done) | (go_simp; rfl))
               intro gb248 hg w185 hbox hb
               have n0_ := am_ (Kd.R_below (kr_ HO_200001) hb); have n1_ := am_ (Kd.R_below (kr_ HO_205001) hb); have n2_ := am_ (Kd.R_below (kr_ HO_210001) hb); have n3_ := am_ (Kd.R_below (kr_ HO_216001) hb); have n4_ := am_ (blk_below (bk_ BK182) hb); have n5_ := am_ (blk_below (bk_ BK183) hb); have n6_ := am_ (blk_below (bk_ BK199) hb); have n7_ := am_ (blk_below (bk_ BK204) hb); have n8_ := am_ (blk_below (bk_ BK209) hb); have n9_ := am_ (blk_below (bk_ BK215) hb); have n10_ := am_ (below_step (bl_ HB) hb); have n11_ := am_ (hbox); have n12_ := am_ (gs_ hg HB); have n13_ := am_ (gs_ hg HB); have n14_ := am_ (nl_ hg BK182); have n15_ := am_ (ng_ hg BK182); have n16_ := am_ (nl_ hg BK183); have n17_ := am_ (ng_ hg BK183); have n18_ := am_ (nl_ hg BK199); have n19_ := am_ (ng_ hg BK199); have n20_ := am_ (nl_ hg BK204); have n21_ := am_ (ng_ hg BK204); have n22_ := am_ (nl_ hg BK209); have n23_ := am_ (ng_ hg BK209); have n24_ := am_ (nl_ hg BK215); have n25_ := am_ (ng_ hg BK215); clear HO_200001 HO_205001 HO_210001 HO_216001 BK182 BK183 BK199 BK204 BK209 BK215 HB; have HO_200001 := n0_; have HO_205001 := n1_; have HO_210001 := n2_; have HO_216001 := n3_; have BK182 := n4_; have BK183 := n5_; have BK199 := n6_; have BK204 := n7_; have BK209 := n8_; have BK215 := n9_; have HB := n10_; have BK248 := n11_; have GW248 := n12_; have GE248 := n13_; have NB182_248 := n14_; have NB248_182 := n15_; have NB183_248 := n16_; have NB248_183 := n17_; have NB199_248 := n18_; have NB248_199 := n19_; have NB204_248 := n20_; have NB248_204 := n21_; have NB209_248 := n22_; have NB248_209 := n23_; have NB215_248 := n24_; have NB248_215 := n25_; clear n0_ n1_ n2_ n3_ n4_ n5_ n6_ n7_ n8_ n9_ n10_ n11_ n12_ n13_ n14_ n15_ n16_ n17_ n18_ n19_ n20_ n21_ n22_ n23_ n24_ n25_ hb hbox hg
               refine hK.out _ _ ⟨(blk_cell BK182.out 0).trans rfl, (blk_cell BK182.out 1).trans rfl, (blk_cell BK183.out 0).trans rfl, (blk_cell BK183.out 1).trans rfl⟩ (fun hHeld => ?_)
               clear hK K
               refine norm_ (a' := ?_) ?_ ?_
               rotate_left
               ·show Act.put _ (some 15) _ = _
                exact nm_
               refine one_ (i := 1) (N := some 96) #[true, true, true, false, false, false, false, false, true, false, false] rfl rfl (one_of HT_.out (by kernel_rfl)) (by decide) (fun K hK => ?_)
               refine goes_ Tryd.func20 (by kernel_rfl) rfl #[.agg #[.int .i64 a0_0, .slice A0_1 l0_1.length c0_1]] (by rfl) rfl rfl ma_ ?_
               with_reducible refine (laws_toWhole.calls kj107 a0_0 _ _ l0_1 t235 t236 _ ?side1 ?side2 A171.out).mono ?_
               (case side1 => repeat (first | exact (Kd.C_below HR0_1.out HB.out) | (with_reducible refine Kd.C_alloc ?_ _) | (with_reducible refine Kd.C_drewN ?_ _) | (with_reducible refine Kd.C_drew ?_)))
               (case side2 => exact HC0_1.out)
               rintro e w186 ⟨v237, rfl, ho0, hb⟩
               refine ⟨_, rfl, ?_⟩
               have n0_ := am_ (Kd.R_elder' (kr_ HO_200001) (Kd.R_base ho0) hb); have n1_ := am_ (Kd.R_elder' (kr_ HO_205001) (Kd.R_base ho0) hb); have n2_ := am_ (Kd.R_elder' (kr_ HO_210001) (Kd.R_base ho0) hb); have n3_ := am_ (Kd.R_elder' (kr_ HO_216001) (Kd.R_base ho0) hb); have n4_ := am_ (Kd.R_lower (Kd.R_new' (Kd.R_new' (Kd.R_new' (Kd.R_new' ho0 (Kd.R_lt (kr_ HO_200001))) (Kd.R_lt (kr_ HO_205001))) (Kd.R_lt (kr_ HO_210001))) (Kd.R_lt (kr_ HO_216001))) (below_size (bl_ HB))); have n5_ := am_ (blk_below (bk_ BK182) hb); have n6_ := am_ (blk_below (bk_ BK183) hb); have n7_ := am_ (blk_below (bk_ BK199) hb); have n8_ := am_ (blk_below (bk_ BK204) hb); have n9_ := am_ (blk_below (bk_ BK209) hb); have n10_ := am_ (blk_below (bk_ BK215) hb); have n11_ := am_ (blk_below (bk_ BK248) hb); have n12_ := am_ (below_step (bl_ HB) hb); clear HO_200001 HO_205001 HO_210001 HO_216001 BK182 BK183 BK199 BK204 BK209 BK215 BK248 HB; have HO_200001 := n0_; have HO_205001 := n1_; have HO_210001 := n2_; have HO_216001 := n3_; have HO238 := n4_; have BK182 := n5_; have BK183 := n6_; have BK199 := n7_; have BK204 := n8_; have BK209 := n9_; have BK215 := n10_; have BK248 := n11_; have HB := n12_; clear n0_ n1_ n2_ n3_ n4_ n5_ n6_ n7_ n8_ n9_ n10_ n11_ n12_; (try clear hb); (try clear hb2); (try clear hk); (try clear hi); (try clear ho0)
               refine hK.out _ _ ⟨(blk_cell BK182.out 0).trans rfl, (blk_cell BK182.out 1).trans rfl, (blk_cell BK183.out 0).trans rfl, (blk_cell BK183.out 1).trans rfl⟩ (fun hHeld => ?_)
               clear hK K
               refine norm_ (a' := ?_) ?_ ?_
               rotate_left
               ·show Act.put _ (some 96) _ = _
                exact nm_
               refine one_ (i := 3) (N := some 98) #[true, true, true, true, false, false, false, false, true, false, false] rfl rfl (one_of HT_.out (by kernel_rfl)) (by decide) (fun K hK => ?_)
               refine goes_ Tryd.func20 (by kernel_rfl) rfl #[.agg #[.int .i64 a1_0, .slice A1_1 l1_1.length c1_1]] (by rfl) rfl rfl ma_ ?_
               with_reducible refine (laws_toWhole.calls kj107 a1_0 _ _ l1_1 t239 t240 _ ?side1 ?side2 A172.out).mono ?_
               (case side1 => repeat (first | exact (Kd.C_below HR1_1.out HB.out) | (with_reducible refine Kd.C_alloc ?_ _) | (with_reducible refine Kd.C_drewN ?_ _) | (with_reducible refine Kd.C_drew ?_)))
               (case side2 => exact HC1_1.out)
               rintro e w187 ⟨v241, rfl, ho0, hb⟩
               refine ⟨_, rfl, ?_⟩
               have n0_ := am_ (Kd.R_elder' (kr_ HO_200001) (Kd.R_base ho0) hb); have n1_ := am_ (Kd.R_elder' (kr_ HO_205001) (Kd.R_base ho0) hb); have n2_ := am_ (Kd.R_elder' (kr_ HO_210001) (Kd.R_base ho0) hb); have n3_ := am_ (Kd.R_elder' (kr_ HO_216001) (Kd.R_base ho0) hb); have n4_ := am_ (Kd.R_elder' (kr_ HO238) (Kd.R_base ho0) hb); have n5_ := am_ (Kd.R_lower (Kd.R_new' (Kd.R_new' (Kd.R_new' (Kd.R_new' (Kd.R_new' ho0 (Kd.R_lt (kr_ HO_200001))) (Kd.R_lt (kr_ HO_205001))) (Kd.R_lt (kr_ HO_210001))) (Kd.R_lt (kr_ HO_216001))) (Kd.R_lt (kr_ HO238))) (below_size (bl_ HB))); have n6_ := am_ (blk_below (bk_ BK182) hb); have n7_ := am_ (blk_below (bk_ BK183) hb); have n8_ := am_ (blk_below (bk_ BK199) hb); have n9_ := am_ (blk_below (bk_ BK204) hb); have n10_ := am_ (blk_below (bk_ BK209) hb); have n11_ := am_ (blk_below (bk_ BK215) hb); have n12_ := am_ (blk_below (bk_ BK248) hb); have n13_ := am_ (below_step (bl_ HB) hb); clear HO_200001 HO_205001 HO_210001 HO_216001 HO238 BK182 BK183 BK199 BK204 BK209 BK215 BK248 HB; have HO_200001 := n0_; have HO_205001 := n1_; have HO_210001 := n2_; have HO_216001 := n3_; have HO238 := n4_; have HO242 := n5_; have BK182 := n6_; have BK183 := n7_; have BK199 := n8_; have BK204 := n9_; have BK209 := n10_; have BK215 := n11_; have BK248 := n12_; have HB := n13_; clear n0_ n1_ n2_ n3_ n4_ n5_ n6_ n7_ n8_ n9_ n10_ n11_ n12_ n13_; (try clear hb); (try clear hb2); (try clear hk); (try clear hi); (try clear ho0)
               obtain ⟨Ao188, co188, eo188⟩ := Kd.R_slice HO238.out
               (first | subst eo188 | (injection eo188 with f1_ f2_ f3_; have f4_ := f1_.symm; have f5_ := f3_.symm; clear f1_ f2_ f3_; subst f4_; subst f5_))
               obtain ⟨Ao189, co189, eo189⟩ := Kd.R_slice HO242.out
               (first | subst eo189 | (injection eo189 with f1_ f2_ f3_; have f4_ := f1_.symm; have f5_ := f3_.symm; clear f1_ f2_ f3_; subst f4_; subst f5_))
               refine hK.out _ _ ⟨(blk_cell BK182.out 0).trans rfl, (blk_cell BK182.out 1).trans rfl, (blk_cell BK183.out 0).trans rfl, (blk_cell BK183.out 1).trans rfl⟩ (fun hHeld => ?_)
               clear hK K
               refine norm_ (a' := ?_) ?_ ?_
               rotate_left
               ·show Act.put _ (some 98) _ = _
                exact nm_
               refine one_ (i := 4) (N := some 99) #[true, true, true, true, true, false, false, false, true, false, false] rfl rfl (one_of HT_.out (by kernel_rfl)) (by decide) (fun K hK => ?_)
               refine goes_ Tryd.func32 (by kernel_rfl) rfl #[.agg #[.int .i64 t235, .slice Ao188 t236.length co188], .agg #[.int .i64 t239, .slice Ao189 t240.length co189]] (by rfl) rfl rfl ma_ ?_
               with_reducible refine (impl_MultiplyWholes.calls t235 _ _ t236 t239 _ _ t240 t243 t244 t247 _ ?side1 ?side2 ?side3 ?side4 A173.out).mono ?_
               (case side1 => repeat (first | exact (Kd.R_reads' HO238.out).2.2 | (with_reducible refine Kd.C_alloc ?_ _) | (with_reducible refine Kd.C_drewN ?_ _) | (with_reducible refine Kd.C_drew ?_)))
               (case side2 => exact (Kd.R_reads' HO238.out).2.1)
               (case side3 => repeat (first | exact (Kd.R_reads' HO242.out).2.2 | (with_reducible refine Kd.C_alloc ?_ _) | (with_reducible refine Kd.C_drewN ?_ _) | (with_reducible refine Kd.C_drew ?_)))
               (case side4 => exact (Kd.R_reads' HO242.out).2.1)
               rintro e w190 ⟨v245, rfl, ho0, hb⟩
               refine ⟨_, rfl, ?_⟩
               have n0_ := am_ (Kd.R_elder' (kr_ HO_200001) (Kd.R_base ho0) hb); have n1_ := am_ (Kd.R_elder' (kr_ HO_205001) (Kd.R_base ho0) hb); have n2_ := am_ (Kd.R_elder' (kr_ HO_210001) (Kd.R_base ho0) hb); have n3_ := am_ (Kd.R_elder' (kr_ HO_216001) (Kd.R_base ho0) hb); have n4_ := am_ (Kd.R_elder' (kr_ HO238) (Kd.R_base ho0) hb); have n5_ := am_ (Kd.R_elder' (kr_ HO242) (Kd.R_base ho0) hb); have n6_ := am_ (Kd.R_lower (Kd.R_new' (Kd.R_new' (Kd.R_new' (Kd.R_new' (Kd.R_new' (Kd.R_new' ho0 (Kd.R_lt (kr_ HO_200001))) (Kd.R_lt (kr_ HO_205001))) (Kd.R_lt (kr_ HO_210001))) (Kd.R_lt (kr_ HO_216001))) (Kd.R_lt (kr_ HO238))) (Kd.R_lt (kr_ HO242))) (below_size (bl_ HB))); have n7_ := am_ (blk_below (bk_ BK182) hb); have n8_ := am_ (blk_below (bk_ BK183) hb); have n9_ := am_ (blk_below (bk_ BK199) hb); have n10_ := am_ (blk_below (bk_ BK204) hb); have n11_ := am_ (blk_below (bk_ BK209) hb); have n12_ := am_ (blk_below (bk_ BK215) hb); have n13_ := am_ (blk_below (bk_ BK248) hb); have n14_ := am_ (below_step (bl_ HB) hb); clear HO_200001 HO_205001 HO_210001 HO_216001 HO238 HO242 BK182 BK183 BK199 BK204 BK209 BK215 BK248 HB; have HO_200001 := n0_; have HO_205001 := n1_; have HO_210001 := n2_; have HO_216001 := n3_; have HO238 := n4_; have HO242 := n5_; have HO246 := n6_; have BK182 := n7_; have BK183 := n8_; have BK199 := n9_; have BK204 := n10_; have BK209 := n11_; have BK215 := n12_; have BK248 := n13_; have HB := n14_; clear n0_ n1_ n2_ n3_ n4_ n5_ n6_ n7_ n8_ n9_ n10_ n11_ n12_ n13_ n14_; (try clear hb); (try clear hb2); (try clear hk); (try clear hi); (try clear ho0)
               refine hK.out _ _ ⟨(blk_cell BK182.out 0).trans rfl, (blk_cell BK182.out 1).trans rfl, (blk_cell BK183.out 0).trans rfl, (blk_cell BK183.out 1).trans rfl⟩ (fun hHeld => ?_)
               clear hK K
               refine norm_ (a' := ?_) ?_ ?_
               rotate_left
               ·show Act.put _ (some 99) _ = _
                exact nm_
               refine pure_ (i := 5) (N := some 94) (v := ?_) (a' := ?_) #[true, true, true, true, true, true, false, false, true, false, false] rfl rfl (any_of HT_.out (by kernel_rfl)) (fun _ _ _ h => h) (Or.inl ⟨by rfl, ?_⟩) ?_ ?_
               rotate_left
               ·intro w'
                go_simp
                with_reducible rfl
               rotate_left
               ·exact nm_
               refine pure_ (i := 6) (N := some 100) (v := ?_) (a' := ?_) #[true, true, true, true, true, true, true, false, true, false, false] rfl rfl (any_of HT_.out (by kernel_rfl)) (fun _ _ _ h => h) (Or.inl ⟨by rfl, ?_⟩) ?_ ?_
               rotate_left
               ·intro w'
                go_simp
                with_reducible rfl
               rotate_left
               ·exact nm_
               refine pure_ (i := 7) (N := some 101) (v := ?_) (a' := ?_) #[true, true, true, true, true, true, true, true, true, false, false] rfl rfl (any_of HT_.out (by kernel_rfl)) (fun _ _ _ h => h) (Or.inl ⟨by rfl, ?_⟩) ?_ ?_
               rotate_left
               ·intro w'
                go_simp
                with_reducible rfl
               rotate_left
               ·exact nm_
               exact norm_ (by simp only [putAll, Act.put, List.setIfInBounds_toArray, List.set_cons_zero, List.set_cons_succ]) (hCont (.slice Ao188 t236.length co188, .slice Ao189 t240.length co189, v245, gb248) _ ⟨hHeld, (km_ HO238 (fun _ hk => ⟨hk.1.2, ⟨hk.2, ⟨hk.1.1.1.1.1.2, ⟨hk.1.1.1.1.2, ⟨hk.1.1.1.2, hk.1.1.2⟩⟩⟩⟩⟩)), (km_ HO242 (fun _ hk => ⟨hk.1.2, ⟨hk.2, ⟨hk.1.1.1.1.1.2, ⟨hk.1.1.1.1.2, ⟨hk.1.1.1.2, hk.1.1.2⟩⟩⟩⟩⟩)), (km_ HO246 (fun _ hk => ⟨hk.1.2, ⟨hk.2, ⟨hk.1.1.1.1.1.2, ⟨hk.1.1.1.1.2, ⟨hk.1.1.1.2, hk.1.1.2⟩⟩⟩⟩⟩)), (km_ HO_200001 (fun _ hk => ⟨hk.1.1.2, ⟨hk.1.2, ⟨hk.2, ⟨hk.1.1.1.1, ⟨hk.1.1.1.2.1, hk.1.1.1.2.2⟩⟩⟩⟩⟩)), (km_ HO_205001 (fun _ hk => ⟨hk.1.1.2, ⟨hk.1.2, ⟨hk.2, ⟨hk.1.1.1.1, ⟨hk.1.1.1.2.1, hk.1.1.1.2.2⟩⟩⟩⟩⟩)), (km_ HO_210001 (fun _ hk => ⟨hk.1.1.2, ⟨hk.1.2, ⟨hk.2, ⟨hk.1.1.1.1, ⟨hk.1.1.1.2.1, hk.1.1.1.2.2⟩⟩⟩⟩⟩)), (km_ HO_216001 (fun _ hk => ⟨hk.1.1.2, ⟨hk.1.2, ⟨hk.2, ⟨hk.1.1.1.1, ⟨hk.1.1.1.2.1, hk.1.1.1.2.2⟩⟩⟩⟩⟩)), (bk_ BK182), (bk_ BK183), (bk_ BK199), (bk_ BK204), (bk_ BK209), (bk_ BK215), (bk_ BK248), GW248.out, GE248.out, NB182_248.out, NB248_182.out, NB183_248.out, NB248_183.out, NB199_248.out, NB248_199.out, NB204_248.out, NB248_204.out, NB209_248.out, NB248_209.out, NB215_248.out, NB248_215.out, (bl_ HB)⟩)
             rintro ⟨v237, v241, v245, gb248⟩ w191 ⟨hS_, h0_, h1_, h2_, h3_, h4_, h5_, h6_, h7_, h8_, h9_, h10_, h11_, h12_, h13_, h14_, h15_, h16_, h17_, h18_, h19_, h20_, h21_, h22_, h23_, h24_, h25_, h26_, h27_, h28_⟩
             have n0_ : Aside0 (Kd.R (Kd.int .i64) 2 w191 w.heap.size (fun k_ => some k_ ≠ (v241 : Value).ownBlock ∧ some k_ ≠ (v245 : Value).ownBlock ∧ some k_ ≠ (.slice Ao42 t195.length co42 : Value).ownBlock ∧ some k_ ≠ (.slice Ao52 t228.length co52 : Value).ownBlock ∧ some k_ ≠ (.slice Ao62 t230.length co62 : Value).ownBlock ∧ some k_ ≠ (.slice Ao72 t211.length co72 : Value).ownBlock) v237 t236) := ⟨h0_⟩
             have n1_ : Aside0 (Kd.R (Kd.int .i64) 2 w191 w.heap.size (fun k_ => some k_ ≠ (v237 : Value).ownBlock ∧ some k_ ≠ (v245 : Value).ownBlock ∧ some k_ ≠ (.slice Ao42 t195.length co42 : Value).ownBlock ∧ some k_ ≠ (.slice Ao52 t228.length co52 : Value).ownBlock ∧ some k_ ≠ (.slice Ao62 t230.length co62 : Value).ownBlock ∧ some k_ ≠ (.slice Ao72 t211.length co72 : Value).ownBlock) v241 t240) := ⟨h1_⟩
             have n2_ : Aside0 (Kd.R (Kd.int .i64) 2 w191 w.heap.size (fun k_ => some k_ ≠ (v237 : Value).ownBlock ∧ some k_ ≠ (v241 : Value).ownBlock ∧ some k_ ≠ (.slice Ao42 t195.length co42 : Value).ownBlock ∧ some k_ ≠ (.slice Ao52 t228.length co52 : Value).ownBlock ∧ some k_ ≠ (.slice Ao62 t230.length co62 : Value).ownBlock ∧ some k_ ≠ (.slice Ao72 t211.length co72 : Value).ownBlock) v245 t244) := ⟨h2_⟩
             have n3_ : Aside0 (Kd.R (Kd.int .i64) 2 w191 w.heap.size (fun k_ => some k_ ≠ (v237 : Value).ownBlock ∧ some k_ ≠ (v241 : Value).ownBlock ∧ some k_ ≠ (v245 : Value).ownBlock ∧ some k_ ≠ (.slice Ao52 t228.length co52 : Value).ownBlock ∧ some k_ ≠ (.slice Ao62 t230.length co62 : Value).ownBlock ∧ some k_ ≠ (.slice Ao72 t211.length co72 : Value).ownBlock) (.slice Ao42 t195.length co42) t195) := ⟨h3_⟩
             have n4_ : Aside0 (Kd.R (Kd.int .i64) 2 w191 w.heap.size (fun k_ => some k_ ≠ (v237 : Value).ownBlock ∧ some k_ ≠ (v241 : Value).ownBlock ∧ some k_ ≠ (v245 : Value).ownBlock ∧ some k_ ≠ (.slice Ao42 t195.length co42 : Value).ownBlock ∧ some k_ ≠ (.slice Ao62 t230.length co62 : Value).ownBlock ∧ some k_ ≠ (.slice Ao72 t211.length co72 : Value).ownBlock) (.slice Ao52 t228.length co52) t228) := ⟨h4_⟩
             have n5_ : Aside0 (Kd.R (Kd.int .i64) 2 w191 w.heap.size (fun k_ => some k_ ≠ (v237 : Value).ownBlock ∧ some k_ ≠ (v241 : Value).ownBlock ∧ some k_ ≠ (v245 : Value).ownBlock ∧ some k_ ≠ (.slice Ao42 t195.length co42 : Value).ownBlock ∧ some k_ ≠ (.slice Ao52 t228.length co52 : Value).ownBlock ∧ some k_ ≠ (.slice Ao72 t211.length co72 : Value).ownBlock) (.slice Ao62 t230.length co62) t230) := ⟨h5_⟩
             have n6_ : Aside0 (Kd.R (Kd.int .i64) 2 w191 w.heap.size (fun k_ => some k_ ≠ (v237 : Value).ownBlock ∧ some k_ ≠ (v241 : Value).ownBlock ∧ some k_ ≠ (v245 : Value).ownBlock ∧ some k_ ≠ (.slice Ao42 t195.length co42 : Value).ownBlock ∧ some k_ ≠ (.slice Ao52 t228.length co52 : Value).ownBlock ∧ some k_ ≠ (.slice Ao62 t230.length co62 : Value).ownBlock) (.slice Ao72 t211.length co72) t233) := ⟨h6_⟩
             have n7_ : Aside0 (w191.heap[gb182]? = some (.cells #[.int .i64 a0_0, .slice A0_1 l0_1.length c0_1] 24 (0, 0))) := ⟨h7_⟩
             have n8_ : Aside0 (w191.heap[gb183]? = some (.cells #[.int .i64 a1_0, .slice A1_1 l1_1.length c1_1] 24 (0, 0))) := ⟨h8_⟩
             have n9_ : Aside0 (w191.heap[gb199]? = some (.cells #[.int .i64 t194, .slice Ao42 t195.length co42] 28 (0, 0))) := ⟨h9_⟩
             have n10_ : Aside0 (w191.heap[gb204]? = some (.cells #[.int .i64 t200, .slice Ao52 t228.length co52] 28 (0, 0))) := ⟨h10_⟩
             have n11_ : Aside0 (w191.heap[gb209]? = some (.cells #[.int .i64 t205, .slice Ao62 t230.length co62] 28 (0, 0))) := ⟨h11_⟩
             have n12_ : Aside0 (w191.heap[gb215]? = some (.cells #[.int .i64 t210, .slice Ao72 t211.length co72] 28 (0, 0))) := ⟨h12_⟩
             have n13_ : Aside0 (w191.heap[gb248]? = some (.cells #[.int .i64 0, .slice none 0 0] 28 (0, 0))) := ⟨h13_⟩
             have n14_ : Aside0 (w.heap.size ≤ gb248) := ⟨h14_⟩
             have n15_ : Aside0 (w.heap.size ≤ gb248) := ⟨h15_⟩
             have n16_ : Aside0 (gb182 ≠ gb248) := ⟨h16_⟩
             have n17_ : Aside0 (gb248 ≠ gb182) := ⟨h17_⟩
             have n18_ : Aside0 (gb183 ≠ gb248) := ⟨h18_⟩
             have n19_ : Aside0 (gb248 ≠ gb183) := ⟨h19_⟩
             have n20_ : Aside0 (gb199 ≠ gb248) := ⟨h20_⟩
             have n21_ : Aside0 (gb248 ≠ gb199) := ⟨h21_⟩
             have n22_ : Aside0 (gb204 ≠ gb248) := ⟨h22_⟩
             have n23_ : Aside0 (gb248 ≠ gb204) := ⟨h23_⟩
             have n24_ : Aside0 (gb209 ≠ gb248) := ⟨h24_⟩
             have n25_ : Aside0 (gb248 ≠ gb209) := ⟨h25_⟩
             have n26_ : Aside0 (gb215 ≠ gb248) := ⟨h26_⟩
             have n27_ : Aside0 (gb248 ≠ gb215) := ⟨h27_⟩
             have n28_ : Aside0 (Below w.heap.size w w191) := ⟨h28_⟩
             clear HO_200001 HO_205001 HO_210001 HO_216001 BK182 BK183 BK199 BK204 BK209 BK215 HB h0_ h1_ h2_ h3_ h4_ h5_ h6_ h7_ h8_ h9_ h10_ h11_ h12_ h13_ h14_ h15_ h16_ h17_ h18_ h19_ h20_ h21_ h22_ h23_ h24_ h25_ h26_ h27_ h28_; have HO238 := n0_; have HO242 := n1_; have HO246 := n2_; have HO_200001 := n3_; have HO_205001 := n4_; have HO_210001 := n5_; have HO_216001 := n6_; have BK182 := n7_; have BK183 := n8_; have BK199 := n9_; have BK204 := n10_; have BK209 := n11_; have BK215 := n12_; have BK248 := n13_; have GW248 := n14_; have GE248 := n15_; have NB182_248 := n16_; have NB248_182 := n17_; have NB183_248 := n18_; have NB248_183 := n19_; have NB199_248 := n20_; have NB248_199 := n21_; have NB204_248 := n22_; have NB248_204 := n23_; have NB209_248 := n24_; have NB248_209 := n25_; have NB215_248 := n26_; have NB248_215 := n27_; have HB := n28_; clear n0_ n1_ n2_ n3_ n4_ n5_ n6_ n7_ n8_ n9_ n10_ n11_ n12_ n13_ n14_ n15_ n16_ n17_ n18_ n19_ n20_ n21_ n22_ n23_ n24_ n25_ n26_ n27_ n28_
             have hHeld : w191.cell? ⟨gb182, 0, none⟩ = some (.int .i64 a0_0) ∧ w191.cell? ⟨gb182, 1, none⟩ = some (.slice A0_1 l0_1.length c0_1) ∧ w191.cell? ⟨gb183, 0, none⟩ = some (.int .i64 a1_0) ∧ w191.cell? ⟨gb183, 1, none⟩ = some (.slice A1_1 l1_1.length c1_1) := hS_
             obtain ⟨Ao193, co193, eo193⟩ := Kd.R_slice HO246.out
             (first | subst eo193 | (injection eo193 with f1_ f2_ f3_; have f4_ := f1_.symm; have f5_ := f3_.symm; clear f1_ f2_ f3_; subst f4_; subst f5_))
             refine norm_ (a' := ?_) ?_ ?_
             rotate_left
             ·simp only [putAll, Act.put, List.setIfInBounds_toArray, List.set_cons_zero, List.set_cons_succ]
              rfl
             refine one_ (i := 9) (N := none) #[true, true, true, true, true, true, true, true, true, true, false] rfl rfl (one_of HT_.out (by kernel_rfl)) (by decide) (fun K hK => ?_)
             have hs192 : w191.cell? ⟨gb248, 0, none⟩ = some (.int .i64 0) := (blk_cell BK248.out 0).trans rfl
             have hfs192 := blk_frozen BK248.out 0; have hns192_0 := NB182_248.out; have hns192_1 := NB183_248.out; have hns192_2 := NB199_248.out; have hns192_3 := NB204_248.out; have hns192_4 := NB209_248.out; have hns192_5 := NB215_248.out; have hms192_0 := NB248_182.out; have hms192_1 := NB248_183.out; have hms192_2 := NB248_199.out; have hms192_3 := NB248_204.out; have hms192_4 := NB248_209.out; have hms192_5 := NB248_215.out
             have hs194 : w191.cell? ⟨gb248, 1, none⟩ = some (.slice none 0 0) := (blk_cell BK248.out 1).trans rfl
             have hfs194 := blk_frozen BK248.out 1; have hns194_0 := NB182_248.out; have hns194_1 := NB183_248.out; have hns194_2 := NB199_248.out; have hns194_3 := NB204_248.out; have hns194_4 := NB209_248.out; have hns194_5 := NB215_248.out; have hms194_0 := NB248_182.out; have hms194_1 := NB248_183.out; have hms194_2 := NB248_199.out; have hms194_3 := NB248_204.out; have hms194_4 := NB248_209.out; have hms194_5 := NB248_215.out
             refine skip_ (w1 := ?_) (by rfl) rfl ?_ ?_
             rotate_left
             ·go_simp
              rfl
             refine hK.out _ _ ⟨((cell_far (p := ⟨gb248, _, none⟩) NB182_248.out _).trans (((cell_far (p := ⟨gb248, _, none⟩) NB182_248.out _).trans (hHeld.1)))), ((cell_far (p := ⟨gb248, _, none⟩) NB182_248.out _).trans (((cell_far (p := ⟨gb248, _, none⟩) NB182_248.out _).trans (hHeld.2.1)))), ((cell_far (p := ⟨gb248, _, none⟩) NB183_248.out _).trans (((cell_far (p := ⟨gb248, _, none⟩) NB183_248.out _).trans (hHeld.2.2.1)))), ((cell_far (p := ⟨gb248, _, none⟩) NB183_248.out _).trans (((cell_far (p := ⟨gb248, _, none⟩) NB183_248.out _).trans (hHeld.2.2.2))))⟩ (fun hHeld => ?_)
             clear hK K
             refine pure_ (i := 10) (N := some 16) (v := ?_) (a' := ?_) #[true, true, true, true, true, true, true, true, true, true, true] rfl rfl (any_of HT_.out (by kernel_rfl)) (fun _ _ _ h => h) (Or.inl ⟨by rfl, ?_⟩) ?_ ?_
             rotate_left
             ·intro w'
              go_simp
              with_reducible rfl
             rotate_left
             ·exact nm_
             refine done_ (done_of HT_.out (by kernel_rfl)) ?_
             go_upto_region 32 with (fail)
             go_cut [110] (fun v110 wc => ∃ (kq : Nat) (x110_173 : Bool), v110 = .bool x110_173 ∧ Aside0 (laws_FnExactMultiplyWholes.j2 kq t232 x110_173 t210 t233 = some r) ∧ Aside0 (kq ≤ kj107) ∧ Aside0 (Kd.R (Kd.int .i64) 2 wc w.heap.size (fun k_ => some k_ ≠ ((.slice Ao52 t228.length co52) : Value).ownBlock ∧ some k_ ≠ ((.slice Ao62 t230.length co62) : Value).ownBlock ∧ some k_ ≠ ((.slice Ao72 t211.length co72) : Value).ownBlock ∧ some k_ ≠ ((.slice Ao193 t244.length co193) : Value).ownBlock) (.slice Ao42 t195.length co42) t195) ∧ Aside0 (Kd.R (Kd.int .i64) 2 wc w.heap.size (fun k_ => some k_ ≠ ((.slice Ao42 t195.length co42) : Value).ownBlock ∧ some k_ ≠ ((.slice Ao62 t230.length co62) : Value).ownBlock ∧ some k_ ≠ ((.slice Ao72 t211.length co72) : Value).ownBlock ∧ some k_ ≠ ((.slice Ao193 t244.length co193) : Value).ownBlock) (.slice Ao52 t228.length co52) t228) ∧ Aside0 (Kd.R (Kd.int .i64) 2 wc w.heap.size (fun k_ => some k_ ≠ ((.slice Ao42 t195.length co42) : Value).ownBlock ∧ some k_ ≠ ((.slice Ao52 t228.length co52) : Value).ownBlock ∧ some k_ ≠ ((.slice Ao72 t211.length co72) : Value).ownBlock ∧ some k_ ≠ ((.slice Ao193 t244.length co193) : Value).ownBlock) (.slice Ao62 t230.length co62) t230) ∧ Aside0 (Kd.R (Kd.int .i64) 2 wc w.heap.size (fun k_ => some k_ ≠ ((.slice Ao42 t195.length co42) : Value).ownBlock ∧ some k_ ≠ ((.slice Ao52 t228.length co52) : Value).ownBlock ∧ some k_ ≠ ((.slice Ao62 t230.length co62) : Value).ownBlock ∧ some k_ ≠ ((.slice Ao193 t244.length co193) : Value).ownBlock) (.slice Ao72 t211.length co72) t233) ∧ Aside0 (Kd.R (Kd.int .i64) 2 wc w.heap.size (fun k_ => some k_ ≠ ((.slice Ao42 t195.length co42) : Value).ownBlock ∧ some k_ ≠ ((.slice Ao52 t228.length co52) : Value).ownBlock ∧ some k_ ≠ ((.slice Ao62 t230.length co62) : Value).ownBlock ∧ some k_ ≠ ((.slice Ao72 t211.length co72) : Value).ownBlock) (.slice Ao193 t244.length co193) t244) ∧ Aside0 (wc.heap[gb182]? = some (.cells #[.int .i64 a0_0, (.slice A0_1 l0_1.length c0_1)] 24 (0, 0))) ∧ Aside0 (wc.heap[gb183]? = some (.cells #[.int .i64 a1_0, (.slice A1_1 l1_1.length c1_1)] 24 (0, 0))) ∧ Aside0 (wc.heap[gb199]? = some (.cells #[.int .i64 t194, (.slice Ao42 t195.length co42)] 28 (0, 0))) ∧ Aside0 (wc.heap[gb204]? = some (.cells #[.int .i64 t200, (.slice Ao52 t228.length co52)] 28 (0, 0))) ∧ Aside0 (wc.heap[gb209]? = some (.cells #[.int .i64 t205, (.slice Ao62 t230.length co62)] 28 (0, 0))) ∧ Aside0 (wc.heap[gb215]? = some (.cells #[.int .i64 t210, (.slice Ao72 t211.length co72)] 28 (0, 0))) ∧ Aside0 (wc.heap[gb248]? = some (.cells #[.int .i64 t243, (.slice Ao193 t244.length co193)] 28 (0, 0))) ∧ Aside0 (Below w.heap.size w wc))
             case first =>
              have H := HC174.out; clear HC174
              replace H := Option.bind_eq_some_iff.mp H
              obtain ⟨t249, A1950, H⟩ := H
              replace H : (if t249 = true then (laws_FnExactMultiplyWholes.j2 kj107 t232 (t247 != t198) t210 t233) else (laws_FnExactMultiplyWholes.j2 kj107 t232 true t210 t233)) = some r := H
              have A195 := Aside0.mk A1950; clear A1950
              by_cases c196 : t249 = true
              ·subst c196
               have H1 : (laws_FnExactMultiplyWholes.j2 kj107 t232 (t247 != t198) t210 t233) = some r := by rw [if_pos rfl] at H; exact H
               clear H; have H := H1; clear H1
               have H' := Aside0.mk H
               clear H; have hnb197 := NB248_182.out; have hnc197 := NB182_248.out; have hnb198 := NB248_183.out; have hnc198 := NB183_248.out; have hnb199 := NB248_199.out; have hnc199 := NB199_248.out; have hnb200 := NB248_204.out; have hnc200 := NB204_248.out; have hnb201 := NB248_209.out; have hnc201 := NB209_248.out; have hnb202 := NB248_215.out; have hnc202 := NB215_248.out
               have hcz203_0 : w191.cell? ⟨gb248, 0, none⟩ = some (.int .i64 0) := (blk_cell BK248.out 0).trans rfl
               have hcz203_1 : w191.cell? ⟨gb248, 1, none⟩ = some (.slice none 0 0) := (blk_cell BK248.out 1).trans rfl
               have hfz203_0 := blk_frozen BK248.out 0; have hfz203_1 := blk_frozen BK248.out 1; have hnb204 := NB199_182.out; have hnc204 := NB182_199.out; have hnb205 := NB199_183.out; have hnc205 := NB183_199.out; have hnb206 := NB199_204.out; have hnc206 := NB204_199.out; have hnb207 := NB199_209.out; have hnc207 := NB209_199.out; have hnb208 := NB199_215.out; have hnc208 := NB215_199.out
               have hcz209_0 : w191.cell? ⟨gb199, 0, none⟩ = some (.int .i64 t194) := (blk_cell BK199.out 0).trans rfl
               have hcz209_1 : w191.cell? ⟨gb199, 1, none⟩ = some (.slice Ao42 t195.length co42) := (blk_cell BK199.out 1).trans rfl
               have hfz209_0 := blk_frozen BK199.out 0; have hfz209_1 := blk_frozen BK199.out 1
               go_wp2_with (first | ((with_reducible refine gate_callee (f := 22) rfl ?_); refine goesL_ (some 104) rfl rfl Tryd.func22 (by kernel_rfl) rfl #[.agg #[.int .i64 t243, .slice Ao193 t244.length co193], .agg #[.int .i64 t194, .slice Ao42 t195.length co42]] rfl ma_ ?_; (with_reducible refine (laws_eqWhole.calls kj107 t243 _ _ t244 t194 _ _ t195 true _ ?side1 ?side2 ?side3 ?side4 A195.out).mono ?_); (case side1 => refine (Kd.R_reads' (e := 2) (base := w.heap.size) (ok := fun k_ => (some k_ ≠ (v237 : Value).ownBlock ∧ (some k_ ≠ (v241 : Value).ownBlock ∧ (some k_ ≠ (.slice Ao42 t195.length co42 : Value).ownBlock ∧ (some k_ ≠ (.slice Ao52 t228.length co52 : Value).ownBlock ∧ (some k_ ≠ (.slice Ao62 t230.length co62 : Value).ownBlock ∧ some k_ ≠ (.slice Ao72 t211.length co72 : Value).ownBlock)))))) (n := t244.length) (c := co193) ?_).2.2; exact (rg_ HO246 BK248)); (case side2 => exact (Kd.R_reads' HO246.out).2.1); (case side3 => refine (Kd.R_reads' (e := 2) (base := w.heap.size) (ok := fun k_ => (some k_ ≠ (v237 : Value).ownBlock ∧ (some k_ ≠ (v241 : Value).ownBlock ∧ (some k_ ≠ (.slice Ao193 t244.length co193 : Value).ownBlock ∧ (some k_ ≠ (.slice Ao52 t228.length co52 : Value).ownBlock ∧ (some k_ ≠ (.slice Ao62 t230.length co62 : Value).ownBlock ∧ some k_ ≠ (.slice Ao72 t211.length co72 : Value).ownBlock)))))) (n := t195.length) (c := co42) ?_).2.2; exact (rg_ HO_200001 BK248)); (case side4 => exact (Kd.R_reads' HO_200001.out).2.1); rintro e w210 ⟨rfl, hb⟩; refine ⟨_, rfl, ?_⟩; have n0_ := am_ (Kd.R_below (rg_ HO_200001 BK248) hb); have n1_ := am_ (Kd.R_below (rg_ HO_205001 BK248) hb); have n2_ := am_ (Kd.R_below (rg_ HO_210001 BK248) hb); have n3_ := am_ (Kd.R_below (rg_ HO_216001 BK248) hb); have n4_ := am_ (Kd.R_below (rg_ HO238 BK248) hb); have n5_ := am_ (Kd.R_below (rg_ HO242 BK248) hb); have n6_ := am_ (Kd.R_below (rg_ HO246 BK248) hb); have n7_ := am_ (blk_below (bk_ BK182) hb); have n8_ := am_ (blk_below (bk_ BK183) hb); have n9_ := am_ (blk_below (bk_ BK199) hb); have n10_ := am_ (blk_below (bk_ BK204) hb); have n11_ := am_ (blk_below (bk_ BK209) hb); have n12_ := am_ (blk_below (bk_ BK215) hb); have n13_ := am_ (blk_below (g := gb248) (o := .cells #[.int .i64 t243, .slice Ao193 t244.length co193] 28 (0, 0)) (by (with_reducible repeat (first | refine blk_drewN ?_ _ | refine blk_drew ?_ | refine blk_alloc ?_ _)); refine blk_put (cs := #[.int .i64 t243, .slice none 0 0]) ?_ 1 _ rfl; (with_reducible repeat (first | refine blk_drewN ?_ _ | refine blk_drew ?_ | refine blk_alloc ?_ _)); refine blk_put (cs := #[.int .i64 0, .slice none 0 0]) ?_ 0 _ rfl; (with_reducible repeat (first | refine blk_drewN ?_ _ | refine blk_drew ?_ | refine blk_alloc ?_ _)); exact BK248.out) hb); have n14_ := am_ (below_step (bl_ HB) hb); clear HO_200001; clear HO_205001; clear HO_210001; clear HO_216001; clear HO238; clear HO242; clear HO246; clear BK182; clear BK183; clear BK199; clear BK204; clear BK209; clear BK215; clear BK248; clear HB; have HO_200001 := n0_; have HO_205001 := n1_; have HO_210001 := n2_; have HO_216001 := n3_; have HO238 := n4_; have HO242 := n5_; have HO246 := n6_; have BK182 := n7_; have BK183 := n8_; have BK199 := n9_; have BK204 := n10_; have BK209 := n11_; have BK215 := n12_; have BK248 := n13_; have HB := n14_; clear n0_ n1_ n2_ n3_ n4_ n5_ n6_ n7_ n8_ n9_ n10_ n11_ n12_ n13_ n14_; (try clear hb); (try clear hb2); (try clear hk); (try clear hi)))
               go_meet
               case rel => exact ⟨_, ((t247 != t198)), (by first | rfl | (simp; done) | (simp [*]; done)), H', ⟨by have := HJ24.out; have := HJ107.out; first | omega | exact Nat.le_refl _⟩, ⟨by (try simp only [hl205001_107]); (try simp only [hl210001_107]); (with_reducible repeat (first | apply Kd.R_alloc | apply Kd.R_drewN | apply Kd.R_drew)); exact Kd.R_mono HO_200001.out (fun _ hk => ⟨hk.2.2.2.1, ⟨hk.2.2.2.2.1, ⟨hk.2.2.2.2.2, hk.2.2.1⟩⟩⟩)⟩, ⟨by (try simp only [hl205001_107]); (try simp only [hl210001_107]); (with_reducible repeat (first | apply Kd.R_alloc | apply Kd.R_drewN | apply Kd.R_drew)); exact Kd.R_mono HO_205001.out (fun _ hk => ⟨hk.2.2.2.1, ⟨hk.2.2.2.2.1, ⟨hk.2.2.2.2.2, hk.2.2.1⟩⟩⟩)⟩, ⟨by (try simp only [hl205001_107]); (try simp only [hl210001_107]); (with_reducible repeat (first | apply Kd.R_alloc | apply Kd.R_drewN | apply Kd.R_drew)); exact Kd.R_mono HO_210001.out (fun _ hk => ⟨hk.2.2.2.1, ⟨hk.2.2.2.2.1, ⟨hk.2.2.2.2.2, hk.2.2.1⟩⟩⟩)⟩, ⟨by (try simp only [hl205001_107]); (try simp only [hl210001_107]); (with_reducible repeat (first | apply Kd.R_alloc | apply Kd.R_drewN | apply Kd.R_drew)); exact Kd.R_mono HO_216001.out (fun _ hk => ⟨hk.2.2.2.1, ⟨hk.2.2.2.2.1, ⟨hk.2.2.2.2.2, hk.2.2.1⟩⟩⟩)⟩, ⟨by (try simp only [hl205001_107]); (try simp only [hl210001_107]); (with_reducible repeat (first | apply Kd.R_alloc | apply Kd.R_drewN | apply Kd.R_drew)); exact Kd.R_mono HO246.out (fun _ hk => ⟨hk.2.2.1, ⟨hk.2.2.2.1, ⟨hk.2.2.2.2.1, hk.2.2.2.2.2⟩⟩⟩)⟩, ⟨by (try simp only [hl205001_107]); (try simp only [hl210001_107]); (with_reducible repeat (first | refine blk_drewN ?_ _ | refine blk_drew ?_ | refine blk_alloc ?_ _)); exact BK182.out⟩, ⟨by (try simp only [hl205001_107]); (try simp only [hl210001_107]); (with_reducible repeat (first | refine blk_drewN ?_ _ | refine blk_drew ?_ | refine blk_alloc ?_ _)); exact BK183.out⟩, ⟨by (try simp only [hl205001_107]); (try simp only [hl210001_107]); (with_reducible repeat (first | refine blk_drewN ?_ _ | refine blk_drew ?_ | refine blk_alloc ?_ _)); exact BK199.out⟩, ⟨by (try simp only [hl205001_107]); (try simp only [hl210001_107]); (with_reducible repeat (first | refine blk_drewN ?_ _ | refine blk_drew ?_ | refine blk_alloc ?_ _)); exact BK204.out⟩, ⟨by (try simp only [hl205001_107]); (try simp only [hl210001_107]); (with_reducible repeat (first | refine blk_drewN ?_ _ | refine blk_drew ?_ | refine blk_alloc ?_ _)); exact BK209.out⟩, ⟨by (try simp only [hl205001_107]); (try simp only [hl210001_107]); (with_reducible repeat (first | refine blk_drewN ?_ _ | refine blk_drew ?_ | refine blk_alloc ?_ _)); exact BK215.out⟩, ⟨by (try simp only [hl205001_107]); (try simp only [hl210001_107]); (with_reducible repeat (first | refine blk_drewN ?_ _ | refine blk_drew ?_ | refine blk_alloc ?_ _)); exact BK248.out⟩, ⟨bl_ HB⟩⟩
              ·replace c196 := Bool.eq_false_iff.mpr c196
               subst c196
               have H1 : (laws_FnExactMultiplyWholes.j2 kj107 t232 true t210 t233) = some r := by rw [if_neg (show ¬ (false = true) by decide)] at H; exact H
               clear H; have H := H1; clear H1
               have H' := Aside0.mk H
               clear H; have hnb211 := NB248_182.out; have hnc211 := NB182_248.out; have hnb212 := NB248_183.out; have hnc212 := NB183_248.out; have hnb213 := NB248_199.out; have hnc213 := NB199_248.out; have hnb214 := NB248_204.out; have hnc214 := NB204_248.out; have hnb215 := NB248_209.out; have hnc215 := NB209_248.out; have hnb216 := NB248_215.out; have hnc216 := NB215_248.out
               have hcz217_0 : w191.cell? ⟨gb248, 0, none⟩ = some (.int .i64 0) := (blk_cell BK248.out 0).trans rfl
               have hcz217_1 : w191.cell? ⟨gb248, 1, none⟩ = some (.slice none 0 0) := (blk_cell BK248.out 1).trans rfl
               have hfz217_0 := blk_frozen BK248.out 0; have hfz217_1 := blk_frozen BK248.out 1; have hnb218 := NB199_182.out; have hnc218 := NB182_199.out; have hnb219 := NB199_183.out; have hnc219 := NB183_199.out; have hnb220 := NB199_204.out; have hnc220 := NB204_199.out; have hnb221 := NB199_209.out; have hnc221 := NB209_199.out; have hnb222 := NB199_215.out; have hnc222 := NB215_199.out
               have hcz223_0 : w191.cell? ⟨gb199, 0, none⟩ = some (.int .i64 t194) := (blk_cell BK199.out 0).trans rfl
               have hcz223_1 : w191.cell? ⟨gb199, 1, none⟩ = some (.slice Ao42 t195.length co42) := (blk_cell BK199.out 1).trans rfl
               have hfz223_0 := blk_frozen BK199.out 0; have hfz223_1 := blk_frozen BK199.out 1
               go_wp2_with (first | ((with_reducible refine gate_callee (f := 22) rfl ?_); refine goesL_ (some 104) rfl rfl Tryd.func22 (by kernel_rfl) rfl #[.agg #[.int .i64 t243, .slice Ao193 t244.length co193], .agg #[.int .i64 t194, .slice Ao42 t195.length co42]] rfl ma_ ?_; (with_reducible refine (laws_eqWhole.calls kj107 t243 _ _ t244 t194 _ _ t195 false _ ?side1 ?side2 ?side3 ?side4 A195.out).mono ?_); (case side1 => refine (Kd.R_reads' (e := 2) (base := w.heap.size) (ok := fun k_ => (some k_ ≠ (v237 : Value).ownBlock ∧ (some k_ ≠ (v241 : Value).ownBlock ∧ (some k_ ≠ (.slice Ao42 t195.length co42 : Value).ownBlock ∧ (some k_ ≠ (.slice Ao52 t228.length co52 : Value).ownBlock ∧ (some k_ ≠ (.slice Ao62 t230.length co62 : Value).ownBlock ∧ some k_ ≠ (.slice Ao72 t211.length co72 : Value).ownBlock)))))) (n := t244.length) (c := co193) ?_).2.2; exact (rg_ HO246 BK248)); (case side2 => exact (Kd.R_reads' HO246.out).2.1); (case side3 => refine (Kd.R_reads' (e := 2) (base := w.heap.size) (ok := fun k_ => (some k_ ≠ (v237 : Value).ownBlock ∧ (some k_ ≠ (v241 : Value).ownBlock ∧ (some k_ ≠ (.slice Ao193 t244.length co193 : Value).ownBlock ∧ (some k_ ≠ (.slice Ao52 t228.length co52 : Value).ownBlock ∧ (some k_ ≠ (.slice Ao62 t230.length co62 : Value).ownBlock ∧ some k_ ≠ (.slice Ao72 t211.length co72 : Value).ownBlock)))))) (n := t195.length) (c := co42) ?_).2.2; exact (rg_ HO_200001 BK248)); (case side4 => exact (Kd.R_reads' HO_200001.out).2.1); rintro e w224 ⟨rfl, hb⟩; refine ⟨_, rfl, ?_⟩; have n0_ := am_ (Kd.R_below (rg_ HO_200001 BK248) hb); have n1_ := am_ (Kd.R_below (rg_ HO_205001 BK248) hb); have n2_ := am_ (Kd.R_below (rg_ HO_210001 BK248) hb); have n3_ := am_ (Kd.R_below (rg_ HO_216001 BK248) hb); have n4_ := am_ (Kd.R_below (rg_ HO238 BK248) hb); have n5_ := am_ (Kd.R_below (rg_ HO242 BK248) hb); have n6_ := am_ (Kd.R_below (rg_ HO246 BK248) hb); have n7_ := am_ (blk_below (bk_ BK182) hb); have n8_ := am_ (blk_below (bk_ BK183) hb); have n9_ := am_ (blk_below (bk_ BK199) hb); have n10_ := am_ (blk_below (bk_ BK204) hb); have n11_ := am_ (blk_below (bk_ BK209) hb); have n12_ := am_ (blk_below (bk_ BK215) hb); have n13_ := am_ (blk_below (g := gb248) (o := .cells #[.int .i64 t243, .slice Ao193 t244.length co193] 28 (0, 0)) (by (with_reducible repeat (first | refine blk_drewN ?_ _ | refine blk_drew ?_ | refine blk_alloc ?_ _)); refine blk_put (cs := #[.int .i64 t243, .slice none 0 0]) ?_ 1 _ rfl; (with_reducible repeat (first | refine blk_drewN ?_ _ | refine blk_drew ?_ | refine blk_alloc ?_ _)); refine blk_put (cs := #[.int .i64 0, .slice none 0 0]) ?_ 0 _ rfl; (with_reducible repeat (first | refine blk_drewN ?_ _ | refine blk_drew ?_ | refine blk_alloc ?_ _)); exact BK248.out) hb); have n14_ := am_ (below_step (bl_ HB) hb); clear HO_200001; clear HO_205001; clear HO_210001; clear HO_216001; clear HO238; clear HO242; clear HO246; clear BK182; clear BK183; clear BK199; clear BK204; clear BK209; clear BK215; clear BK248; clear HB; have HO_200001 := n0_; have HO_205001 := n1_; have HO_210001 := n2_; have HO_216001 := n3_; have HO238 := n4_; have HO242 := n5_; have HO246 := n6_; have BK182 := n7_; have BK183 := n8_; have BK199 := n9_; have BK204 := n10_; have BK209 := n11_; have BK215 := n12_; have BK248 := n13_; have HB := n14_; clear n0_ n1_ n2_ n3_ n4_ n5_ n6_ n7_ n8_ n9_ n10_ n11_ n12_ n13_ n14_; (try clear hb); (try clear hb2); (try clear hk); (try clear hi)))
               go_meet
               case rel => exact ⟨_, (true), (by first | rfl | (simp; done) | (simp [*]; done)), H', ⟨by have := HJ24.out; have := HJ107.out; first | omega | exact Nat.le_refl _⟩, ⟨by (try simp only [hl205001_107]); (try simp only [hl210001_107]); (with_reducible repeat (first | apply Kd.R_alloc | apply Kd.R_drewN | apply Kd.R_drew)); exact Kd.R_mono HO_200001.out (fun _ hk => ⟨hk.2.2.2.1, ⟨hk.2.2.2.2.1, ⟨hk.2.2.2.2.2, hk.2.2.1⟩⟩⟩)⟩, ⟨by (try simp only [hl205001_107]); (try simp only [hl210001_107]); (with_reducible repeat (first | apply Kd.R_alloc | apply Kd.R_drewN | apply Kd.R_drew)); exact Kd.R_mono HO_205001.out (fun _ hk => ⟨hk.2.2.2.1, ⟨hk.2.2.2.2.1, ⟨hk.2.2.2.2.2, hk.2.2.1⟩⟩⟩)⟩, ⟨by (try simp only [hl205001_107]); (try simp only [hl210001_107]); (with_reducible repeat (first | apply Kd.R_alloc | apply Kd.R_drewN | apply Kd.R_drew)); exact Kd.R_mono HO_210001.out (fun _ hk => ⟨hk.2.2.2.1, ⟨hk.2.2.2.2.1, ⟨hk.2.2.2.2.2, hk.2.2.1⟩⟩⟩)⟩, ⟨by (try simp only [hl205001_107]); (try simp only [hl210001_107]); (with_reducible repeat (first | apply Kd.R_alloc | apply Kd.R_drewN | apply Kd.R_drew)); exact Kd.R_mono HO_216001.out (fun _ hk => ⟨hk.2.2.2.1, ⟨hk.2.2.2.2.1, ⟨hk.2.2.2.2.2, hk.2.2.1⟩⟩⟩)⟩, ⟨by (try simp only [hl205001_107]); (try simp only [hl210001_107]); (with_reducible repeat (first | apply Kd.R_alloc | apply Kd.R_drewN | apply Kd.R_drew)); exact Kd.R_mono HO246.out (fun _ hk => ⟨hk.2.2.1, ⟨hk.2.2.2.1, ⟨hk.2.2.2.2.1, hk.2.2.2.2.2⟩⟩⟩)⟩, ⟨by (try simp only [hl205001_107]); (try simp only [hl210001_107]); (with_reducible repeat (first | refine blk_drewN ?_ _ | refine blk_drew ?_ | refine blk_alloc ?_ _)); exact BK182.out⟩, ⟨by (try simp only [hl205001_107]); (try simp only [hl210001_107]); (with_reducible repeat (first | refine blk_drewN ?_ _ | refine blk_drew ?_ | refine blk_alloc ?_ _)); exact BK183.out⟩, ⟨by (try simp only [hl205001_107]); (try simp only [hl210001_107]); (with_reducible repeat (first | refine blk_drewN ?_ _ | refine blk_drew ?_ | refine blk_alloc ?_ _)); exact BK199.out⟩, ⟨by (try simp only [hl205001_107]); (try simp only [hl210001_107]); (with_reducible repeat (first | refine blk_drewN ?_ _ | refine blk_drew ?_ | refine blk_alloc ?_ _)); exact BK204.out⟩, ⟨by (try simp only [hl205001_107]); (try simp only [hl210001_107]); (with_reducible repeat (first | refine blk_drewN ?_ _ | refine blk_drew ?_ | refine blk_alloc ?_ _)); exact BK209.out⟩, ⟨by (try simp only [hl205001_107]); (try simp only [hl210001_107]); (with_reducible repeat (first | refine blk_drewN ?_ _ | refine blk_drew ?_ | refine blk_alloc ?_ _)); exact BK215.out⟩, ⟨by (try simp only [hl205001_107]); (try simp only [hl210001_107]); (with_reducible repeat (first | refine blk_drewN ?_ _ | refine blk_drew ?_ | refine blk_alloc ?_ _)); exact BK248.out⟩, ⟨bl_ HB⟩⟩
             case rest =>
              clear HC174; try clear c1; try clear c2; try clear p2; try clear c3; try clear c19; try clear c20; try clear c21; try clear c22; try clear c32; try clear c196; try clear c197; try clear c198; try clear c199; try clear c200; try clear c201; try clear c202; try clear c204; try clear c205; try clear c206; try clear c207; try clear c208; try clear c211; try clear c212; try clear c213; try clear c214; try clear c215; try clear c216; try clear c218; try clear c219; try clear c220; try clear c221; try clear c222; try clear hcz203_0; try clear hcz203_1; try clear hcz209_0; try clear hcz209_1; try clear hcz217_0; try clear hcz217_1; try clear hcz223_0; try clear hcz223_1; try clear hfz203_0; try clear hfz203_1; try clear hfz209_0; try clear hfz209_1; try clear hfz217_0; try clear hfz217_1; try clear hfz223_0; try clear hfz223_1
              obtain ⟨kq, x110_173, rfl, HA, HJ173, HO_200001, HO_205001, HO_210001, HO_216001, HO_249001, BK182, BK183, BK199, BK204, BK209, BK215, BK248, HB⟩ := hcut
              have hl216001_173 := (Kd.R_reads' HO_216001.out).1
              rw [hl216001_173] at HO_216001
              (try simp only [hl216001_173])
              (try simp only [hl216001_173] at BK182)
              (try simp only [hl216001_173] at BK183)
              (try simp only [hl216001_173] at BK199)
              (try simp only [hl216001_173] at BK204)
              (try simp only [hl216001_173] at BK209)
              (try simp only [hl216001_173] at BK215)
              (try simp only [hl216001_173] at BK248)
              (try simp only [hl216001_173] at HO_200001)
              (try simp only [hl216001_173] at HO_205001)
              (try simp only [hl216001_173] at HO_210001)
              (try simp only [hl216001_173] at HO_249001)
              cases kq with
              | zero => exact absurd HA.out (by simp [laws_FnExactMultiplyWholes.j2])
              | succ kj173 =>
               have H := HA.out; clear HA
               simp only [laws_FnExactMultiplyWholes.j2] at H
               by_cases c225 : x110_173 = true
               ·subst c225
                have H1 : (some false) = some r := by rw [if_pos rfl] at H; exact H
                clear H; have H := H1; clear H1; obtain rfl := Option.some.inj H
                go_wp2
                go_ret
                exact ⟨by first | rfl | (simp [errW_none, errW_some] <;> rfl) | (simp [*, errW_none, errW_some] <;> rfl), bl_ HB⟩
               ·replace c225 := Bool.eq_false_iff.mpr c225
                subst c225
                have H1 : ((laws_heldWhole.f kj173 t210 t233 1).bind fun t250 => (if t250 < 0 then (some false) else (if t250 = t232 then (some true) else (some false)))) = some r := by rw [if_neg (show ¬ (false = true) by decide)] at H; exact H
                clear H; have H := H1; clear H1
                replace H := Option.bind_eq_some_iff.mp H
                obtain ⟨t250, A2260, H⟩ := H
                replace H : (if t250 < 0 then (some false) else (if t250 = t232 then (some true) else (some false))) = some r := H
                have A226 := Aside0.mk A2260; clear A2260
                by_cases c227 : t250 < 0
                ·rw [if_pos c227] at H
                 have c227b0 : decide (t250 < 0) = true := decide_eq_true c227
                 clear c227; obtain rfl := Option.some.inj H; have hnb228 := NB215_182.out; have hnc228 := NB182_215.out; have hnb229 := NB215_183.out; have hnc229 := NB183_215.out; have hnb230 := NB215_199.out; have hnc230 := NB199_215.out; have hnb231 := NB215_204.out; have hnc231 := NB204_215.out; have hnb232 := NB215_209.out; have hnc232 := NB209_215.out; have hnb233 := NB215_248.out; have hnc233 := NB248_215.out
                 have hcz234_0 : wc.cell? ⟨gb215, 0, none⟩ = some (.int .i64 t210) := (blk_cell BK215.out 0).trans rfl
                 have hcz234_1 : wc.cell? ⟨gb215, 1, none⟩ = some (.slice Ao72 t233.length co72) := (blk_cell BK215.out 1).trans rfl
                 have hfz234_0 := blk_frozen BK215.out 0; have hfz234_1 := blk_frozen BK215.out 1
                 go_wp2_with (first | ((with_reducible refine gate_callee (f := 26) rfl ?_); refine goesL_ (some 113) rfl rfl Tryd.func26 (by kernel_rfl) rfl #[.agg #[.int .i64 t210, .slice Ao72 t233.length co72], .int .i64 1] rfl ma_ ?_; (with_reducible refine (laws_heldWhole.calls kj173 t210 _ _ t233 1 t250 _ ?side1 ?side2 A226.out).mono ?_); (case side1 => repeat (first | exact (Kd.R_reads' HO_216001.out).2.2 | (with_reducible refine Kd.C_alloc ?_ _) | (with_reducible refine Kd.C_drewN ?_ _) | (with_reducible refine Kd.C_drew ?_))); (case side2 => exact (Kd.R_reads' HO_216001.out).2.1); rintro e w235 ⟨rfl, hb⟩; refine ⟨_, rfl, ?_⟩; have n0_ := am_ (Kd.R_below (kr_ HO_200001) hb); have n1_ := am_ (Kd.R_below (kr_ HO_205001) hb); have n2_ := am_ (Kd.R_below (kr_ HO_210001) hb); have n3_ := am_ (Kd.R_below (kr_ HO_216001) hb); have n4_ := am_ (Kd.R_below (kr_ HO_249001) hb); have n5_ := am_ (blk_below (bk_ BK182) hb); have n6_ := am_ (blk_below (bk_ BK183) hb); have n7_ := am_ (blk_below (bk_ BK199) hb); have n8_ := am_ (blk_below (bk_ BK204) hb); have n9_ := am_ (blk_below (bk_ BK209) hb); have n10_ := am_ (blk_below (bk_ BK215) hb); have n11_ := am_ (blk_below (bk_ BK248) hb); have n12_ := am_ (below_step (bl_ HB) hb); clear HO_200001; clear HO_205001; clear HO_210001; clear HO_216001; clear HO_249001; clear BK182; clear BK183; clear BK199; clear BK204; clear BK209; clear BK215; clear BK248; clear HB; have HO_200001 := n0_; have HO_205001 := n1_; have HO_210001 := n2_; have HO_216001 := n3_; have HO_249001 := n4_; have BK182 := n5_; have BK183 := n6_; have BK199 := n7_; have BK204 := n8_; have BK209 := n9_; have BK215 := n10_; have BK248 := n11_; have HB := n12_; clear n0_ n1_ n2_ n3_ n4_ n5_ n6_ n7_ n8_ n9_ n10_ n11_ n12_; (try clear hb); (try clear hb2); (try clear hk); (try clear hi)))
                 go_ret
                 exact ⟨by first | rfl | (simp [errW_none, errW_some] <;> rfl) | (simp [*, errW_none, errW_some] <;> rfl), bl_ HB⟩
                ·rw [if_neg c227] at H
                 have c227b0 : decide (t250 < 0) = false := decide_eq_false c227
                 clear c227
                 by_cases c236 : t250 = t232
                 ·rw [if_pos c236] at H
                  have c236b0 : (t250 == t232) = true := beq_iff_eq.mpr c236
                  have c236b1 : (t250 != t232) = false := bne_eq_false_iff_eq.mpr c236
                  clear c236; obtain rfl := Option.some.inj H; have hnb237 := NB215_182.out; have hnc237 := NB182_215.out; have hnb238 := NB215_183.out; have hnc238 := NB183_215.out; have hnb239 := NB215_199.out; have hnc239 := NB199_215.out; have hnb240 := NB215_204.out; have hnc240 := NB204_215.out; have hnb241 := NB215_209.out; have hnc241 := NB209_215.out; have hnb242 := NB215_248.out; have hnc242 := NB248_215.out
                  have hcz243_0 : wc.cell? ⟨gb215, 0, none⟩ = some (.int .i64 t210) := (blk_cell BK215.out 0).trans rfl
                  have hcz243_1 : wc.cell? ⟨gb215, 1, none⟩ = some (.slice Ao72 t233.length co72) := (blk_cell BK215.out 1).trans rfl
                  have hfz243_0 := blk_frozen BK215.out 0; have hfz243_1 := blk_frozen BK215.out 1
                  go_wp2_with (first | ((with_reducible refine gate_callee (f := 26) rfl ?_); refine goesL_ (some 113) rfl rfl Tryd.func26 (by kernel_rfl) rfl #[.agg #[.int .i64 t210, .slice Ao72 t233.length co72], .int .i64 1] rfl ma_ ?_; (with_reducible refine (laws_heldWhole.calls kj173 t210 _ _ t233 1 t250 _ ?side1 ?side2 A226.out).mono ?_); (case side1 => repeat (first | exact (Kd.R_reads' HO_216001.out).2.2 | (with_reducible refine Kd.C_alloc ?_ _) | (with_reducible refine Kd.C_drewN ?_ _) | (with_reducible refine Kd.C_drew ?_))); (case side2 => exact (Kd.R_reads' HO_216001.out).2.1); rintro e w244 ⟨rfl, hb⟩; refine ⟨_, rfl, ?_⟩; have n0_ := am_ (Kd.R_below (kr_ HO_200001) hb); have n1_ := am_ (Kd.R_below (kr_ HO_205001) hb); have n2_ := am_ (Kd.R_below (kr_ HO_210001) hb); have n3_ := am_ (Kd.R_below (kr_ HO_216001) hb); have n4_ := am_ (Kd.R_below (kr_ HO_249001) hb); have n5_ := am_ (blk_below (bk_ BK182) hb); have n6_ := am_ (blk_below (bk_ BK183) hb); have n7_ := am_ (blk_below (bk_ BK199) hb); have n8_ := am_ (blk_below (bk_ BK204) hb); have n9_ := am_ (blk_below (bk_ BK209) hb); have n10_ := am_ (blk_below (bk_ BK215) hb); have n11_ := am_ (blk_below (bk_ BK248) hb); have n12_ := am_ (below_step (bl_ HB) hb); clear HO_200001; clear HO_205001; clear HO_210001; clear HO_216001; clear HO_249001; clear BK182; clear BK183; clear BK199; clear BK204; clear BK209; clear BK215; clear BK248; clear HB; have HO_200001 := n0_; have HO_205001 := n1_; have HO_210001 := n2_; have HO_216001 := n3_; have HO_249001 := n4_; have BK182 := n5_; have BK183 := n6_; have BK199 := n7_; have BK204 := n8_; have BK209 := n9_; have BK215 := n10_; have BK248 := n11_; have HB := n12_; clear n0_ n1_ n2_ n3_ n4_ n5_ n6_ n7_ n8_ n9_ n10_ n11_ n12_; (try clear hb); (try clear hb2); (try clear hk); (try clear hi)))
                  go_ret
                  exact ⟨by first | rfl | (simp [errW_none, errW_some] <;> rfl) | (simp [*, errW_none, errW_some] <;> rfl), bl_ HB⟩
                 ·rw [if_neg c236] at H
                  have c236b0 : (t250 == t232) = false := beq_eq_false_iff_ne.mpr c236
                  have c236b1 : (t250 != t232) = true := bne_iff_ne.mpr c236
                  obtain rfl := Option.some.inj H; have hnb245 := NB215_182.out; have hnc245 := NB182_215.out; have hnb246 := NB215_183.out; have hnc246 := NB183_215.out; have hnb247 := NB215_199.out; have hnc247 := NB199_215.out; have hnb248 := NB215_204.out; have hnc248 := NB204_215.out; have hnb249 := NB215_209.out; have hnc249 := NB209_215.out; have hnb250 := NB215_248.out; have hnc250 := NB248_215.out
                  have hcz251_0 : wc.cell? ⟨gb215, 0, none⟩ = some (.int .i64 t210) := (blk_cell BK215.out 0).trans rfl
                  have hcz251_1 : wc.cell? ⟨gb215, 1, none⟩ = some (.slice Ao72 t233.length co72) := (blk_cell BK215.out 1).trans rfl
                  have hfz251_0 := blk_frozen BK215.out 0; have hfz251_1 := blk_frozen BK215.out 1
                  go_wp2_with (first | ((with_reducible refine gate_callee (f := 26) rfl ?_); refine goesL_ (some 113) rfl rfl Tryd.func26 (by kernel_rfl) rfl #[.agg #[.int .i64 t210, .slice Ao72 t233.length co72], .int .i64 1] rfl ma_ ?_; (with_reducible refine (laws_heldWhole.calls kj173 t210 _ _ t233 1 t250 _ ?side1 ?side2 A226.out).mono ?_); (case side1 => repeat (first | exact (Kd.R_reads' HO_216001.out).2.2 | (with_reducible refine Kd.C_alloc ?_ _) | (with_reducible refine Kd.C_drewN ?_ _) | (with_reducible refine Kd.C_drew ?_))); (case side2 => exact (Kd.R_reads' HO_216001.out).2.1); rintro e w252 ⟨rfl, hb⟩; refine ⟨_, rfl, ?_⟩; have n0_ := am_ (Kd.R_below (kr_ HO_200001) hb); have n1_ := am_ (Kd.R_below (kr_ HO_205001) hb); have n2_ := am_ (Kd.R_below (kr_ HO_210001) hb); have n3_ := am_ (Kd.R_below (kr_ HO_216001) hb); have n4_ := am_ (Kd.R_below (kr_ HO_249001) hb); have n5_ := am_ (blk_below (bk_ BK182) hb); have n6_ := am_ (blk_below (bk_ BK183) hb); have n7_ := am_ (blk_below (bk_ BK199) hb); have n8_ := am_ (blk_below (bk_ BK204) hb); have n9_ := am_ (blk_below (bk_ BK209) hb); have n10_ := am_ (blk_below (bk_ BK215) hb); have n11_ := am_ (blk_below (bk_ BK248) hb); have n12_ := am_ (below_step (bl_ HB) hb); clear HO_200001; clear HO_205001; clear HO_210001; clear HO_216001; clear HO_249001; clear BK182; clear BK183; clear BK199; clear BK204; clear BK209; clear BK215; clear BK248; clear HB; have HO_200001 := n0_; have HO_205001 := n1_; have HO_210001 := n2_; have HO_216001 := n3_; have HO_249001 := n4_; have BK182 := n5_; have BK183 := n6_; have BK199 := n7_; have BK204 := n8_; have BK209 := n9_; have BK215 := n10_; have BK248 := n11_; have HB := n12_; clear n0_ n1_ n2_ n3_ n4_ n5_ n6_ n7_ n8_ n9_ n10_ n11_ n12_; (try clear hb); (try clear hb2); (try clear hk); (try clear hi)))
                  go_ret
                  exact ⟨by first | rfl | (simp [errW_none, errW_some] <;> rfl) | (simp [*, errW_none, errW_some] <;> rfl), bl_ HB⟩
            ·rw [if_neg c170] at H
             have c170b0 : (t234 == t232) = false := beq_eq_false_iff_ne.mpr c170
             have c170b1 : (t234 != t232) = true := bne_iff_ne.mpr c170
             obtain rfl := Option.some.inj H; have hnb253 := NB215_182.out; have hnc253 := NB182_215.out; have hnb254 := NB215_183.out; have hnc254 := NB183_215.out; have hnb255 := NB215_199.out; have hnc255 := NB199_215.out; have hnb256 := NB215_204.out; have hnc256 := NB204_215.out; have hnb257 := NB215_209.out; have hnc257 := NB209_215.out
             have hcz258_0 : wc.cell? ⟨gb215, 0, none⟩ = some (.int .i64 t210) := (blk_cell BK215.out 0).trans rfl
             have hcz258_1 : wc.cell? ⟨gb215, 1, none⟩ = some (.slice Ao72 t211.length co72) := (blk_cell BK215.out 1).trans rfl
             have hfz258_0 := blk_frozen BK215.out 0; have hfz258_1 := blk_frozen BK215.out 1
             go_wp2_with (first | ((with_reducible refine gate_callee (f := 25) rfl ?_); refine goesL_ (some 85) rfl rfl Tryd.func25 (by kernel_rfl) rfl #[.agg #[.int .i64 t210, .slice Ao72 t211.length co72], .int .i64 1] rfl ma_ ?_; (with_reducible refine (laws_markWhole.calls kj107 t210 (fun k_ => some k_ = (.slice Ao72 t211.length co72 : Value).ownBlock) (.slice Ao72 t211.length co72) t211 1 t232 t233 w _ ?side1 ?side2 A158.out).mono ?_); (case side1 => repeat (first | (with_reducible first | exact HB.out | apply below_alloc | apply pw_below_drewN | apply below_drew1 | refine below_set ?_ GE182.out | refine below_set ?_ GE183.out | refine below_set ?_ GE199.out | refine below_set ?_ GE204.out | refine below_set ?_ GE209.out | refine below_set ?_ GE215.out) | exact HB.out)); (case side2 => exact Kd.R_tight rfl HO_216001.out); rintro e w259 ⟨rfl, hy0, hb, hkp⟩; refine ⟨_, rfl, ?_⟩; have n0_ := am_ (Kd.R_mono (ok' := fun k_ => some k_ ≠ (.slice Ao52 t228.length co52 : Value).ownBlock ∧ some k_ ≠ (.slice Ao62 t230.length co62 : Value).ownBlock ∧ some k_ ≠ (.slice Ao72 t211.length co72 : Value).ownBlock) (Kd.R_keptB (HO_200001.out) hkp (fun k_ hk_ hs_ => (hk_.2.2) hs_)) (fun k_ hk_ => ⟨hk_.1.1, hk_.1.2.1, hk_.1.2.2⟩)); have n1_ := am_ (Kd.R_mono (ok' := fun k_ => some k_ ≠ (.slice Ao42 t195.length co42 : Value).ownBlock ∧ some k_ ≠ (.slice Ao62 t230.length co62 : Value).ownBlock ∧ some k_ ≠ (.slice Ao72 t211.length co72 : Value).ownBlock) (Kd.R_keptB (HO_205001.out) hkp (fun k_ hk_ hs_ => (hk_.2.2) hs_)) (fun k_ hk_ => ⟨hk_.1.1, hk_.1.2.1, hk_.1.2.2⟩)); have n2_ := am_ (Kd.R_mono (ok' := fun k_ => some k_ ≠ (.slice Ao42 t195.length co42 : Value).ownBlock ∧ some k_ ≠ (.slice Ao52 t228.length co52 : Value).ownBlock ∧ some k_ ≠ (.slice Ao72 t211.length co72 : Value).ownBlock) (Kd.R_keptB (HO_210001.out) hkp (fun k_ hk_ hs_ => (hk_.2.2) hs_)) (fun k_ hk_ => ⟨hk_.1.1, hk_.1.2.1, hk_.1.2.2⟩)); have n3_ := am_ (Kd.R_reok rfl hy0 (fun k_ e_ => HO_216001.out.1 k_ e_)); have n4_ := am_ (blk_kept (bk_ BK182) hkp (fun hs_ => (fun e_ => (Kd.R_ne HO_216001.out BK182.out (by decide)) e_) hs_)); have n5_ := am_ (blk_kept (bk_ BK183) hkp (fun hs_ => (fun e_ => (Kd.R_ne HO_216001.out BK183.out (by decide)) e_) hs_)); have n6_ := am_ (blk_kept (bk_ BK199) hkp (fun hs_ => (fun e_ => (Kd.R_ne HO_216001.out BK199.out (by decide)) e_) hs_)); have n7_ := am_ (blk_kept (bk_ BK204) hkp (fun hs_ => (fun e_ => (Kd.R_ne HO_216001.out BK204.out (by decide)) e_) hs_)); have n8_ := am_ (blk_kept (bk_ BK209) hkp (fun hs_ => (fun e_ => (Kd.R_ne HO_216001.out BK209.out (by decide)) e_) hs_)); have n9_ := am_ (blk_kept (bk_ BK215) hkp (fun hs_ => (fun e_ => (Kd.R_ne HO_216001.out BK215.out (by decide)) e_) hs_)); have n10_ := am_ (hb); clear HO_200001; clear HO_205001; clear HO_210001; clear HO_216001; clear BK182; clear BK183; clear BK199; clear BK204; clear BK209; clear BK215; clear HB; have HO_200001 := n0_; have HO_205001 := n1_; have HO_210001 := n2_; have HO_216001 := n3_; have BK182 := n4_; have BK183 := n5_; have BK199 := n6_; have BK204 := n7_; have BK209 := n8_; have BK215 := n9_; have HB := n10_; clear n0_ n1_ n2_ n3_ n4_ n5_ n6_ n7_ n8_ n9_ n10_; (try clear hb); (try clear hkp); (try clear hy0); have hcz260_0 : w259.cell? ⟨gb215, 0, none⟩ = some (.int .i64 t210) := (blk_cell BK215.out 0).trans rfl; have hcz260_1 : w259.cell? ⟨gb215, 1, none⟩ = some (.slice Ao72 t211.length co72) := (blk_cell BK215.out 1).trans rfl; have hfz260_0 := blk_frozen BK215.out 0; have hfz260_1 := blk_frozen BK215.out 1) | ((with_reducible refine gate_callee (f := 26) rfl ?_); refine goesL_ (some 88) rfl rfl Tryd.func26 (by kernel_rfl) rfl #[.agg #[.int .i64 t210, .slice Ao72 t233.length co72], .int .i64 1] rfl (by (try simp only [List.map_toArray, List.map_cons, List.map_nil]); first | done | (rw [show t233.length = t211.length from (Kd.R_reads' HO_216001.out).1.symm] <;> rfl) | rfl | (simp only [List.length_drop, List.length_take]; rfl)) ?_; (with_reducible refine (laws_heldWhole.calls kj107 t210 _ _ t233 1 t234 _ ?side1 ?side2 A159.out).mono ?_); (case side1 => repeat (first | exact (Kd.R_reads' HO_216001.out).2.2 | (with_reducible refine Kd.C_alloc ?_ _) | (with_reducible refine Kd.C_drewN ?_ _) | (with_reducible refine Kd.C_drew ?_))); (case side2 => rw [show t233.length = t211.length from (Kd.R_reads' HO_216001.out).1.symm]; exact (Kd.R_reads' HO_216001.out).2.1); rintro e w261 ⟨rfl, hb⟩; refine ⟨_, rfl, ?_⟩; have n0_ := am_ (Kd.R_below (kr_ HO_200001) hb); have n1_ := am_ (Kd.R_below (kr_ HO_205001) hb); have n2_ := am_ (Kd.R_below (kr_ HO_210001) hb); have n3_ := am_ (Kd.R_below (kr_ HO_216001) hb); have n4_ := am_ (blk_below (bk_ BK182) hb); have n5_ := am_ (blk_below (bk_ BK183) hb); have n6_ := am_ (blk_below (bk_ BK199) hb); have n7_ := am_ (blk_below (bk_ BK204) hb); have n8_ := am_ (blk_below (bk_ BK209) hb); have n9_ := am_ (blk_below (bk_ BK215) hb); have n10_ := am_ (below_step (bl_ HB) hb); clear HO_200001; clear HO_205001; clear HO_210001; clear HO_216001; clear BK182; clear BK183; clear BK199; clear BK204; clear BK209; clear BK215; clear HB; have HO_200001 := n0_; have HO_205001 := n1_; have HO_210001 := n2_; have HO_216001 := n3_; have BK182 := n4_; have BK183 := n5_; have BK199 := n6_; have BK204 := n7_; have BK209 := n8_; have BK215 := n9_; have HB := n10_; clear n0_ n1_ n2_ n3_ n4_ n5_ n6_ n7_ n8_ n9_ n10_; (try clear hb); (try clear hb2); (try clear hk); (try clear hi)))
             go_ret
             exact ⟨by first | rfl | (simp [errW_none, errW_some] <;> rfl) | (simp [*, errW_none, errW_some] <;> rfl), bl_ HB⟩
       ·replace c105 := Bool.eq_false_iff.mpr c105
        subst c105
        have H1 : (some false) = some r := by rw [if_neg (show ¬ (false = true) by decide)] at H; exact H
        clear H; have H := H1; clear H1; obtain rfl := Option.some.inj H
        try go_wp2
        have n0_ := am_ (Kd.R_drew HO_200001.out); have n1_ := am_ (Kd.R_drew HO_205001.out); have n2_ := am_ (Kd.R_drew HO_210001.out); have n3_ := am_ (Kd.R_drew HO_216001.out); have n4_ := am_ (blk_drew BK182.out); have n5_ := am_ (blk_drew BK183.out); have n6_ := am_ (blk_drew BK199.out); have n7_ := am_ (blk_drew BK204.out); have n8_ := am_ (blk_drew BK209.out); have n9_ := am_ (blk_drew BK215.out); have n10_ := am_ (below_drew1 HB.out); clear HO_200001 HO_205001 HO_210001 HO_216001 BK182 BK183 BK199 BK204 BK209 BK215 HB; have HO_200001 := n0_; have HO_205001 := n1_; have HO_210001 := n2_; have HO_216001 := n3_; have BK182 := n4_; have BK183 := n5_; have BK199 := n6_; have BK204 := n7_; have BK209 := n8_; have BK215 := n9_; have HB := n10_; clear n0_ n1_ n2_ n3_ n4_ n5_ n6_ n7_ n8_ n9_ n10_
        refine start_ (n := 5) (S := fun w' => w'.cell? ⟨gb204, 0, none⟩ = some (.int .i64 t200) ∧ w'.cell? ⟨gb204, 1, none⟩ = some (.slice Ao52 t201.length co52) ∧ w'.cell? ⟨gb182, 0, none⟩ = some (.int .i64 a0_0) ∧ w'.cell? ⟨gb182, 1, none⟩ = some (.slice A0_1 l0_1.length c0_1)) (ds := []) #[false, false, false, false, false] (by kernel_rfl) rfl rfl ⟨(blk_cell BK204.out 0).trans rfl, (blk_cell BK204.out 1).trans rfl, (blk_cell BK182.out 0).trans rfl, (blk_cell BK182.out 1).trans rfl⟩ (fun hHeld => ?_)
        generalize wc.drew = w262 at HO_200001 HO_205001 HO_210001 HO_216001 BK182 BK183 BK199 BK204 BK209 BK215 HB hHeld ⊢
        refine take_ (i := 0) (N := some 54) (v := ?_) (a' := ?_) #[true, false, false, false, false] rfl rfl (by kernel_rfl) (fun _ _ _ h => h) (Or.inl ⟨by rfl, ?_⟩) hHeld ?_ ?_
        rotate_left
        ·rintro w' ⟨s0, s1, s2, s3⟩
         go_simp
         with_reducible rfl
        rotate_left
        ·exact nm_
        refine take_ (i := 1) (N := some 55) (v := ?_) (a' := ?_) #[true, true, false, false, false] rfl rfl (by kernel_rfl) (fun _ _ _ h => h) (Or.inl ⟨by rfl, ?_⟩) hHeld ?_ ?_
        rotate_left
        ·rintro w' ⟨s0, s1, s2, s3⟩
         go_simp
         with_reducible rfl
        rotate_left
        ·exact nm_
        refine one_ (i := 2) (N := some 56) #[true, true, true, false, false] rfl rfl (by kernel_rfl) (by decide) (fun K hK => ?_)
        refine goes_ Tryd.func20 (by kernel_rfl) rfl #[.agg #[.int .i64 a0_0, .slice A0_1 l0_1.length c0_1]] (by rfl) rfl rfl ma_ ?_
        with_reducible refine (laws_toWhole.calls kj24 a0_0 _ _ l0_1 t217 t218 _ ?side1 ?side2 A100.out).mono ?_
        (case side1 => repeat (first | exact (Kd.C_below HR0_1.out HB.out) | (with_reducible refine Kd.C_alloc ?_ _) | (with_reducible refine Kd.C_drewN ?_ _) | (with_reducible refine Kd.C_drew ?_)))
        (case side2 => exact HC0_1.out)
        rintro e w263 ⟨v219, rfl, ho0, hb⟩
        refine ⟨_, rfl, ?_⟩
        have n0_ := am_ (Kd.R_elder' (kr_ HO_200001) (Kd.R_base ho0) hb); have n1_ := am_ (Kd.R_elder' (kr_ HO_205001) (Kd.R_base ho0) hb); have n2_ := am_ (Kd.R_elder' (kr_ HO_210001) (Kd.R_base ho0) hb); have n3_ := am_ (Kd.R_elder' (kr_ HO_216001) (Kd.R_base ho0) hb); have n4_ := am_ (Kd.R_lower (Kd.R_new' (Kd.R_new' (Kd.R_new' (Kd.R_new' ho0 (Kd.R_lt (kr_ HO_200001))) (Kd.R_lt (kr_ HO_205001))) (Kd.R_lt (kr_ HO_210001))) (Kd.R_lt (kr_ HO_216001))) (below_size (bl_ HB))); have n5_ := am_ (blk_below (bk_ BK182) hb); have n6_ := am_ (blk_below (bk_ BK183) hb); have n7_ := am_ (blk_below (bk_ BK199) hb); have n8_ := am_ (blk_below (bk_ BK204) hb); have n9_ := am_ (blk_below (bk_ BK209) hb); have n10_ := am_ (blk_below (bk_ BK215) hb); have n11_ := am_ (below_step (bl_ HB) hb); clear HO_200001 HO_205001 HO_210001 HO_216001 BK182 BK183 BK199 BK204 BK209 BK215 HB; have HO_200001 := n0_; have HO_205001 := n1_; have HO_210001 := n2_; have HO_216001 := n3_; have HO220 := n4_; have BK182 := n5_; have BK183 := n6_; have BK199 := n7_; have BK204 := n8_; have BK209 := n9_; have BK215 := n10_; have HB := n11_; clear n0_ n1_ n2_ n3_ n4_ n5_ n6_ n7_ n8_ n9_ n10_ n11_; (try clear hb); (try clear hb2); (try clear hk); (try clear hi); (try clear ho0)
        obtain ⟨Ao264, co264, eo264⟩ := Kd.R_slice HO220.out
        (first | subst eo264 | (injection eo264 with f1_ f2_ f3_; have f4_ := f1_.symm; have f5_ := f3_.symm; clear f1_ f2_ f3_; subst f4_; subst f5_))
        refine hK.out _ _ ⟨(blk_cell BK204.out 0).trans rfl, (blk_cell BK204.out 1).trans rfl, (blk_cell BK182.out 0).trans rfl, (blk_cell BK182.out 1).trans rfl⟩ (fun hHeld => ?_)
        clear hK K
        refine norm_ (a' := ?_) ?_ ?_
        rotate_left
        ·show Act.put _ (some 56) _ = _
         exact nm_
        refine one_ (i := 3) (N := some 57) #[true, true, true, true, false] rfl rfl (by kernel_rfl) (by decide) (fun K hK => ?_)
        refine goes_ Tryd.func22 (by kernel_rfl) rfl #[.agg #[.int .i64 t200, .slice Ao52 t201.length co52], .agg #[.int .i64 t217, .slice Ao264 t218.length co264]] (by rfl) rfl rfl ma_ ?_
        with_reducible refine (laws_eqWhole.calls kj24 t200 _ _ t201 t217 _ _ t218 true _ ?side1 ?side2 ?side3 ?side4 A101.out).mono ?_
        (case side1 => repeat (first | exact (Kd.R_reads' HO_205001.out).2.2 | (with_reducible refine Kd.C_alloc ?_ _) | (with_reducible refine Kd.C_drewN ?_ _) | (with_reducible refine Kd.C_drew ?_)))
        (case side2 => exact (Kd.R_reads' HO_205001.out).2.1)
        (case side3 => repeat (first | exact (Kd.R_reads' HO220.out).2.2 | (with_reducible refine Kd.C_alloc ?_ _) | (with_reducible refine Kd.C_drewN ?_ _) | (with_reducible refine Kd.C_drew ?_)))
        (case side4 => exact (Kd.R_reads' HO220.out).2.1)
        rintro e w265 ⟨rfl, hb⟩
        refine ⟨_, rfl, ?_⟩
        have n0_ := am_ (Kd.R_below (kr_ HO_200001) hb); have n1_ := am_ (Kd.R_below (kr_ HO_205001) hb); have n2_ := am_ (Kd.R_below (kr_ HO_210001) hb); have n3_ := am_ (Kd.R_below (kr_ HO_216001) hb); have n4_ := am_ (Kd.R_below (kr_ HO220) hb); have n5_ := am_ (blk_below (bk_ BK182) hb); have n6_ := am_ (blk_below (bk_ BK183) hb); have n7_ := am_ (blk_below (bk_ BK199) hb); have n8_ := am_ (blk_below (bk_ BK204) hb); have n9_ := am_ (blk_below (bk_ BK209) hb); have n10_ := am_ (blk_below (bk_ BK215) hb); have n11_ := am_ (below_step (bl_ HB) hb); clear HO_200001 HO_205001 HO_210001 HO_216001 HO220 BK182 BK183 BK199 BK204 BK209 BK215 HB; have HO_200001 := n0_; have HO_205001 := n1_; have HO_210001 := n2_; have HO_216001 := n3_; have HO220 := n4_; have BK182 := n5_; have BK183 := n6_; have BK199 := n7_; have BK204 := n8_; have BK209 := n9_; have BK215 := n10_; have HB := n11_; clear n0_ n1_ n2_ n3_ n4_ n5_ n6_ n7_ n8_ n9_ n10_ n11_; (try clear hb); (try clear hb2); (try clear hk); (try clear hi)
        refine hK.out _ _ ⟨(blk_cell BK204.out 0).trans rfl, (blk_cell BK204.out 1).trans rfl, (blk_cell BK182.out 0).trans rfl, (blk_cell BK182.out 1).trans rfl⟩ (fun hHeld => ?_)
        clear hK K
        refine norm_ (a' := ?_) ?_ ?_
        rotate_left
        ·show Act.put _ (some 57) _ = _
         exact nm_
        refine pure_ (i := 4) (N := some 58) (v := ?_) (a' := ?_) #[true, true, true, true, true] rfl rfl (by kernel_rfl) (fun _ _ _ h => h) (Or.inl ⟨by rfl, ?_⟩) ?_ ?_
        rotate_left
        ·intro w'
         go_simp
         with_reducible rfl
        rotate_left
        ·exact nm_
        refine done_ (by kernel_rfl) ?_
        try go_wp2
        have n0_ := am_ (Kd.R_drew HO_200001.out); have n1_ := am_ (Kd.R_drew HO_205001.out); have n2_ := am_ (Kd.R_drew HO_210001.out); have n3_ := am_ (Kd.R_drew HO_216001.out); have n4_ := am_ (Kd.R_drew HO220.out); have n5_ := am_ (blk_drew BK182.out); have n6_ := am_ (blk_drew BK183.out); have n7_ := am_ (blk_drew BK199.out); have n8_ := am_ (blk_drew BK204.out); have n9_ := am_ (blk_drew BK209.out); have n10_ := am_ (blk_drew BK215.out); have n11_ := am_ (below_drew1 HB.out); clear HO_200001 HO_205001 HO_210001 HO_216001 HO220 BK182 BK183 BK199 BK204 BK209 BK215 HB; have HO_200001 := n0_; have HO_205001 := n1_; have HO_210001 := n2_; have HO_216001 := n3_; have HO220 := n4_; have BK182 := n5_; have BK183 := n6_; have BK199 := n7_; have BK204 := n8_; have BK209 := n9_; have BK215 := n10_; have HB := n11_; clear n0_ n1_ n2_ n3_ n4_ n5_ n6_ n7_ n8_ n9_ n10_ n11_
        refine start_ (n := 5) (S := fun w' => w'.cell? ⟨gb209, 0, none⟩ = some (.int .i64 t205) ∧ w'.cell? ⟨gb209, 1, none⟩ = some (.slice Ao62 t206.length co62) ∧ w'.cell? ⟨gb183, 0, none⟩ = some (.int .i64 a1_0) ∧ w'.cell? ⟨gb183, 1, none⟩ = some (.slice A1_1 l1_1.length c1_1)) (ds := []) #[false, false, false, false, false] (by kernel_rfl) rfl rfl ⟨(blk_cell BK209.out 0).trans rfl, (blk_cell BK209.out 1).trans rfl, (blk_cell BK183.out 0).trans rfl, (blk_cell BK183.out 1).trans rfl⟩ (fun hHeld => ?_)
        generalize w265.drew = w266 at HO_200001 HO_205001 HO_210001 HO_216001 HO220 BK182 BK183 BK199 BK204 BK209 BK215 HB hHeld ⊢
        refine take_ (i := 0) (N := some 59) (v := ?_) (a' := ?_) #[true, false, false, false, false] rfl rfl (by kernel_rfl) (fun _ _ _ h => h) (Or.inl ⟨by rfl, ?_⟩) hHeld ?_ ?_
        rotate_left
        ·rintro w' ⟨s0, s1, s2, s3⟩
         go_simp
         with_reducible rfl
        rotate_left
        ·exact nm_
        refine take_ (i := 1) (N := some 60) (v := ?_) (a' := ?_) #[true, true, false, false, false] rfl rfl (by kernel_rfl) (fun _ _ _ h => h) (Or.inl ⟨by rfl, ?_⟩) hHeld ?_ ?_
        rotate_left
        ·rintro w' ⟨s0, s1, s2, s3⟩
         go_simp
         with_reducible rfl
        rotate_left
        ·exact nm_
        refine one_ (i := 2) (N := some 61) #[true, true, true, false, false] rfl rfl (by kernel_rfl) (by decide) (fun K hK => ?_)
        refine goes_ Tryd.func20 (by kernel_rfl) rfl #[.agg #[.int .i64 a1_0, .slice A1_1 l1_1.length c1_1]] (by rfl) rfl rfl ma_ ?_
        with_reducible refine (laws_toWhole.calls kj24 a1_0 _ _ l1_1 t222 t223 _ ?side1 ?side2 A103.out).mono ?_
        (case side1 => repeat (first | exact (Kd.C_below HR1_1.out HB.out) | (with_reducible refine Kd.C_alloc ?_ _) | (with_reducible refine Kd.C_drewN ?_ _) | (with_reducible refine Kd.C_drew ?_)))
        (case side2 => exact HC1_1.out)
        rintro e w267 ⟨v224, rfl, ho0, hb⟩
        refine ⟨_, rfl, ?_⟩
        have n0_ := am_ (Kd.R_elder' (kr_ HO_200001) (Kd.R_base ho0) hb); have n1_ := am_ (Kd.R_elder' (kr_ HO_205001) (Kd.R_base ho0) hb); have n2_ := am_ (Kd.R_elder' (kr_ HO_210001) (Kd.R_base ho0) hb); have n3_ := am_ (Kd.R_elder' (kr_ HO_216001) (Kd.R_base ho0) hb); have n4_ := am_ (Kd.R_elder' (kr_ HO220) (Kd.R_base ho0) hb); have n5_ := am_ (Kd.R_lower (Kd.R_new' (Kd.R_new' (Kd.R_new' (Kd.R_new' (Kd.R_new' ho0 (Kd.R_lt (kr_ HO_200001))) (Kd.R_lt (kr_ HO_205001))) (Kd.R_lt (kr_ HO_210001))) (Kd.R_lt (kr_ HO_216001))) (Kd.R_lt (kr_ HO220))) (below_size (bl_ HB))); have n6_ := am_ (blk_below (bk_ BK182) hb); have n7_ := am_ (blk_below (bk_ BK183) hb); have n8_ := am_ (blk_below (bk_ BK199) hb); have n9_ := am_ (blk_below (bk_ BK204) hb); have n10_ := am_ (blk_below (bk_ BK209) hb); have n11_ := am_ (blk_below (bk_ BK215) hb); have n12_ := am_ (below_step (bl_ HB) hb); clear HO_200001 HO_205001 HO_210001 HO_216001 HO220 BK182 BK183 BK199 BK204 BK209 BK215 HB; have HO_200001 := n0_; have HO_205001 := n1_; have HO_210001 := n2_; have HO_216001 := n3_; have HO220 := n4_; have HO225 := n5_; have BK182 := n6_; have BK183 := n7_; have BK199 := n8_; have BK204 := n9_; have BK209 := n10_; have BK215 := n11_; have HB := n12_; clear n0_ n1_ n2_ n3_ n4_ n5_ n6_ n7_ n8_ n9_ n10_ n11_ n12_; (try clear hb); (try clear hb2); (try clear hk); (try clear hi); (try clear ho0)
        obtain ⟨Ao268, co268, eo268⟩ := Kd.R_slice HO225.out
        (first | subst eo268 | (injection eo268 with f1_ f2_ f3_; have f4_ := f1_.symm; have f5_ := f3_.symm; clear f1_ f2_ f3_; subst f4_; subst f5_))
        refine hK.out _ _ ⟨(blk_cell BK209.out 0).trans rfl, (blk_cell BK209.out 1).trans rfl, (blk_cell BK183.out 0).trans rfl, (blk_cell BK183.out 1).trans rfl⟩ (fun hHeld => ?_)
        clear hK K
        refine norm_ (a' := ?_) ?_ ?_
        rotate_left
        ·show Act.put _ (some 61) _ = _
         exact nm_
        refine one_ (i := 3) (N := some 62) #[true, true, true, true, false] rfl rfl (by kernel_rfl) (by decide) (fun K hK => ?_)
        refine goes_ Tryd.func22 (by kernel_rfl) rfl #[.agg #[.int .i64 t205, .slice Ao62 t206.length co62], .agg #[.int .i64 t222, .slice Ao268 t223.length co268]] (by rfl) rfl rfl ma_ ?_
        with_reducible refine (laws_eqWhole.calls kj24 t205 _ _ t206 t222 _ _ t223 false _ ?side1 ?side2 ?side3 ?side4 A104.out).mono ?_
        (case side1 => repeat (first | exact (Kd.R_reads' HO_210001.out).2.2 | (with_reducible refine Kd.C_alloc ?_ _) | (with_reducible refine Kd.C_drewN ?_ _) | (with_reducible refine Kd.C_drew ?_)))
        (case side2 => exact (Kd.R_reads' HO_210001.out).2.1)
        (case side3 => repeat (first | exact (Kd.R_reads' HO225.out).2.2 | (with_reducible refine Kd.C_alloc ?_ _) | (with_reducible refine Kd.C_drewN ?_ _) | (with_reducible refine Kd.C_drew ?_)))
        (case side4 => exact (Kd.R_reads' HO225.out).2.1)
        rintro e w269 ⟨rfl, hb⟩
        refine ⟨_, rfl, ?_⟩
        have n0_ := am_ (Kd.R_below (kr_ HO_200001) hb); have n1_ := am_ (Kd.R_below (kr_ HO_205001) hb); have n2_ := am_ (Kd.R_below (kr_ HO_210001) hb); have n3_ := am_ (Kd.R_below (kr_ HO_216001) hb); have n4_ := am_ (Kd.R_below (kr_ HO220) hb); have n5_ := am_ (Kd.R_below (kr_ HO225) hb); have n6_ := am_ (blk_below (bk_ BK182) hb); have n7_ := am_ (blk_below (bk_ BK183) hb); have n8_ := am_ (blk_below (bk_ BK199) hb); have n9_ := am_ (blk_below (bk_ BK204) hb); have n10_ := am_ (blk_below (bk_ BK209) hb); have n11_ := am_ (blk_below (bk_ BK215) hb); have n12_ := am_ (below_step (bl_ HB) hb); clear HO_200001 HO_205001 HO_210001 HO_216001 HO220 HO225 BK182 BK183 BK199 BK204 BK209 BK215 HB; have HO_200001 := n0_; have HO_205001 := n1_; have HO_210001 := n2_; have HO_216001 := n3_; have HO220 := n4_; have HO225 := n5_; have BK182 := n6_; have BK183 := n7_; have BK199 := n8_; have BK204 := n9_; have BK209 := n10_; have BK215 := n11_; have HB := n12_; clear n0_ n1_ n2_ n3_ n4_ n5_ n6_ n7_ n8_ n9_ n10_ n11_ n12_; (try clear hb); (try clear hb2); (try clear hk); (try clear hi)
        refine hK.out _ _ ⟨(blk_cell BK209.out 0).trans rfl, (blk_cell BK209.out 1).trans rfl, (blk_cell BK183.out 0).trans rfl, (blk_cell BK183.out 1).trans rfl⟩ (fun hHeld => ?_)
        clear hK K
        refine norm_ (a' := ?_) ?_ ?_
        rotate_left
        ·show Act.put _ (some 62) _ = _
         exact nm_
        refine pure_ (i := 4) (N := some 63) (v := ?_) (a' := ?_) #[true, true, true, true, true] rfl rfl (by kernel_rfl) (fun _ _ _ h => h) (Or.inl ⟨by rfl, ?_⟩) ?_ ?_
        rotate_left
        ·intro w'
         go_simp
         with_reducible rfl
        rotate_left
        ·exact nm_
        refine done_ (by kernel_rfl) ?_
        try go_wp2
        go_ret
        exact ⟨by first | rfl | (simp [errW_none, errW_some] <;> rfl) | (simp [*, errW_none, errW_some] <;> rfl), bl_ HB⟩
      ·replace c102 := Bool.eq_false_iff.mpr c102
       subst c102
       have H1 : (some false) = some r := by rw [if_neg (show ¬ (false = true) by decide)] at H; exact H
       clear H; have H := H1; clear H1; obtain rfl := Option.some.inj H
       try go_wp2
       have n0_ := am_ (Kd.R_drew HO_200001.out); have n1_ := am_ (Kd.R_drew HO_205001.out); have n2_ := am_ (Kd.R_drew HO_210001.out); have n3_ := am_ (Kd.R_drew HO_216001.out); have n4_ := am_ (blk_drew BK182.out); have n5_ := am_ (blk_drew BK183.out); have n6_ := am_ (blk_drew BK199.out); have n7_ := am_ (blk_drew BK204.out); have n8_ := am_ (blk_drew BK209.out); have n9_ := am_ (blk_drew BK215.out); have n10_ := am_ (below_drew1 HB.out); clear HO_200001 HO_205001 HO_210001 HO_216001 BK182 BK183 BK199 BK204 BK209 BK215 HB; have HO_200001 := n0_; have HO_205001 := n1_; have HO_210001 := n2_; have HO_216001 := n3_; have BK182 := n4_; have BK183 := n5_; have BK199 := n6_; have BK204 := n7_; have BK209 := n8_; have BK215 := n9_; have HB := n10_; clear n0_ n1_ n2_ n3_ n4_ n5_ n6_ n7_ n8_ n9_ n10_
       refine start_ (n := 5) (S := fun w' => w'.cell? ⟨gb204, 0, none⟩ = some (.int .i64 t200) ∧ w'.cell? ⟨gb204, 1, none⟩ = some (.slice Ao52 t201.length co52) ∧ w'.cell? ⟨gb182, 0, none⟩ = some (.int .i64 a0_0) ∧ w'.cell? ⟨gb182, 1, none⟩ = some (.slice A0_1 l0_1.length c0_1)) (ds := []) #[false, false, false, false, false] (by kernel_rfl) rfl rfl ⟨(blk_cell BK204.out 0).trans rfl, (blk_cell BK204.out 1).trans rfl, (blk_cell BK182.out 0).trans rfl, (blk_cell BK182.out 1).trans rfl⟩ (fun hHeld => ?_)
       generalize wc.drew = w270 at HO_200001 HO_205001 HO_210001 HO_216001 BK182 BK183 BK199 BK204 BK209 BK215 HB hHeld ⊢
       refine take_ (i := 0) (N := some 54) (v := ?_) (a' := ?_) #[true, false, false, false, false] rfl rfl (by kernel_rfl) (fun _ _ _ h => h) (Or.inl ⟨by rfl, ?_⟩) hHeld ?_ ?_
       rotate_left
       ·rintro w' ⟨s0, s1, s2, s3⟩
        go_simp
        with_reducible rfl
       rotate_left
       ·exact nm_
       refine take_ (i := 1) (N := some 55) (v := ?_) (a' := ?_) #[true, true, false, false, false] rfl rfl (by kernel_rfl) (fun _ _ _ h => h) (Or.inl ⟨by rfl, ?_⟩) hHeld ?_ ?_
       rotate_left
       ·rintro w' ⟨s0, s1, s2, s3⟩
        go_simp
        with_reducible rfl
       rotate_left
       ·exact nm_
       refine one_ (i := 2) (N := some 56) #[true, true, true, false, false] rfl rfl (by kernel_rfl) (by decide) (fun K hK => ?_)
       refine goes_ Tryd.func20 (by kernel_rfl) rfl #[.agg #[.int .i64 a0_0, .slice A0_1 l0_1.length c0_1]] (by rfl) rfl rfl ma_ ?_
       with_reducible refine (laws_toWhole.calls kj24 a0_0 _ _ l0_1 t217 t218 _ ?side1 ?side2 A100.out).mono ?_
       (case side1 => repeat (first | exact (Kd.C_below HR0_1.out HB.out) | (with_reducible refine Kd.C_alloc ?_ _) | (with_reducible refine Kd.C_drewN ?_ _) | (with_reducible refine Kd.C_drew ?_)))
       (case side2 => exact HC0_1.out)
       rintro e w271 ⟨v219, rfl, ho0, hb⟩
       refine ⟨_, rfl, ?_⟩
       have n0_ := am_ (Kd.R_elder' (kr_ HO_200001) (Kd.R_base ho0) hb); have n1_ := am_ (Kd.R_elder' (kr_ HO_205001) (Kd.R_base ho0) hb); have n2_ := am_ (Kd.R_elder' (kr_ HO_210001) (Kd.R_base ho0) hb); have n3_ := am_ (Kd.R_elder' (kr_ HO_216001) (Kd.R_base ho0) hb); have n4_ := am_ (Kd.R_lower (Kd.R_new' (Kd.R_new' (Kd.R_new' (Kd.R_new' ho0 (Kd.R_lt (kr_ HO_200001))) (Kd.R_lt (kr_ HO_205001))) (Kd.R_lt (kr_ HO_210001))) (Kd.R_lt (kr_ HO_216001))) (below_size (bl_ HB))); have n5_ := am_ (blk_below (bk_ BK182) hb); have n6_ := am_ (blk_below (bk_ BK183) hb); have n7_ := am_ (blk_below (bk_ BK199) hb); have n8_ := am_ (blk_below (bk_ BK204) hb); have n9_ := am_ (blk_below (bk_ BK209) hb); have n10_ := am_ (blk_below (bk_ BK215) hb); have n11_ := am_ (below_step (bl_ HB) hb); clear HO_200001 HO_205001 HO_210001 HO_216001 BK182 BK183 BK199 BK204 BK209 BK215 HB; have HO_200001 := n0_; have HO_205001 := n1_; have HO_210001 := n2_; have HO_216001 := n3_; have HO220 := n4_; have BK182 := n5_; have BK183 := n6_; have BK199 := n7_; have BK204 := n8_; have BK209 := n9_; have BK215 := n10_; have HB := n11_; clear n0_ n1_ n2_ n3_ n4_ n5_ n6_ n7_ n8_ n9_ n10_ n11_; (try clear hb); (try clear hb2); (try clear hk); (try clear hi); (try clear ho0)
       obtain ⟨Ao272, co272, eo272⟩ := Kd.R_slice HO220.out
       (first | subst eo272 | (injection eo272 with f1_ f2_ f3_; have f4_ := f1_.symm; have f5_ := f3_.symm; clear f1_ f2_ f3_; subst f4_; subst f5_))
       refine hK.out _ _ ⟨(blk_cell BK204.out 0).trans rfl, (blk_cell BK204.out 1).trans rfl, (blk_cell BK182.out 0).trans rfl, (blk_cell BK182.out 1).trans rfl⟩ (fun hHeld => ?_)
       clear hK K
       refine norm_ (a' := ?_) ?_ ?_
       rotate_left
       ·show Act.put _ (some 56) _ = _
        exact nm_
       refine one_ (i := 3) (N := some 57) #[true, true, true, true, false] rfl rfl (by kernel_rfl) (by decide) (fun K hK => ?_)
       refine goes_ Tryd.func22 (by kernel_rfl) rfl #[.agg #[.int .i64 t200, .slice Ao52 t201.length co52], .agg #[.int .i64 t217, .slice Ao272 t218.length co272]] (by rfl) rfl rfl ma_ ?_
       with_reducible refine (laws_eqWhole.calls kj24 t200 _ _ t201 t217 _ _ t218 false _ ?side1 ?side2 ?side3 ?side4 A101.out).mono ?_
       (case side1 => repeat (first | exact (Kd.R_reads' HO_205001.out).2.2 | (with_reducible refine Kd.C_alloc ?_ _) | (with_reducible refine Kd.C_drewN ?_ _) | (with_reducible refine Kd.C_drew ?_)))
       (case side2 => exact (Kd.R_reads' HO_205001.out).2.1)
       (case side3 => repeat (first | exact (Kd.R_reads' HO220.out).2.2 | (with_reducible refine Kd.C_alloc ?_ _) | (with_reducible refine Kd.C_drewN ?_ _) | (with_reducible refine Kd.C_drew ?_)))
       (case side4 => exact (Kd.R_reads' HO220.out).2.1)
       rintro e w273 ⟨rfl, hb⟩
       refine ⟨_, rfl, ?_⟩
       have n0_ := am_ (Kd.R_below (kr_ HO_200001) hb); have n1_ := am_ (Kd.R_below (kr_ HO_205001) hb); have n2_ := am_ (Kd.R_below (kr_ HO_210001) hb); have n3_ := am_ (Kd.R_below (kr_ HO_216001) hb); have n4_ := am_ (Kd.R_below (kr_ HO220) hb); have n5_ := am_ (blk_below (bk_ BK182) hb); have n6_ := am_ (blk_below (bk_ BK183) hb); have n7_ := am_ (blk_below (bk_ BK199) hb); have n8_ := am_ (blk_below (bk_ BK204) hb); have n9_ := am_ (blk_below (bk_ BK209) hb); have n10_ := am_ (blk_below (bk_ BK215) hb); have n11_ := am_ (below_step (bl_ HB) hb); clear HO_200001 HO_205001 HO_210001 HO_216001 HO220 BK182 BK183 BK199 BK204 BK209 BK215 HB; have HO_200001 := n0_; have HO_205001 := n1_; have HO_210001 := n2_; have HO_216001 := n3_; have HO220 := n4_; have BK182 := n5_; have BK183 := n6_; have BK199 := n7_; have BK204 := n8_; have BK209 := n9_; have BK215 := n10_; have HB := n11_; clear n0_ n1_ n2_ n3_ n4_ n5_ n6_ n7_ n8_ n9_ n10_ n11_; (try clear hb); (try clear hb2); (try clear hk); (try clear hi)
       refine hK.out _ _ ⟨(blk_cell BK204.out 0).trans rfl, (blk_cell BK204.out 1).trans rfl, (blk_cell BK182.out 0).trans rfl, (blk_cell BK182.out 1).trans rfl⟩ (fun hHeld => ?_)
       clear hK K
       refine norm_ (a' := ?_) ?_ ?_
       rotate_left
       ·show Act.put _ (some 57) _ = _
        exact nm_
       refine pure_ (i := 4) (N := some 58) (v := ?_) (a' := ?_) #[true, true, true, true, true] rfl rfl (by kernel_rfl) (fun _ _ _ h => h) (Or.inl ⟨by rfl, ?_⟩) ?_ ?_
       rotate_left
       ·intro w'
        go_simp
        with_reducible rfl
       rotate_left
       ·exact nm_
       refine done_ (by kernel_rfl) ?_
       try go_wp2
       go_ret
       exact ⟨by first | rfl | (simp [errW_none, errW_some] <;> rfl) | (simp [*, errW_none, errW_some] <;> rfl), bl_ HB⟩

end Go.Proofs.YtbmjakaoniegfaaDoor.X
