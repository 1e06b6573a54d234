/- Functions of the program as plain Lean functions, each with a proof that its call does what that function says. Printed by a program over the kit's print; conditions stand in each contract. -/
import Derived.Test.YtbmjakaoniegfaaDoorSq
import Derived.Test.YtbmjakaoniegfaaDoorBnd4
import Derived.Test.YtbmjakaoniegfaaDoorX0
import Derived.Test.YtbmjakaoniegfaaDoorX1
import Derived.Test.YtbmjakaoniegfaaDoorX3
namespace Go.Proofs.YtbmjakaoniegfaaDoor.X
open Go.RowKit Go.Proofs.YtbmjakaoniegfaaDoorW.PrintWords Go.Proofs.YtbmjakaoniegfaaDoorW.PrintLast Go.Proofs.YtbmjakaoniegfaaDoorW.PrintMore Go.Proofs.YtbmjakaoniegfaaDoor.Sq
attribute [local go_sem] max2_int min2_int max_two min_two max_three min_three max_four min_four   -- for this text's walks alone
set_option linter.unusedVariables false
set_option linter.unusedSimpArgs false

/-! ### laws_FnExactAddWholes: function 9 -/
mutual
def laws_FnExactAddWholes.j0 : Nat → Int → Int → Bool → Int → List Int → Int → List Int → Int → List Int → Int → List Int → Int → List Int → Int → List Int → Option (Bool)
  | 0, _, _, _, _, _, _, _, _, _, _, _, _, _, _, _ => none
  | k + 1, x7, x11, x53, x240000, x240001, x241000, x241001, x257000, x257001, x262000, x262001, x267000, x267001, x273000, x273001 => if x53 = true then (some false) else ((laws_toWhole.f k x240000 x240001).bind fun bt274 => ((laws_eqWhole.f k x262000 x262001 bt274.1 bt274.2).bind fun t278 => (if t278 = true then ((laws_toWhole.f k x241000 x241001).bind fun bt279 => ((laws_eqWhole.f k x267000 x267001 bt279.1 bt279.2).bind fun t283 => (if t283 = true then ((laws_markWhole.f k x262000 x262001 1).bind fun bt284 => ((laws_markWhole.f k x267000 x267001 bt284.1).bind fun bt286 => (if bt286.1 < 0 then (laws_FnExactAddWholes.j1 k x7 true x240000 x240001 x241000 x241001 x257000 x257001 x273000 x273001) else ((laws_eqWhole.f k x273000 x273001 x257000 x257001).bind fun t288 => (if t288 = true then (laws_FnExactAddWholes.j1 k x7 (x11 != x7) x240000 x240001 x241000 x241001 x257000 x257001 x273000 x273001) else (laws_FnExactAddWholes.j1 k x7 true x240000 x240001 x241000 x241001 x257000 x257001 x273000 x273001)))))) else (some false)))) else (some false))))
def laws_FnExactAddWholes.j1 : Nat → Int → Bool → Int → List Int → Int → List Int → Int → List Int → Int → List Int → Option (Bool)
  | 0, _, _, _, _, _, _, _, _, _, _ => none
  | k + 1, x7, x82, x240000, x240001, x241000, x241001, x257000, x257001, x273000, x273001 => if x82 = true then (some false) else ((laws_markWhole.f k x273000 x273001 1).bind fun bt289 => ((laws_heldWhole.f k x273000 bt289.2 1).bind fun t291 => (if t291 < 0 then (some false) else (if t291 = bt289.1 then ((laws_toWhole.f k x240000 x240001).bind fun bt292 => ((laws_toWhole.f k x241000 x241001).bind fun bt296 => ((impl_AddWholes.f bt292.1 bt292.2 bt296.1 bt296.2).bind fun bt300 => ((laws_eqWhole.f k bt300.1 bt300.2.1 x257000 x257001).bind fun t306 => (if t306 = true then (laws_FnExactAddWholes.j2 k bt289.1 (bt300.2.2 != x7) x273000 bt289.2) else (laws_FnExactAddWholes.j2 k bt289.1 true x273000 bt289.2)))))) else (some false)))))
def laws_FnExactAddWholes.j2 : Nat → Int → Bool → Int → List Int → Option (Bool)
  | 0, _, _, _, _ => none
  | k + 1, x13, x110, x273000, x273001 => if x110 = true then (some false) else ((laws_heldWhole.f k x273000 x273001 1).bind fun t307 => (if t307 < 0 then (some false) else (if t307 = x13 then (some true) else (some false))))
end
def laws_FnExactAddWholes.f (k : Nat) (a0_0 : Int) (l0_1 : List Int) (a1_0 : Int) (l1_1 : List Int) : Option (Bool) := (laws_szWhole.f a0_0 l0_1 1048576).bind fun t241 => (if t241 < 0 then (some true) else ((laws_szWhole.f a1_0 l1_1 t241).bind fun t242 => (if t242 < 0 then (some true) else ((laws_toWhole.f k a0_0 l0_1).bind fun bt243 => ((laws_toWhole.f k a1_0 l1_1).bind fun bt247 => ((spec_AddWholes.f k bt243.1 bt243.2 bt247.1 bt247.2).bind fun bt251 => ((laws_toWhole.f k a0_0 l0_1).bind fun bt257 => ((laws_toWhole.f k a1_0 l1_1).bind fun bt262 => ((impl_AddWholes.f bt257.1 bt257.2 bt262.1 bt262.2).bind fun bt267 => ((laws_eqWhole.f k bt267.1 bt267.2.1 bt251.1 bt251.2.1).bind fun t273 => (if t273 = true then (laws_FnExactAddWholes.j0 k bt251.2.2 bt267.2.2 (bt267.2.2 != bt251.2.2) a0_0 l0_1 a1_0 l1_1 bt251.1 bt251.2.1 bt257.1 bt257.2 bt262.1 bt262.2 bt267.1 bt267.2.1) else (laws_FnExactAddWholes.j0 k bt251.2.2 bt267.2.2 true a0_0 l0_1 a1_0 l1_1 bt251.1 bt251.2.1 bt257.1 bt257.2 bt262.1 bt262.2 bt267.1 bt267.2.1))))))))))))
theorem laws_FnExactAddWholes.mono_l : ∀ k, (∀ y0 y1 y2 y3 y4 y5 y6 y7 y8 y9 y10 y11 y12 y13 y14, LeO (laws_FnExactAddWholes.j0 k y0 y1 y2 y3 y4 y5 y6 y7 y8 y9 y10 y11 y12 y13 y14) (laws_FnExactAddWholes.j0 (k + 1) y0 y1 y2 y3 y4 y5 y6 y7 y8 y9 y10 y11 y12 y13 y14)) ∧ (∀ y0 y1 y2 y3 y4 y5 y6 y7 y8 y9, LeO (laws_FnExactAddWholes.j1 k y0 y1 y2 y3 y4 y5 y6 y7 y8 y9) (laws_FnExactAddWholes.j1 (k + 1) y0 y1 y2 y3 y4 y5 y6 y7 y8 y9)) ∧ (∀ y0 y1 y2 y3, LeO (laws_FnExactAddWholes.j2 k y0 y1 y2 y3) (laws_FnExactAddWholes.j2 (k + 1) y0 y1 y2 y3))
  | 0 => ⟨fun _ _ _ _ _ _ _ _ _ _ _ _ _ _ _ r h => by simp [laws_FnExactAddWholes.j0] at h, fun _ _ _ _ _ _ _ _ _ _ r h => by simp [laws_FnExactAddWholes.j1] at h, fun _ _ _ _ r h => by simp [laws_FnExactAddWholes.j2] at h⟩
  | k + 1 => by
    obtain ⟨ih0, ih1, ih2⟩ := laws_FnExactAddWholes.mono_l k
    refine ⟨?_, ?_, ?_⟩
    · intro y0 y1 y2 y3 y4 y5 y6 y7 y8 y9 y10 y11 y12 y13 y14
      unfold laws_FnExactAddWholes.j0
      repeat' first
      | (with_reducible exact ih0 _ _ _ _ _ _ _ _ _ _ _ _ _ _ _)
      | (with_reducible exact ih1 _ _ _ _ _ _ _ _ _ _)
      | (with_reducible exact ih2 _ _ _ _)
      | (with_reducible exact laws_eqWhole.mono _ _ _ _ _)
      | (with_reducible exact laws_heldWhole.mono _ _ _ _)
      | (with_reducible exact laws_markWhole.mono _ _ _ _)
      | (with_reducible exact laws_toWhole.mono _ _ _)
      | (with_reducible exact spec_AddWholes.mono _ _ _ _ _)
      | (with_reducible exact LeO.refl _)
      | (with_reducible exact LeO.none _)
      | (with_reducible refine LeO.ite ?_ ?_)
      | (with_reducible refine LeO.bind ?_ (fun _ => ?_))
      | exact ih0 _ _ _ _ _ _ _ _ _ _ _ _ _ _ _
      | exact ih1 _ _ _ _ _ _ _ _ _ _
      | exact ih2 _ _ _ _
      | exact laws_eqWhole.mono _ _ _ _ _
      | exact laws_heldWhole.mono _ _ _ _
      | exact laws_markWhole.mono _ _ _ _
      | exact laws_toWhole.mono _ _ _
      | exact spec_AddWholes.mono _ _ _ _ _
      | exact LeO.none _
      | refine LeO.ite ?_ ?_
      | refine LeO.bind ?_ (fun _ => ?_)
    · intro y0 y1 y2 y3 y4 y5 y6 y7 y8 y9
      unfold laws_FnExactAddWholes.j1
      repeat' first
      | (with_reducible exact ih0 _ _ _ _ _ _ _ _ _ _ _ _ _ _ _)
      | (with_reducible exact ih1 _ _ _ _ _ _ _ _ _ _)
      | (with_reducible exact ih2 _ _ _ _)
      | (with_reducible exact laws_eqWhole.mono _ _ _ _ _)
      | (with_reducible exact laws_heldWhole.mono _ _ _ _)
      | (with_reducible exact laws_markWhole.mono _ _ _ _)
      | (with_reducible exact laws_toWhole.mono _ _ _)
      | (with_reducible exact spec_AddWholes.mono _ _ _ _ _)
      | (with_reducible exact LeO.refl _)
      | (with_reducible exact LeO.none _)
      | (with_reducible refine LeO.ite ?_ ?_)
      | (with_reducible refine LeO.bind ?_ (fun _ => ?_))
      | exact ih0 _ _ _ _ _ _ _ _ _ _ _ _ _ _ _
      | exact ih1 _ _ _ _ _ _ _ _ _ _
      | exact ih2 _ _ _ _
      | exact laws_eqWhole.mono _ _ _ _ _
      | exact laws_heldWhole.mono _ _ _ _
      | exact laws_markWhole.mono _ _ _ _
      | exact laws_toWhole.mono _ _ _
      | exact spec_AddWholes.mono _ _ _ _ _
      | exact LeO.none _
      | refine LeO.ite ?_ ?_
      | refine LeO.bind ?_ (fun _ => ?_)
    · intro y0 y1 y2 y3
      unfold laws_FnExactAddWholes.j2
      repeat' first
      | (with_reducible exact ih0 _ _ _ _ _ _ _ _ _ _ _ _ _ _ _)
      | (with_reducible exact ih1 _ _ _ _ _ _ _ _ _ _)
      | (with_reducible exact ih2 _ _ _ _)
      | (with_reducible exact laws_eqWhole.mono _ _ _ _ _)
      | (with_reducible exact laws_heldWhole.mono _ _ _ _)
      | (with_reducible exact laws_markWhole.mono _ _ _ _)
      | (with_reducible exact laws_toWhole.mono _ _ _)
      | (with_reducible exact spec_AddWholes.mono _ _ _ _ _)
      | (with_reducible exact LeO.refl _)
      | (with_reducible exact LeO.none _)
      | (with_reducible refine LeO.ite ?_ ?_)
      | (with_reducible refine LeO.bind ?_ (fun _ => ?_))
      | exact ih0 _ _ _ _ _ _ _ _ _ _ _ _ _ _ _
      | exact ih1 _ _ _ _ _ _ _ _ _ _
      | exact ih2 _ _ _ _
      | exact laws_eqWhole.mono _ _ _ _ _
      | exact laws_heldWhole.mono _ _ _ _
      | exact laws_markWhole.mono _ _ _ _
      | exact laws_toWhole.mono _ _ _
      | exact spec_AddWholes.mono _ _ _ _ _
      | exact LeO.none _
      | refine LeO.ite ?_ ?_
      | refine LeO.bind ?_ (fun _ => ?_)
theorem laws_FnExactAddWholes.mono : ∀ a0 a1 a2 a3 k, LeO (laws_FnExactAddWholes.f k a0 a1 a2 a3) (laws_FnExactAddWholes.f (k + 1) a0 a1 a2 a3) := by
  intro a0 a1 a2 a3 k
  obtain ⟨ih0, ih1, ih2⟩ := laws_FnExactAddWholes.mono_l k
  unfold laws_FnExactAddWholes.f
  repeat' first
      | (with_reducible exact ih0 _ _ _ _ _ _ _ _ _ _ _ _ _ _ _)
      | (with_reducible exact ih1 _ _ _ _ _ _ _ _ _ _)
      | (with_reducible exact ih2 _ _ _ _)
      | (with_reducible exact laws_eqWhole.mono _ _ _ _ _)
      | (with_reducible exact laws_heldWhole.mono _ _ _ _)
      | (with_reducible exact laws_markWhole.mono _ _ _ _)
      | (with_reducible exact laws_toWhole.mono _ _ _)
      | (with_reducible exact spec_AddWholes.mono _ _ _ _ _)
      | (with_reducible exact LeO.refl _)
      | (with_reducible exact LeO.none _)
      | (with_reducible refine LeO.ite ?_ ?_)
      | (with_reducible refine LeO.bind ?_ (fun _ => ?_))
      | exact ih0 _ _ _ _ _ _ _ _ _ _ _ _ _ _ _
      | exact ih1 _ _ _ _ _ _ _ _ _ _
      | exact ih2 _ _ _ _
      | exact laws_eqWhole.mono _ _ _ _ _
      | exact laws_heldWhole.mono _ _ _ _
      | exact laws_markWhole.mono _ _ _ _
      | exact laws_toWhole.mono _ _ _
      | exact spec_AddWholes.mono _ _ _ _ _
      | exact LeO.none _
      | refine LeO.ite ?_ ?_
      | refine LeO.bind ?_ (fun _ => ?_)
def laws_FnExactAddWholes.T8 : Bool × List (List Nat × List Nat) := (true, [([], []), ([0], [0]), ([], []), ([2, 1], [2]), ([1, 3, 3], [1, 3]), ([4], [4]), ([5], [5]), ([5], [5]), ([], []), ([8, 6, 4, 0, 1, 2, 3, 4, 5, 6, 8], [6, 8]), ([7, 9, 0, 1, 2, 3, 4, 5, 6, 7, 8, 9], [7])])
def laws_FnExactAddWholes.B8 : List Nat := [0, 1, 0, 7, 15, 31, 63, 63, 0, 383, 1023]
theorem laws_FnExactAddWholes.tab8 : rtab .any (opsOf Tryd.f9 8) = laws_FnExactAddWholes.T8 := by kernel_rfl
theorem laws_FnExactAddWholes.bits8 : waitsOk laws_FnExactAddWholes.T8.2 laws_FnExactAddWholes.B8 = true := by kernel_rfl
def laws_FnExactAddWholes.T31 : Bool × List (List Nat × List Nat) := (true, [([], []), ([0], [0]), ([], []), ([2, 1], [2]), ([1, 3, 3], [1, 3]), ([4], [4]), ([5], [5]), ([5], [5]), ([], []), ([8, 6, 4, 0, 1, 2, 3, 4, 5, 6, 8], [6, 8]), ([7, 9, 0, 1, 2, 3, 4, 5, 6, 7, 8, 9], [7])])
def laws_FnExactAddWholes.B31 : List Nat := [0, 1, 0, 7, 15, 31, 63, 63, 0, 383, 1023]
theorem laws_FnExactAddWholes.tab31 : rtab .any (opsOf Tryd.f9 31) = laws_FnExactAddWholes.T31 := by kernel_rfl
theorem laws_FnExactAddWholes.bits31 : waitsOk laws_FnExactAddWholes.T31.2 laws_FnExactAddWholes.B31 = true := by kernel_rfl
set_option maxHeartbeats 8000000 in
set_option maxRecDepth 100000 in
theorem laws_FnExactAddWholes.calls (k : Nat) (a0_0 : Int) (A0_1 : Option Addr) (c0_1 : Nat) (l0_1 : List Int) (a1_0 : Int) (A1_1 : Option Addr) (c1_1 : Nat) (l1_1 : List Int) (r : Bool) (w : World) (hr0_1 : Kd.C (Kd.int .i64) w A0_1 l0_1.length l0_1) (hc0_1 : l0_1.length ≤ c0_1) (hr1_1 : Kd.C (Kd.int .i64) w A1_1 l1_1.length l1_1) (hc1_1 : l1_1.length ≤ c1_1) (h : laws_FnExactAddWholes.f k a0_0 l0_1 a1_0 l1_1 = some r) :
  Calls Tryd.prog 9 #[.agg #[.int .i64 a0_0, .slice A0_1 l0_1.length c0_1], .agg #[.int .i64 a1_0, .slice A1_1 l1_1.length c1_1]] w fun e w' => e = .returned (.bool r) ∧ Below w.heap.size w w' := by
 have hu24 := Tryd.underlying24; have hu28 := Tryd.underlying28; have HR0_1 := Aside0.mk hr0_1; have HC0_1 := Aside0.mk hc0_1; clear hr0_1 hc0_1; have HR1_1 := Aside0.mk hr1_1; have HC1_1 := Aside0.mk hc1_1; clear hr1_1 hc1_1; have HB := am_ (Below.refl w.heap.size w)
 have H : ((laws_szWhole.f a0_0 l0_1 1048576).bind fun t241 => (if t241 < 0 then (some true) else ((laws_szWhole.f a1_0 l1_1 t241).bind fun t242 => (if t242 < 0 then (some true) else ((laws_toWhole.f k a0_0 l0_1).bind fun bt243 => ((laws_toWhole.f k a1_0 l1_1).bind fun bt247 => ((spec_AddWholes.f k bt243.1 bt243.2 bt247.1 bt247.2).bind fun bt251 => ((laws_toWhole.f k a0_0 l0_1).bind fun bt257 => ((laws_toWhole.f k a1_0 l1_1).bind fun bt262 => ((impl_AddWholes.f bt257.1 bt257.2 bt262.1 bt262.2).bind fun bt267 => ((laws_eqWhole.f k bt267.1 bt267.2.1 bt251.1 bt251.2.1).bind fun t273 => (if t273 = true then (laws_FnExactAddWholes.j0 k bt251.2.2 bt267.2.2 (bt267.2.2 != bt251.2.2) a0_0 l0_1 a1_0 l1_1 bt251.1 bt251.2.1 bt257.1 bt257.2 bt262.1 bt262.2 bt267.1 bt267.2.1) else (laws_FnExactAddWholes.j0 k bt251.2.2 bt267.2.2 true a0_0 l0_1 a1_0 l1_1 bt251.1 bt251.2.1 bt257.1 bt257.2 bt262.1 bt262.2 bt267.1 bt267.2.1))))))))))))) = some r := h
 clear h
 replace H := Option.bind_eq_some_iff.mp H
 obtain ⟨t241, A30, H⟩ := H
 replace H : (if t241 < 0 then (some true) else ((laws_szWhole.f a1_0 l1_1 t241).bind fun t242 => (if t242 < 0 then (some true) else ((laws_toWhole.f k a0_0 l0_1).bind fun bt243 => ((laws_toWhole.f k a1_0 l1_1).bind fun bt247 => ((spec_AddWholes.f k bt243.1 bt243.2 bt247.1 bt247.2).bind fun bt251 => ((laws_toWhole.f k a0_0 l0_1).bind fun bt257 => ((laws_toWhole.f k a1_0 l1_1).bind fun bt262 => ((impl_AddWholes.f bt257.1 bt257.2 bt262.1 bt262.2).bind fun bt267 => ((laws_eqWhole.f k bt267.1 bt267.2.1 bt251.1 bt251.2.1).bind fun t273 => (if t273 = true then (laws_FnExactAddWholes.j0 k bt251.2.2 bt267.2.2 (bt267.2.2 != bt251.2.2) a0_0 l0_1 a1_0 l1_1 bt251.1 bt251.2.1 bt257.1 bt257.2 bt262.1 bt262.2 bt267.1 bt267.2.1) else (laws_FnExactAddWholes.j0 k bt251.2.2 bt267.2.2 true a0_0 l0_1 a1_0 l1_1 bt251.1 bt251.2.1 bt257.1 bt257.2 bt262.1 bt262.2 bt267.1 bt267.2.1)))))))))))) = some r := H
 have A3 := Aside0.mk A30; clear A30
 by_cases c4 : t241 < 0
 ·rw [if_pos c4] at H
  have c4b0 : decide (t241 < 0) = true := decide_eq_true c4
  clear c4; obtain rfl := Option.some.inj H
  go_enter Tryd.func9, Tryd.ntmps9
  go_wp2_with (first | ((with_reducible refine gate_dst (N := 2) rfl ?_); refine box_event ?hg (N := 2) ?hd (cs := #[.int .i64 a0_0, .slice A0_1 l0_1.length c0_1]) (t := 24) ?hr ?_; (case hd => rfl); (case hg => rfl); (case hr => first | (go_simp; done) | (go_simp; rfl)); intro gb239 hg w5 hbox hb; have n0_ := am_ (below_step (bl_ HB) hb); have n1_ := am_ (hbox); have n2_ := am_ (gs_ hg HB); have n3_ := am_ (gs_ hg HB); clear HB; have HB := n0_; have BK239 := n1_; have GW239 := n2_; have GE239 := n3_; clear n0_ n1_ n2_ n3_; clear hb hbox hg) | ((with_reducible refine gate_dst (N := 3) rfl ?_); refine box_event ?hg (N := 3) ?hd (cs := #[.int .i64 a1_0, .slice A1_1 l1_1.length c1_1]) (t := 24) ?hr ?_; (case hd => rfl); (case hg => rfl); (case hr => first | (go_simp; done) | (go_simp; rfl)); intro gb240 hg w6 hbox hb; have n0_ := am_ (blk_below (bk_ BK239) hb); have n1_ := am_ (below_step (bl_ HB) hb); have n2_ := am_ (hbox); have n3_ := am_ (gs_ hg HB); have n4_ := am_ (gs_ hg HB); have n5_ := am_ (nl_ hg BK239); have n6_ := am_ (ng_ hg BK239); clear BK239; clear HB; have BK239 := n0_; have HB := n1_; have BK240 := n2_; have GW240 := n3_; have GE240 := n4_; have NB239_240 := n5_; have NB240_239 := n6_; clear n0_ n1_ n2_ n3_ n4_ n5_ n6_; clear hb hbox hg; have hnb7 := NB239_240.out; have hnc7 := NB240_239.out; have hcz8_0 : w6.cell? ⟨gb239, 0, none⟩ = some (.int .i64 a0_0) := (blk_cell BK239.out 0).trans rfl; have hcz8_1 : w6.cell? ⟨gb239, 1, none⟩ = some (.slice A0_1 l0_1.length c0_1) := (blk_cell BK239.out 1).trans rfl; have hfz8_0 := blk_frozen BK239.out 0; have hfz8_1 := blk_frozen BK239.out 1) | ((with_reducible refine gate_callee (f := 18) rfl ?_); refine goesL_ (some 19) rfl rfl Tryd.func18 (by kernel_rfl) rfl #[.agg #[.int .i64 a0_0, .slice A0_1 l0_1.length c0_1], .int .i64 1048576] rfl ma_ ?_; (with_reducible refine (laws_szWhole.calls a0_0 _ _ l0_1 1048576 t241 _ ?side1 ?side2 A3.out).mono ?_); (case side1 => repeat (first | exact (Kd.C_below HR0_1.out HB.out) | (with_reducible refine Kd.C_alloc ?_ _) | (with_reducible refine Kd.C_drewN ?_ _) | (with_reducible refine Kd.C_drew ?_))); (case side2 => exact HC0_1.out); rintro e w9 ⟨rfl, hb⟩; refine ⟨_, rfl, ?_⟩; have n0_ := am_ (blk_below (bk_ BK239) hb); have n1_ := am_ (blk_below (bk_ BK240) hb); have n2_ := am_ (below_step (bl_ HB) hb); clear BK239; clear BK240; clear HB; have BK239 := n0_; have BK240 := n1_; have HB := n2_; clear n0_ n1_ n2_; (try clear hb); (try clear hb2); (try clear hk); (try clear hi)))
  go_ret
  exact ⟨by first | rfl | (simp [errW_none, errW_some] <;> rfl) | (simp [*, errW_none, errW_some] <;> rfl), bl_ HB⟩
 ·rw [if_neg c4] at H
  have c4b0 : decide (t241 < 0) = false := decide_eq_false c4
  clear c4
  replace H := Option.bind_eq_some_iff.mp H
  obtain ⟨t242, A100, H⟩ := H
  replace H : (if t242 < 0 then (some true) else ((laws_toWhole.f k a0_0 l0_1).bind fun bt243 => ((laws_toWhole.f k a1_0 l1_1).bind fun bt247 => ((spec_AddWholes.f k bt243.1 bt243.2 bt247.1 bt247.2).bind fun bt251 => ((laws_toWhole.f k a0_0 l0_1).bind fun bt257 => ((laws_toWhole.f k a1_0 l1_1).bind fun bt262 => ((impl_AddWholes.f bt257.1 bt257.2 bt262.1 bt262.2).bind fun bt267 => ((laws_eqWhole.f k bt267.1 bt267.2.1 bt251.1 bt251.2.1).bind fun t273 => (if t273 = true then (laws_FnExactAddWholes.j0 k bt251.2.2 bt267.2.2 (bt267.2.2 != bt251.2.2) a0_0 l0_1 a1_0 l1_1 bt251.1 bt251.2.1 bt257.1 bt257.2 bt262.1 bt262.2 bt267.1 bt267.2.1) else (laws_FnExactAddWholes.j0 k bt251.2.2 bt267.2.2 true a0_0 l0_1 a1_0 l1_1 bt251.1 bt251.2.1 bt257.1 bt257.2 bt262.1 bt262.2 bt267.1 bt267.2.1)))))))))) = some r := H
  have A10 := Aside0.mk A100; clear A100
  by_cases c11 : t242 < 0
  ·rw [if_pos c11] at H
   have c11b0 : decide (t242 < 0) = true := decide_eq_true c11
   clear c11; obtain rfl := Option.some.inj H
   go_enter Tryd.func9, Tryd.ntmps9
   go_wp2_with (first | ((with_reducible refine gate_dst (N := 2) rfl ?_); refine box_event ?hg (N := 2) ?hd (cs := #[.int .i64 a0_0, .slice A0_1 l0_1.length c0_1]) (t := 24) ?hr ?_; (case hd => rfl); (case hg => rfl); (case hr => first | (go_simp; done) | (go_simp; rfl)); intro gb239 hg w12 hbox hb; have n0_ := am_ (below_step (bl_ HB) hb); have n1_ := am_ (hbox); have n2_ := am_ (gs_ hg HB); have n3_ := am_ (gs_ hg HB); clear HB; have HB := n0_; have BK239 := n1_; have GW239 := n2_; have GE239 := n3_; clear n0_ n1_ n2_ n3_; clear hb hbox hg) | ((with_reducible refine gate_dst (N := 3) rfl ?_); refine box_event ?hg (N := 3) ?hd (cs := #[.int .i64 a1_0, .slice A1_1 l1_1.length c1_1]) (t := 24) ?hr ?_; (case hd => rfl); (case hg => rfl); (case hr => first | (go_simp; done) | (go_simp; rfl)); intro gb240 hg w13 hbox hb; have n0_ := am_ (blk_below (bk_ BK239) hb); have n1_ := am_ (below_step (bl_ HB) hb); have n2_ := am_ (hbox); have n3_ := am_ (gs_ hg HB); have n4_ := am_ (gs_ hg HB); have n5_ := am_ (nl_ hg BK239); have n6_ := am_ (ng_ hg BK239); clear BK239; clear HB; have BK239 := n0_; have HB := n1_; have BK240 := n2_; have GW240 := n3_; have GE240 := n4_; have NB239_240 := n5_; have NB240_239 := n6_; clear n0_ n1_ n2_ n3_ n4_ n5_ n6_; clear hb hbox hg; have hnb14 := NB239_240.out; have hnc14 := NB240_239.out; have hcz15_0 : w13.cell? ⟨gb239, 0, none⟩ = some (.int .i64 a0_0) := (blk_cell BK239.out 0).trans rfl; have hcz15_1 : w13.cell? ⟨gb239, 1, none⟩ = some (.slice A0_1 l0_1.length c0_1) := (blk_cell BK239.out 1).trans rfl; have hfz15_0 := blk_frozen BK239.out 0; have hfz15_1 := blk_frozen BK239.out 1) | ((with_reducible refine gate_callee (f := 18) rfl ?_); refine goesL_ (some 19) rfl rfl Tryd.func18 (by kernel_rfl) rfl #[.agg #[.int .i64 a0_0, .slice A0_1 l0_1.length c0_1], .int .i64 1048576] rfl ma_ ?_; (with_reducible refine (laws_szWhole.calls a0_0 _ _ l0_1 1048576 t241 _ ?side1 ?side2 A3.out).mono ?_); (case side1 => repeat (first | exact (Kd.C_below HR0_1.out HB.out) | (with_reducible refine Kd.C_alloc ?_ _) | (with_reducible refine Kd.C_drewN ?_ _) | (with_reducible refine Kd.C_drew ?_))); (case side2 => exact HC0_1.out); rintro e w16 ⟨rfl, hb⟩; refine ⟨_, rfl, ?_⟩; have n0_ := am_ (blk_below (bk_ BK239) hb); have n1_ := am_ (blk_below (bk_ BK240) hb); have n2_ := am_ (below_step (bl_ HB) hb); clear BK239; clear BK240; clear HB; have BK239 := n0_; have BK240 := n1_; have HB := n2_; clear n0_ n1_ n2_; (try clear hb); (try clear hb2); (try clear hk); (try clear hi); have hcz17_0 : w16.cell? ⟨gb240, 0, none⟩ = some (.int .i64 a1_0) := (blk_cell BK240.out 0).trans rfl; have hcz17_1 : w16.cell? ⟨gb240, 1, none⟩ = some (.slice A1_1 l1_1.length c1_1) := (blk_cell BK240.out 1).trans rfl; have hfz17_0 := blk_frozen BK240.out 0; have hfz17_1 := blk_frozen BK240.out 1) | ((with_reducible refine gate_callee (f := 18) rfl ?_); refine goesL_ (some 24) rfl rfl Tryd.func18 (by kernel_rfl) rfl #[.agg #[.int .i64 a1_0, .slice A1_1 l1_1.length c1_1], .int .i64 t241] rfl ma_ ?_; (with_reducible refine (laws_szWhole.calls a1_0 _ _ l1_1 t241 t242 _ ?side1 ?side2 A10.out).mono ?_); (case side1 => repeat (first | exact (Kd.C_below HR1_1.out HB.out) | (with_reducible refine Kd.C_alloc ?_ _) | (with_reducible refine Kd.C_drewN ?_ _) | (with_reducible refine Kd.C_drew ?_))); (case side2 => exact HC1_1.out); rintro e w18 ⟨rfl, hb⟩; refine ⟨_, rfl, ?_⟩; have n0_ := am_ (blk_below (bk_ BK239) hb); have n1_ := am_ (blk_below (bk_ BK240) hb); have n2_ := am_ (below_step (bl_ HB) hb); clear BK239; clear BK240; clear HB; have BK239 := n0_; have BK240 := n1_; have HB := n2_; clear n0_ n1_ n2_; (try clear hb); (try clear hb2); (try clear hk); (try clear hi)))
   go_ret
   exact ⟨by first | rfl | (simp [errW_none, errW_some] <;> rfl) | (simp [*, errW_none, errW_some] <;> rfl), bl_ HB⟩
  ·rw [if_neg c11] at H
   have c11b0 : decide (t242 < 0) = false := decide_eq_false c11
   clear c11
   replace H := Option.bind_eq_some_iff.mp H
   obtain ⟨⟨t243, t244⟩, A190, H⟩ := H
   replace H : ((laws_toWhole.f k a1_0 l1_1).bind fun bt247 => ((spec_AddWholes.f k t243 t244 bt247.1 bt247.2).bind fun bt251 => ((laws_toWhole.f k a0_0 l0_1).bind fun bt257 => ((laws_toWhole.f k a1_0 l1_1).bind fun bt262 => ((impl_AddWholes.f bt257.1 bt257.2 bt262.1 bt262.2).bind fun bt267 => ((laws_eqWhole.f k bt267.1 bt267.2.1 bt251.1 bt251.2.1).bind fun t273 => (if t273 = true then (laws_FnExactAddWholes.j0 k bt251.2.2 bt267.2.2 (bt267.2.2 != bt251.2.2) a0_0 l0_1 a1_0 l1_1 bt251.1 bt251.2.1 bt257.1 bt257.2 bt262.1 bt262.2 bt267.1 bt267.2.1) else (laws_FnExactAddWholes.j0 k bt251.2.2 bt267.2.2 true a0_0 l0_1 a1_0 l1_1 bt251.1 bt251.2.1 bt257.1 bt257.2 bt262.1 bt262.2 bt267.1 bt267.2.1)))))))) = some r := H
   have A19 := Aside0.mk A190; clear A190
   replace H := Option.bind_eq_some_iff.mp H
   obtain ⟨⟨t247, t248⟩, A200, H⟩ := H
   replace H : ((spec_AddWholes.f k t243 t244 t247 t248).bind fun bt251 => ((laws_toWhole.f k a0_0 l0_1).bind fun bt257 => ((laws_toWhole.f k a1_0 l1_1).bind fun bt262 => ((impl_AddWholes.f bt257.1 bt257.2 bt262.1 bt262.2).bind fun bt267 => ((laws_eqWhole.f k bt267.1 bt267.2.1 bt251.1 bt251.2.1).bind fun t273 => (if t273 = true then (laws_FnExactAddWholes.j0 k bt251.2.2 bt267.2.2 (bt267.2.2 != bt251.2.2) a0_0 l0_1 a1_0 l1_1 bt251.1 bt251.2.1 bt257.1 bt257.2 bt262.1 bt262.2 bt267.1 bt267.2.1) else (laws_FnExactAddWholes.j0 k bt251.2.2 bt267.2.2 true a0_0 l0_1 a1_0 l1_1 bt251.1 bt251.2.1 bt257.1 bt257.2 bt262.1 bt262.2 bt267.1 bt267.2.1))))))) = some r := H
   have A20 := Aside0.mk A200; clear A200
   replace H := Option.bind_eq_some_iff.mp H
   obtain ⟨⟨t251, t252, t255⟩, A210, H⟩ := H
   replace H : ((laws_toWhole.f k a0_0 l0_1).bind fun bt257 => ((laws_toWhole.f k a1_0 l1_1).bind fun bt262 => ((impl_AddWholes.f bt257.1 bt257.2 bt262.1 bt262.2).bind fun bt267 => ((laws_eqWhole.f k bt267.1 bt267.2.1 t251 t252).bind fun t273 => (if t273 = true then (laws_FnExactAddWholes.j0 k t255 bt267.2.2 (bt267.2.2 != t255) a0_0 l0_1 a1_0 l1_1 t251 t252 bt257.1 bt257.2 bt262.1 bt262.2 bt267.1 bt267.2.1) else (laws_FnExactAddWholes.j0 k t255 bt267.2.2 true a0_0 l0_1 a1_0 l1_1 t251 t252 bt257.1 bt257.2 bt262.1 bt262.2 bt267.1 bt267.2.1)))))) = some r := H
   have A21 := Aside0.mk A210; clear A210
   replace H := Option.bind_eq_some_iff.mp H
   obtain ⟨⟨t257, t258⟩, A220, H⟩ := H
   replace H : ((laws_toWhole.f k a1_0 l1_1).bind fun bt262 => ((impl_AddWholes.f t257 t258 bt262.1 bt262.2).bind fun bt267 => ((laws_eqWhole.f k bt267.1 bt267.2.1 t251 t252).bind fun t273 => (if t273 = true then (laws_FnExactAddWholes.j0 k t255 bt267.2.2 (bt267.2.2 != t255) a0_0 l0_1 a1_0 l1_1 t251 t252 t257 t258 bt262.1 bt262.2 bt267.1 bt267.2.1) else (laws_FnExactAddWholes.j0 k t255 bt267.2.2 true a0_0 l0_1 a1_0 l1_1 t251 t252 t257 t258 bt262.1 bt262.2 bt267.1 bt267.2.1))))) = some r := H
   have A22 := Aside0.mk A220; clear A220
   replace H := Option.bind_eq_some_iff.mp H
   obtain ⟨⟨t262, t263⟩, A230, H⟩ := H
   replace H : ((impl_AddWholes.f t257 t258 t262 t263).bind fun bt267 => ((laws_eqWhole.f k bt267.1 bt267.2.1 t251 t252).bind fun t273 => (if t273 = true then (laws_FnExactAddWholes.j0 k t255 bt267.2.2 (bt267.2.2 != t255) a0_0 l0_1 a1_0 l1_1 t251 t252 t257 t258 t262 t263 bt267.1 bt267.2.1) else (laws_FnExactAddWholes.j0 k t255 bt267.2.2 true a0_0 l0_1 a1_0 l1_1 t251 t252 t257 t258 t262 t263 bt267.1 bt267.2.1)))) = some r := H
   have A23 := Aside0.mk A230; clear A230
   replace H := Option.bind_eq_some_iff.mp H
   obtain ⟨⟨t267, t268, t271⟩, A240, H⟩ := H
   replace H : ((laws_eqWhole.f k t267 t268 t251 t252).bind fun t273 => (if t273 = true then (laws_FnExactAddWholes.j0 k t255 t271 (t271 != t255) a0_0 l0_1 a1_0 l1_1 t251 t252 t257 t258 t262 t263 t267 t268) else (laws_FnExactAddWholes.j0 k t255 t271 true a0_0 l0_1 a1_0 l1_1 t251 t252 t257 t258 t262 t263 t267 t268))) = some r := H
   have A24 := Aside0.mk A240; clear A240; have HC25 := Aside0.mk H; clear H
   go_enter Tryd.func9, Tryd.ntmps9
   try go_wp2_with (first | ((with_reducible refine gate_dst (N := 2) rfl ?_); refine box_event ?hg (N := 2) ?hd (cs := #[.int .i64 a0_0, .slice A0_1 l0_1.length c0_1]) (t := 24) ?hr ?_; (case hd => rfl); (case hg => rfl); (case hr => first | (go_simp; done) | (go_simp; rfl)); intro gb239 hg w26 hbox hb; have n0_ := am_ (below_step (bl_ HB) hb); have n1_ := am_ (hbox); have n2_ := am_ (gs_ hg HB); have n3_ := am_ (gs_ hg HB); clear HB; have HB := n0_; have BK239 := n1_; have GW239 := n2_; have GE239 := n3_; clear n0_ n1_ n2_ n3_; clear hb hbox hg) | ((with_reducible refine gate_dst (N := 3) rfl ?_); refine box_event ?hg (N := 3) ?hd (cs := #[.int .i64 a1_0, .slice A1_1 l1_1.length c1_1]) (t := 24) ?hr ?_; (case hd => rfl); (case hg => rfl); (case hr => first | (go_simp; done) | (go_simp; rfl)); intro gb240 hg w27 hbox hb; have n0_ := am_ (blk_below (bk_ BK239) hb); have n1_ := am_ (below_step (bl_ HB) hb); have n2_ := am_ (hbox); have n3_ := am_ (gs_ hg HB); have n4_ := am_ (gs_ hg HB); have n5_ := am_ (nl_ hg BK239); have n6_ := am_ (ng_ hg BK239); clear BK239; clear HB; have BK239 := n0_; have HB := n1_; have BK240 := n2_; have GW240 := n3_; have GE240 := n4_; have NB239_240 := n5_; have NB240_239 := n6_; clear n0_ n1_ n2_ n3_ n4_ n5_ n6_; clear hb hbox hg; have hnb28 := NB239_240.out; have hnc28 := NB240_239.out; have hcz29_0 : w27.cell? ⟨gb239, 0, none⟩ = some (.int .i64 a0_0) := (blk_cell BK239.out 0).trans rfl; have hcz29_1 : w27.cell? ⟨gb239, 1, none⟩ = some (.slice A0_1 l0_1.length c0_1) := (blk_cell BK239.out 1).trans rfl; have hfz29_0 := blk_frozen BK239.out 0; have hfz29_1 := blk_frozen BK239.out 1) | ((with_reducible refine gate_callee (f := 18) rfl ?_); refine goesL_ (some 19) rfl rfl Tryd.func18 (by kernel_rfl) rfl #[.agg #[.int .i64 a0_0, .slice A0_1 l0_1.length c0_1], .int .i64 1048576] rfl ma_ ?_; (with_reducible refine (laws_szWhole.calls a0_0 _ _ l0_1 1048576 t241 _ ?side1 ?side2 A3.out).mono ?_); (case side1 => repeat (first | exact (Kd.C_below HR0_1.out HB.out) | (with_reducible refine Kd.C_alloc ?_ _) | (with_reducible refine Kd.C_drewN ?_ _) | (with_reducible refine Kd.C_drew ?_))); (case side2 => exact HC0_1.out); rintro e w30 ⟨rfl, hb⟩; refine ⟨_, rfl, ?_⟩; have n0_ := am_ (blk_below (bk_ BK239) hb); have n1_ := am_ (blk_below (bk_ BK240) hb); have n2_ := am_ (below_step (bl_ HB) hb); clear BK239; clear BK240; clear HB; have BK239 := n0_; have BK240 := n1_; have HB := n2_; clear n0_ n1_ n2_; (try clear hb); (try clear hb2); (try clear hk); (try clear hi); have hcz31_0 : w30.cell? ⟨gb240, 0, none⟩ = some (.int .i64 a1_0) := (blk_cell BK240.out 0).trans rfl; have hcz31_1 : w30.cell? ⟨gb240, 1, none⟩ = some (.slice A1_1 l1_1.length c1_1) := (blk_cell BK240.out 1).trans rfl; have hfz31_0 := blk_frozen BK240.out 0; have hfz31_1 := blk_frozen BK240.out 1) | ((with_reducible refine gate_callee (f := 18) rfl ?_); refine goesL_ (some 24) rfl rfl Tryd.func18 (by kernel_rfl) rfl #[.agg #[.int .i64 a1_0, .slice A1_1 l1_1.length c1_1], .int .i64 t241] rfl ma_ ?_; (with_reducible refine (laws_szWhole.calls a1_0 _ _ l1_1 t241 t242 _ ?side1 ?side2 A10.out).mono ?_); (case side1 => repeat (first | exact (Kd.C_below HR1_1.out HB.out) | (with_reducible refine Kd.C_alloc ?_ _) | (with_reducible refine Kd.C_drewN ?_ _) | (with_reducible refine Kd.C_drew ?_))); (case side2 => exact HC1_1.out); rintro e w32 ⟨rfl, hb⟩; refine ⟨_, rfl, ?_⟩; have n0_ := am_ (blk_below (bk_ BK239) hb); have n1_ := am_ (blk_below (bk_ BK240) hb); have n2_ := am_ (below_step (bl_ HB) hb); clear BK239; clear BK240; clear HB; have BK239 := n0_; have BK240 := n1_; have HB := n2_; clear n0_ n1_ n2_; (try clear hb); (try clear hb2); (try clear hk); (try clear hi)))
   have n0_ := am_ (blk_drew BK239.out); have n1_ := am_ (blk_drew BK240.out); have n2_ := am_ (below_drew1 HB.out); clear BK239 BK240 HB; have BK239 := n0_; have BK240 := n1_; have HB := n2_; clear n0_ n1_ n2_
   refine start_ (n := 11) (S := fun w' => w'.cell? ⟨gb239, 0, none⟩ = some (.int .i64 a0_0) ∧ w'.cell? ⟨gb239, 1, none⟩ = some (.slice A0_1 l0_1.length c0_1) ∧ w'.cell? ⟨gb240, 0, none⟩ = some (.int .i64 a1_0) ∧ w'.cell? ⟨gb240, 1, none⟩ = some (.slice A1_1 l1_1.length c1_1)) (ds := []) #[false, false, false, false, false, false, false, false, false, false, false] (by kernel_rfl) rfl rfl ⟨(blk_cell BK239.out 0).trans rfl, (blk_cell BK239.out 1).trans rfl, (blk_cell BK240.out 0).trans rfl, (blk_cell BK240.out 1).trans rfl⟩ (fun hHeld => ?_); refine with_tabW laws_FnExactAddWholes.tab8 laws_FnExactAddWholes.bits8 (fun HT_ HW_ => ?_)
   generalize w32.drew = w33 at BK239 BK240 HB hHeld ⊢
   refine take_ (i := 0) (N := some 28) (v := ?_) (a' := ?_) #[true, false, false, false, false, false, false, false, false, false, false] rfl rfl (take_ofW HT_.out HW_.out (by kernel_rfl)) (fun _ _ _ h => h) (Or.inl ⟨by rfl, ?_⟩) hHeld ?_ ?_
   rotate_left
   ·rintro w' ⟨s0, s1, s2, s3⟩
    go_simp
    with_reducible rfl
   rotate_left
   ·exact nm_
   refine take_ (i := 2) (N := some 30) (v := ?_) (a' := ?_) #[true, false, true, false, false, false, false, false, false, false, false] rfl rfl (take_ofW HT_.out HW_.out (by kernel_rfl)) (fun _ _ _ h => h) (Or.inl ⟨by rfl, ?_⟩) hHeld ?_ ?_
   rotate_left
   ·rintro w' ⟨s0, s1, s2, s3⟩
    go_simp
    with_reducible rfl
   rotate_left
   ·exact nm_
   refine join_ (σ := Value × Value × Value × Nat) 2 #[true, true, true, true, true, true, true, true, true, false, false] (fun s_ => [(29, .agg #[.int .i64 t243, s_.1]), (31, .agg #[.int .i64 t247, s_.2.1]), (32, .tuple #[.agg #[.int .i64 t251, s_.2.2.1], .int .i64 t255]), (6, .pointer (some ⟨s_.2.2.2, 0, none⟩)), (27, .tuple #[.agg #[.int .i64 t251, s_.2.2.1], .int .i64 t255]), (33, .agg #[.int .i64 t251, s_.2.2.1]), (34, .int .i64 t255)]) (fun s_ w' => (w'.cell? ⟨gb239, 0, none⟩ = some (.int .i64 a0_0) ∧ w'.cell? ⟨gb239, 1, none⟩ = some (.slice A0_1 l0_1.length c0_1) ∧ w'.cell? ⟨gb240, 0, none⟩ = some (.int .i64 a1_0) ∧ w'.cell? ⟨gb240, 1, none⟩ = some (.slice A1_1 l1_1.length c1_1)) ∧ (Kd.R (Kd.int .i64) 2 w' w.heap.size (fun k_ => some k_ ≠ (s_.2.1 : Value).ownBlock ∧ some k_ ≠ (s_.2.2.1 : Value).ownBlock) s_.1 t244) ∧ (Kd.R (Kd.int .i64) 2 w' w.heap.size (fun k_ => some k_ ≠ (s_.1 : Value).ownBlock ∧ some k_ ≠ (s_.2.2.1 : Value).ownBlock) s_.2.1 t248) ∧ (Kd.R (Kd.int .i64) 2 w' w.heap.size (fun k_ => some k_ ≠ (s_.1 : Value).ownBlock ∧ some k_ ≠ (s_.2.1 : Value).ownBlock) s_.2.2.1 t252) ∧ (w'.heap[gb239]? = some (.cells #[.int .i64 a0_0, .slice A0_1 l0_1.length c0_1] 24 (0, 0))) ∧ (w'.heap[gb240]? = some (.cells #[.int .i64 a1_0, .slice A1_1 l1_1.length c1_1] 24 (0, 0))) ∧ (w'.heap[s_.2.2.2]? = some (.cells #[.int .i64 0, .slice none 0 0] 28 (0, 0))) ∧ (w.heap.size ≤ s_.2.2.2) ∧ (w.heap.size ≤ s_.2.2.2) ∧ (gb239 ≠ s_.2.2.2) ∧ (s_.2.2.2 ≠ gb239) ∧ (gb240 ≠ s_.2.2.2) ∧ (s_.2.2.2 ≠ gb240) ∧ (Below w.heap.size w w')) ?_ ?_
   rotate_left
   ·intro hCont
    refine two_ (i := 1) (j := 8) (Ni := some 29) (Nj := some 6) #[true, true, true, false, false, false, false, false, false, false, false] #[true, false, true, false, false, false, false, false, true, false, false] rfl rfl rfl rfl (two_of HT_.out (by kernel_rfl)) (by decide) (by decide) (fun K hK => ?_) (fun K hK => ?_)
    ·skip
     refine goes_ Tryd.func20 (by kernel_rfl) rfl #[.agg #[.int .i64 a0_0, .slice A0_1 l0_1.length c0_1]] (by rfl) rfl rfl ma_ ?_
     with_reducible refine (laws_toWhole.calls k a0_0 _ _ l0_1 t243 t244 _ ?side1 ?side2 A19.out).mono ?_
     (case side1 => repeat (first | exact (Kd.C_below HR0_1.out HB.out) | (with_reducible refine Kd.C_alloc ?_ _) | (with_reducible refine Kd.C_drewN ?_ _) | (with_reducible refine Kd.C_drew ?_)))
     (case side2 => exact HC0_1.out)
     rintro e w34 ⟨v245, rfl, ho0, hb⟩
     refine ⟨_, rfl, ?_⟩
     have n0_ := am_ (Kd.R_lower ho0 (below_size (bl_ HB))); have n1_ := am_ (blk_below (bk_ BK239) hb); have n2_ := am_ (blk_below (bk_ BK240) hb); have n3_ := am_ (below_step (bl_ HB) hb); clear BK239 BK240 HB; have HO246 := n0_; have BK239 := n1_; have BK240 := n2_; have HB := n3_; clear n0_ n1_ n2_ n3_; (try clear hb); (try clear hb2); (try clear hk); (try clear hi); (try clear ho0)
     refine hK.out _ _ ⟨(blk_cell BK239.out 0).trans rfl, (blk_cell BK239.out 1).trans rfl, (blk_cell BK240.out 0).trans rfl, (blk_cell BK240.out 1).trans rfl⟩ (fun hHeld => ?_)
     clear hK K
     refine norm_ (a' := ?_) ?_ ?_
     rotate_left
     ·show Act.put _ (some 29) _ = _
      exact nm_
     refine two_ (i := 3) (j := 8) (Ni := some 31) (Nj := some 6) #[true, true, true, true, false, false, false, false, false, false, false] #[true, true, true, false, false, false, false, false, true, false, false] rfl rfl rfl rfl (two_of HT_.out (by kernel_rfl)) (by decide) (by decide) (fun K hK => ?_) (fun K hK => ?_)
     ·skip
      refine goes_ Tryd.func20 (by kernel_rfl) rfl #[.agg #[.int .i64 a1_0, .slice A1_1 l1_1.length c1_1]] (by rfl) rfl rfl ma_ ?_
      with_reducible refine (laws_toWhole.calls k a1_0 _ _ l1_1 t247 t248 _ ?side1 ?side2 A20.out).mono ?_
      (case side1 => repeat (first | exact (Kd.C_below HR1_1.out HB.out) | (with_reducible refine Kd.C_alloc ?_ _) | (with_reducible refine Kd.C_drewN ?_ _) | (with_reducible refine Kd.C_drew ?_)))
      (case side2 => exact HC1_1.out)
      rintro e w35 ⟨v249, rfl, ho0, hb⟩
      refine ⟨_, rfl, ?_⟩
      have n0_ := am_ (Kd.R_elder' (kr_ HO246) (Kd.R_base ho0) hb); have n1_ := am_ (Kd.R_lower (Kd.R_new' ho0 (Kd.R_lt (kr_ HO246))) (below_size (bl_ HB))); have n2_ := am_ (blk_below (bk_ BK239) hb); have n3_ := am_ (blk_below (bk_ BK240) hb); have n4_ := am_ (below_step (bl_ HB) hb); clear HO246 BK239 BK240 HB; have HO246 := n0_; have HO250 := n1_; have BK239 := n2_; have BK240 := n3_; have HB := n4_; clear n0_ n1_ n2_ n3_ n4_; (try clear hb); (try clear hb2); (try clear hk); (try clear hi); (try clear ho0)
      obtain ⟨Ao36, co36, eo36⟩ := Kd.R_slice HO246.out
      (first | subst eo36 | (injection eo36 with f1_ f2_ f3_; have f4_ := f1_.symm; have f5_ := f3_.symm; clear f1_ f2_ f3_; subst f4_; subst f5_))
      obtain ⟨Ao37, co37, eo37⟩ := Kd.R_slice HO250.out
      (first | subst eo37 | (injection eo37 with f1_ f2_ f3_; have f4_ := f1_.symm; have f5_ := f3_.symm; clear f1_ f2_ f3_; subst f4_; subst f5_))
      refine hK.out _ _ ⟨(blk_cell BK239.out 0).trans rfl, (blk_cell BK239.out 1).trans rfl, (blk_cell BK240.out 0).trans rfl, (blk_cell BK240.out 1).trans rfl⟩ (fun hHeld => ?_)
      clear hK K
      refine norm_ (a' := ?_) ?_ ?_
      rotate_left
      ·show Act.put _ (some 31) _ = _
       exact nm_
      refine two_ (i := 4) (j := 8) (Ni := some 32) (Nj := some 6) #[true, true, true, true, true, false, false, false, false, false, false] #[true, true, true, true, false, false, false, false, true, false, false] rfl rfl rfl rfl (two_of HT_.out (by kernel_rfl)) (by decide) (by decide) (fun K hK => ?_) (fun K hK => ?_)
      ·skip
       refine goes_ Tryd.func35 (by kernel_rfl) rfl #[.agg #[.int .i64 t243, .slice Ao36 t244.length co36], .agg #[.int .i64 t247, .slice Ao37 t248.length co37]] (by rfl) rfl rfl ma_ ?_
       with_reducible refine (spec_AddWholes.calls k t243 _ _ t244 t247 _ _ t248 t251 t252 t255 _ ?side1 ?side2 ?side3 ?side4 A21.out).mono ?_
       (case side1 => repeat (first | exact (Kd.R_reads' HO246.out).2.2 | (with_reducible refine Kd.C_alloc ?_ _) | (with_reducible refine Kd.C_drewN ?_ _) | (with_reducible refine Kd.C_drew ?_)))
       (case side2 => exact (Kd.R_reads' HO246.out).2.1)
       (case side3 => repeat (first | exact (Kd.R_reads' HO250.out).2.2 | (with_reducible refine Kd.C_alloc ?_ _) | (with_reducible refine Kd.C_drewN ?_ _) | (with_reducible refine Kd.C_drew ?_)))
       (case side4 => exact (Kd.R_reads' HO250.out).2.1)
       rintro e w38 ⟨v253, rfl, ho0, hb⟩
       refine ⟨_, rfl, ?_⟩
       have n0_ := am_ (Kd.R_elder' (kr_ HO246) (Kd.R_base ho0) hb); have n1_ := am_ (Kd.R_elder' (kr_ HO250) (Kd.R_base ho0) hb); have n2_ := am_ (Kd.R_lower (Kd.R_new' (Kd.R_new' ho0 (Kd.R_lt (kr_ HO246))) (Kd.R_lt (kr_ HO250))) (below_size (bl_ HB))); have n3_ := am_ (blk_below (bk_ BK239) hb); have n4_ := am_ (blk_below (bk_ BK240) hb); have n5_ := am_ (below_step (bl_ HB) hb); clear HO246 HO250 BK239 BK240 HB; have HO246 := n0_; have HO250 := n1_; have HO254 := n2_; have BK239 := n3_; have BK240 := n4_; have HB := n5_; clear n0_ n1_ n2_ n3_ n4_ n5_; (try clear hb); (try clear hb2); (try clear hk); (try clear hi); (try clear ho0)
       refine hK.out _ _ ⟨(blk_cell BK239.out 0).trans rfl, (blk_cell BK239.out 1).trans rfl, (blk_cell BK240.out 0).trans rfl, (blk_cell BK240.out 1).trans rfl⟩ (fun hHeld => ?_)
       clear hK K
       refine norm_ (a' := ?_) ?_ ?_
       rotate_left
       ·show Act.put _ (some 32) _ = _
        exact nm_
       refine pure_ (i := 5) (N := some 27) (v := ?_) (a' := ?_) #[true, true, true, true, true, true, false, false, false, false, false] rfl rfl (any_of HT_.out (by kernel_rfl)) (fun _ _ _ h => h) (Or.inl ⟨by rfl, ?_⟩) ?_ ?_
       rotate_left
       ·intro w'
        go_simp
        with_reducible rfl
       rotate_left
       ·exact nm_
       refine pure_ (i := 6) (N := some 33) (v := ?_) (a' := ?_) #[true, true, true, true, true, true, true, false, false, false, false] rfl rfl (any_of HT_.out (by kernel_rfl)) (fun _ _ _ h => h) (Or.inl ⟨by rfl, ?_⟩) ?_ ?_
       rotate_left
       ·intro w'
        go_simp
        with_reducible rfl
       rotate_left
       ·exact nm_
       refine pure_ (i := 7) (N := some 34) (v := ?_) (a' := ?_) #[true, true, true, true, true, true, true, true, false, false, false] rfl rfl (any_of HT_.out (by kernel_rfl)) (fun _ _ _ h => h) (Or.inl ⟨by rfl, ?_⟩) ?_ ?_
       rotate_left
       ·intro w'
        go_simp
        with_reducible rfl
       rotate_left
       ·exact nm_
       refine one_ (i := 8) (N := some 6) #[true, true, true, true, true, true, true, true, true, false, false] rfl rfl (one_of HT_.out (by kernel_rfl)) (by decide) (fun K hK => ?_)
       refine box_step ?hg (N := 6) ?hd (cs := #[.int .i64 0, .slice none 0 0]) (t := 28) ?hr ?_; (case hd => rfl); (case hg => rfl); (case hr => first | (go_simp; done) | (go_simp; rfl))
       intro gb256 hg w39 hbox hb
       have n0_ := am_ (Kd.R_below (kr_ HO246) hb); have n1_ := am_ (Kd.R_below (kr_ HO250) hb); have n2_ := am_ (Kd.R_below (kr_ HO254) hb); have n3_ := am_ (blk_below (bk_ BK239) hb); have n4_ := am_ (blk_below (bk_ BK240) hb); have n5_ := am_ (below_step (bl_ HB) hb); have n6_ := am_ (hbox); have n7_ := am_ (gs_ hg HB); have n8_ := am_ (gs_ hg HB); have n9_ := am_ (nl_ hg BK239); have n10_ := am_ (ng_ hg BK239); have n11_ := am_ (nl_ hg BK240); have n12_ := am_ (ng_ hg BK240); clear HO246 HO250 HO254 BK239 BK240 HB; have HO246 := n0_; have HO250 := n1_; have HO254 := n2_; have BK239 := n3_; have BK240 := n4_; have HB := n5_; have BK256 := n6_; have GW256 := n7_; have GE256 := n8_; have NB239_256 := n9_; have NB256_239 := n10_; have NB240_256 := n11_; have NB256_240 := n12_; clear n0_ n1_ n2_ n3_ n4_ n5_ n6_ n7_ n8_ n9_ n10_ n11_ n12_ hb hbox hg
       refine hK.out _ _ ⟨(blk_cell BK239.out 0).trans rfl, (blk_cell BK239.out 1).trans rfl, (blk_cell BK240.out 0).trans rfl, (blk_cell BK240.out 1).trans rfl⟩ (fun hHeld => ?_)
       clear hK K
       refine norm_ (a' := ?_) ?_ ?_
       rotate_left
       ·show Act.put _ (some 6) _ = _
        exact nm_
       exact norm_ (by simp only [putAll, Act.put, List.setIfInBounds_toArray, List.set_cons_zero, List.set_cons_succ]) (hCont (.slice Ao36 t244.length co36, .slice Ao37 t248.length co37, v253, gb256) _ ⟨hHeld, (km_ HO246 (fun _ hk => ⟨hk.1.2, hk.2⟩)), (km_ HO250 (fun _ hk => ⟨hk.1.2, hk.2⟩)), (km_ HO254 (fun _ hk => ⟨hk.1.2, hk.2⟩)), (bk_ BK239), (bk_ BK240), (bk_ BK256), GW256.out, GE256.out, NB239_256.out, NB256_239.out, NB240_256.out, NB256_240.out, (bl_ HB)⟩)
      ·skip
       refine box_step ?hg (N := 6) ?hd (cs := #[.int .i64 0, .slice none 0 0]) (t := 28) ?hr ?_; (case hd => rfl); (case hg => rfl); (case hr => first | (go_simp; done) | (go_simp; rfl))
       intro gb256 hg w36 hbox hb
       have n0_ := am_ (Kd.R_below (kr_ HO246) hb); have n1_ := am_ (Kd.R_below (kr_ HO250) hb); have n2_ := am_ (blk_below (bk_ BK239) hb); have n3_ := am_ (blk_below (bk_ BK240) hb); have n4_ := am_ (below_step (bl_ HB) hb); have n5_ := am_ (hbox); have n6_ := am_ (gs_ hg HB); have n7_ := am_ (gs_ hg HB); have n8_ := am_ (nl_ hg BK239); have n9_ := am_ (ng_ hg BK239); have n10_ := am_ (nl_ hg BK240); have n11_ := am_ (ng_ hg BK240); clear HO246 HO250 BK239 BK240 HB; have HO246 := n0_; have HO250 := n1_; have BK239 := n2_; have BK240 := n3_; have HB := n4_; have BK256 := n5_; have GW256 := n6_; have GE256 := n7_; have NB239_256 := n8_; have NB256_239 := n9_; have NB240_256 := n10_; have NB256_240 := n11_; clear n0_ n1_ n2_ n3_ n4_ n5_ n6_ n7_ n8_ n9_ n10_ n11_ hb hbox hg
       obtain ⟨Ao37, co37, eo37⟩ := Kd.R_slice HO246.out
       (first | subst eo37 | (injection eo37 with f1_ f2_ f3_; have f4_ := f1_.symm; have f5_ := f3_.symm; clear f1_ f2_ f3_; subst f4_; subst f5_))
       obtain ⟨Ao38, co38, eo38⟩ := Kd.R_slice HO250.out
       (first | subst eo38 | (injection eo38 with f1_ f2_ f3_; have f4_ := f1_.symm; have f5_ := f3_.symm; clear f1_ f2_ f3_; subst f4_; subst f5_))
       refine hK.out _ _ ⟨(blk_cell BK239.out 0).trans rfl, (blk_cell BK239.out 1).trans rfl, (blk_cell BK240.out 0).trans rfl, (blk_cell BK240.out 1).trans rfl⟩ (fun hHeld => ?_)
       clear hK K
       refine norm_ (a' := ?_) ?_ ?_
       rotate_left
       ·show Act.put _ (some 6) _ = _
        exact nm_
       refine one_ (i := 4) (N := some 32) #[true, true, true, true, true, false, false, false, true, false, false] rfl rfl (one_of HT_.out (by kernel_rfl)) (by decide) (fun K hK => ?_)
       refine goes_ Tryd.func35 (by kernel_rfl) rfl #[.agg #[.int .i64 t243, .slice Ao37 t244.length co37], .agg #[.int .i64 t247, .slice Ao38 t248.length co38]] (by rfl) rfl rfl ma_ ?_
       with_reducible refine (spec_AddWholes.calls k t243 _ _ t244 t247 _ _ t248 t251 t252 t255 _ ?side1 ?side2 ?side3 ?side4 A21.out).mono ?_
       (case side1 => repeat (first | exact (Kd.R_reads' HO246.out).2.2 | (with_reducible refine Kd.C_alloc ?_ _) | (with_reducible refine Kd.C_drewN ?_ _) | (with_reducible refine Kd.C_drew ?_)))
       (case side2 => exact (Kd.R_reads' HO246.out).2.1)
       (case side3 => repeat (first | exact (Kd.R_reads' HO250.out).2.2 | (with_reducible refine Kd.C_alloc ?_ _) | (with_reducible refine Kd.C_drewN ?_ _) | (with_reducible refine Kd.C_drew ?_)))
       (case side4 => exact (Kd.R_reads' HO250.out).2.1)
       rintro e w39 ⟨v253, rfl, ho0, hb⟩
       refine ⟨_, rfl, ?_⟩
       have n0_ := am_ (Kd.R_elder' (kr_ HO246) (Kd.R_base ho0) hb); have n1_ := am_ (Kd.R_elder' (kr_ HO250) (Kd.R_base ho0) hb); have n2_ := am_ (Kd.R_lower (Kd.R_new' (Kd.R_new' ho0 (Kd.R_lt (kr_ HO246))) (Kd.R_lt (kr_ HO250))) (below_size (bl_ HB))); have n3_ := am_ (blk_below (bk_ BK239) hb); have n4_ := am_ (blk_below (bk_ BK240) hb); have n5_ := am_ (blk_below (bk_ BK256) hb); have n6_ := am_ (below_step (bl_ HB) hb); clear HO246 HO250 BK239 BK240 BK256 HB; have HO246 := n0_; have HO250 := n1_; have HO254 := n2_; have BK239 := n3_; have BK240 := n4_; have BK256 := n5_; have HB := n6_; clear n0_ n1_ n2_ n3_ n4_ n5_ n6_; (try clear hb); (try clear hb2); (try clear hk); (try clear hi); (try clear ho0)
       refine hK.out _ _ ⟨(blk_cell BK239.out 0).trans rfl, (blk_cell BK239.out 1).trans rfl, (blk_cell BK240.out 0).trans rfl, (blk_cell BK240.out 1).trans rfl⟩ (fun hHeld => ?_)
       clear hK K
       refine norm_ (a' := ?_) ?_ ?_
       rotate_left
       ·show Act.put _ (some 32) _ = _
        exact nm_
       refine pure_ (i := 5) (N := some 27) (v := ?_) (a' := ?_) #[true, true, true, true, true, true, false, false, true, false, false] rfl rfl (any_of HT_.out (by kernel_rfl)) (fun _ _ _ h => h) (Or.inl ⟨by rfl, ?_⟩) ?_ ?_
       rotate_left
       ·intro w'
        go_simp
        with_reducible rfl
       rotate_left
       ·exact nm_
       refine pure_ (i := 6) (N := some 33) (v := ?_) (a' := ?_) #[true, true, true, true, true, true, true, false, true, false, false] rfl rfl (any_of HT_.out (by kernel_rfl)) (fun _ _ _ h => h) (Or.inl ⟨by rfl, ?_⟩) ?_ ?_
       rotate_left
       ·intro w'
        go_simp
        with_reducible rfl
       rotate_left
       ·exact nm_
       refine pure_ (i := 7) (N := some 34) (v := ?_) (a' := ?_) #[true, true, true, true, true, true, true, true, true, false, false] rfl rfl (any_of HT_.out (by kernel_rfl)) (fun _ _ _ h => h) (Or.inl ⟨by rfl, ?_⟩) ?_ ?_
       rotate_left
       ·intro w'
        go_simp
        with_reducible rfl
       rotate_left
       ·exact nm_
       exact norm_ (by simp only [putAll, Act.put, List.setIfInBounds_toArray, List.set_cons_zero, List.set_cons_succ]) (hCont (.slice Ao37 t244.length co37, .slice Ao38 t248.length co38, v253, gb256) _ ⟨hHeld, (km_ HO246 (fun _ hk => ⟨hk.1.2, hk.2⟩)), (km_ HO250 (fun _ hk => ⟨hk.1.2, hk.2⟩)), (km_ HO254 (fun _ hk => ⟨hk.1.2, hk.2⟩)), (bk_ BK239), (bk_ BK240), (bk_ BK256), GW256.out, GE256.out, NB239_256.out, NB256_239.out, NB240_256.out, NB256_240.out, (bl_ HB)⟩)
     ·skip
      refine box_step ?hg (N := 6) ?hd (cs := #[.int .i64 0, .slice none 0 0]) (t := 28) ?hr ?_; (case hd => rfl); (case hg => rfl); (case hr => first | (go_simp; done) | (go_simp; rfl))
      intro gb256 hg w35 hbox hb
      have n0_ := am_ (Kd.R_below (kr_ HO246) hb); have n1_ := am_ (blk_below (bk_ BK239) hb); have n2_ := am_ (blk_below (bk_ BK240) hb); have n3_ := am_ (below_step (bl_ HB) hb); have n4_ := am_ (hbox); have n5_ := am_ (gs_ hg HB); have n6_ := am_ (gs_ hg HB); have n7_ := am_ (nl_ hg BK239); have n8_ := am_ (ng_ hg BK239); have n9_ := am_ (nl_ hg BK240); have n10_ := am_ (ng_ hg BK240); clear HO246 BK239 BK240 HB; have HO246 := n0_; have BK239 := n1_; have BK240 := n2_; have HB := n3_; have BK256 := n4_; have GW256 := n5_; have GE256 := n6_; have NB239_256 := n7_; have NB256_239 := n8_; have NB240_256 := n9_; have NB256_240 := n10_; clear n0_ n1_ n2_ n3_ n4_ n5_ n6_ n7_ n8_ n9_ n10_ hb hbox hg
      refine hK.out _ _ ⟨(blk_cell BK239.out 0).trans rfl, (blk_cell BK239.out 1).trans rfl, (blk_cell BK240.out 0).trans rfl, (blk_cell BK240.out 1).trans rfl⟩ (fun hHeld => ?_)
      clear hK K
      refine norm_ (a' := ?_) ?_ ?_
      rotate_left
      ·show Act.put _ (some 6) _ = _
       exact nm_
      refine one_ (i := 3) (N := some 31) #[true, true, true, true, false, false, false, false, true, false, false] rfl rfl (one_of HT_.out (by kernel_rfl)) (by decide) (fun K hK => ?_)
      refine goes_ Tryd.func20 (by kernel_rfl) rfl #[.agg #[.int .i64 a1_0, .slice A1_1 l1_1.length c1_1]] (by rfl) rfl rfl ma_ ?_
      with_reducible refine (laws_toWhole.calls k a1_0 _ _ l1_1 t247 t248 _ ?side1 ?side2 A20.out).mono ?_
      (case side1 => repeat (first | exact (Kd.C_below HR1_1.out HB.out) | (with_reducible refine Kd.C_alloc ?_ _) | (with_reducible refine Kd.C_drewN ?_ _) | (with_reducible refine Kd.C_drew ?_)))
      (case side2 => exact HC1_1.out)
      rintro e w36 ⟨v249, rfl, ho0, hb⟩
      refine ⟨_, rfl, ?_⟩
      have n0_ := am_ (Kd.R_elder' (kr_ HO246) (Kd.R_base ho0) hb); have n1_ := am_ (Kd.R_lower (Kd.R_new' ho0 (Kd.R_lt (kr_ HO246))) (below_size (bl_ HB))); have n2_ := am_ (blk_below (bk_ BK239) hb); have n3_ := am_ (blk_below (bk_ BK240) hb); have n4_ := am_ (blk_below (bk_ BK256) hb); have n5_ := am_ (below_step (bl_ HB) hb); clear HO246 BK239 BK240 BK256 HB; have HO246 := n0_; have HO250 := n1_; have BK239 := n2_; have BK240 := n3_; have BK256 := n4_; have HB := n5_; clear n0_ n1_ n2_ n3_ n4_ n5_; (try clear hb); (try clear hb2); (try clear hk); (try clear hi); (try clear ho0)
      obtain ⟨Ao37, co37, eo37⟩ := Kd.R_slice HO246.out
      (first | subst eo37 | (injection eo37 with f1_ f2_ f3_; have f4_ := f1_.symm; have f5_ := f3_.symm; clear f1_ f2_ f3_; subst f4_; subst f5_))
      obtain ⟨Ao38, co38, eo38⟩ := Kd.R_slice HO250.out
      (first | subst eo38 | (injection eo38 with f1_ f2_ f3_; have f4_ := f1_.symm; have f5_ := f3_.symm; clear f1_ f2_ f3_; subst f4_; subst f5_))
      refine hK.out _ _ ⟨(blk_cell BK239.out 0).trans rfl, (blk_cell BK239.out 1).trans rfl, (blk_cell BK240.out 0).trans rfl, (blk_cell BK240.out 1).trans rfl⟩ (fun hHeld => ?_)
      clear hK K
      refine norm_ (a' := ?_) ?_ ?_
      rotate_left
      ·show Act.put _ (some 31) _ = _
       exact nm_
      refine one_ (i := 4) (N := some 32) #[true, true, true, true, true, false, false, false, true, false, false] rfl rfl (one_of HT_.out (by kernel_rfl)) (by decide) (fun K hK => ?_)
      refine goes_ Tryd.func35 (by kernel_rfl) rfl #[.agg #[.int .i64 t243, .slice Ao37 t244.length co37], .agg #[.int .i64 t247, .slice Ao38 t248.length co38]] (by rfl) rfl rfl ma_ ?_
      with_reducible refine (spec_AddWholes.calls k t243 _ _ t244 t247 _ _ t248 t251 t252 t255 _ ?side1 ?side2 ?side3 ?side4 A21.out).mono ?_
      (case side1 => repeat (first | exact (Kd.R_reads' HO246.out).2.2 | (with_reducible refine Kd.C_alloc ?_ _) | (with_reducible refine Kd.C_drewN ?_ _) | (with_reducible refine Kd.C_drew ?_)))
      (case side2 => exact (Kd.R_reads' HO246.out).2.1)
      (case side3 => repeat (first | exact (Kd.R_reads' HO250.out).2.2 | (with_reducible refine Kd.C_alloc ?_ _) | (with_reducible refine Kd.C_drewN ?_ _) | (with_reducible refine Kd.C_drew ?_)))
      (case side4 => exact (Kd.R_reads' HO250.out).2.1)
      rintro e w39 ⟨v253, rfl, ho0, hb⟩
      refine ⟨_, rfl, ?_⟩
      have n0_ := am_ (Kd.R_elder' (kr_ HO246) (Kd.R_base ho0) hb); have n1_ := am_ (Kd.R_elder' (kr_ HO250) (Kd.R_base ho0) hb); have n2_ := am_ (Kd.R_lower (Kd.R_new' (Kd.R_new' ho0 (Kd.R_lt (kr_ HO246))) (Kd.R_lt (kr_ HO250))) (below_size (bl_ HB))); have n3_ := am_ (blk_below (bk_ BK239) hb); have n4_ := am_ (blk_below (bk_ BK240) hb); have n5_ := am_ (blk_below (bk_ BK256) hb); have n6_ := am_ (below_step (bl_ HB) hb); clear HO246 HO250 BK239 BK240 BK256 HB; have HO246 := n0_; have HO250 := n1_; have HO254 := n2_; have BK239 := n3_; have BK240 := n4_; have BK256 := n5_; have HB := n6_; clear n0_ n1_ n2_ n3_ n4_ n5_ n6_; (try clear hb); (try clear hb2); (try clear hk); (try clear hi); (try clear ho0)
      refine hK.out _ _ ⟨(blk_cell BK239.out 0).trans rfl, (blk_cell BK239.out 1).trans rfl, (blk_cell BK240.out 0).trans rfl, (blk_cell BK240.out 1).trans rfl⟩ (fun hHeld => ?_)
      clear hK K
      refine norm_ (a' := ?_) ?_ ?_
      rotate_left
      ·show Act.put _ (some 32) _ = _
       exact nm_
      refine pure_ (i := 5) (N := some 27) (v := ?_) (a' := ?_) #[true, true, true, true, true, true, false, false, true, false, false] rfl rfl (any_of HT_.out (by kernel_rfl)) (fun _ _ _ h => h) (Or.inl ⟨by rfl, ?_⟩) ?_ ?_
      rotate_left
      ·intro w'
       go_simp
       with_reducible rfl
      rotate_left
      ·exact nm_
      refine pure_ (i := 6) (N := some 33) (v := ?_) (a' := ?_) #[true, true, true, true, true, true, true, false, true, false, false] rfl rfl (any_of HT_.out (by kernel_rfl)) (fun _ _ _ h => h) (Or.inl ⟨by rfl, ?_⟩) ?_ ?_
      rotate_left
      ·intro w'
       go_simp
       with_reducible rfl
      rotate_left
      ·exact nm_
      refine pure_ (i := 7) (N := some 34) (v := ?_) (a' := ?_) #[true, true, true, true, true, true, true, true, true, false, false] rfl rfl (any_of HT_.out (by kernel_rfl)) (fun _ _ _ h => h) (Or.inl ⟨by rfl, ?_⟩) ?_ ?_
      rotate_left
      ·intro w'
       go_simp
       with_reducible rfl
      rotate_left
      ·exact nm_
      exact norm_ (by simp only [putAll, Act.put, List.setIfInBounds_toArray, List.set_cons_zero, List.set_cons_succ]) (hCont (.slice Ao37 t244.length co37, .slice Ao38 t248.length co38, v253, gb256) _ ⟨hHeld, (km_ HO246 (fun _ hk => ⟨hk.1.2, hk.2⟩)), (km_ HO250 (fun _ hk => ⟨hk.1.2, hk.2⟩)), (km_ HO254 (fun _ hk => ⟨hk.1.2, hk.2⟩)), (bk_ BK239), (bk_ BK240), (bk_ BK256), GW256.out, GE256.out, NB239_256.out, NB256_239.out, NB240_256.out, NB256_240.out, (bl_ HB)⟩)
    ·skip
     refine box_step ?hg (N := 6) ?hd (cs := #[.int .i64 0, .slice none 0 0]) (t := 28) ?hr ?_; (case hd => rfl); (case hg => rfl); (case hr => first | (go_simp; done) | (go_simp; rfl))
     intro gb256 hg w34 hbox hb
     have n0_ := am_ (blk_below (bk_ BK239) hb); have n1_ := am_ (blk_below (bk_ BK240) hb); have n2_ := am_ (below_step (bl_ HB) hb); have n3_ := am_ (hbox); have n4_ := am_ (gs_ hg HB); have n5_ := am_ (gs_ hg HB); have n6_ := am_ (nl_ hg BK239); have n7_ := am_ (ng_ hg BK239); have n8_ := am_ (nl_ hg BK240); have n9_ := am_ (ng_ hg BK240); clear BK239 BK240 HB; have BK239 := n0_; have BK240 := n1_; have HB := n2_; have BK256 := n3_; have GW256 := n4_; have GE256 := n5_; have NB239_256 := n6_; have NB256_239 := n7_; have NB240_256 := n8_; have NB256_240 := n9_; clear n0_ n1_ n2_ n3_ n4_ n5_ n6_ n7_ n8_ n9_ hb hbox hg
     refine hK.out _ _ ⟨(blk_cell BK239.out 0).trans rfl, (blk_cell BK239.out 1).trans rfl, (blk_cell BK240.out 0).trans rfl, (blk_cell BK240.out 1).trans rfl⟩ (fun hHeld => ?_)
     clear hK K
     refine norm_ (a' := ?_) ?_ ?_
     rotate_left
     ·show Act.put _ (some 6) _ = _
      exact nm_
     refine one_ (i := 1) (N := some 29) #[true, true, true, false, false, false, false, false, true, false, false] rfl rfl (one_of HT_.out (by kernel_rfl)) (by decide) (fun K hK => ?_)
     refine goes_ Tryd.func20 (by kernel_rfl) rfl #[.agg #[.int .i64 a0_0, .slice A0_1 l0_1.length c0_1]] (by rfl) rfl rfl ma_ ?_
     with_reducible refine (laws_toWhole.calls k a0_0 _ _ l0_1 t243 t244 _ ?side1 ?side2 A19.out).mono ?_
     (case side1 => repeat (first | exact (Kd.C_below HR0_1.out HB.out) | (with_reducible refine Kd.C_alloc ?_ _) | (with_reducible refine Kd.C_drewN ?_ _) | (with_reducible refine Kd.C_drew ?_)))
     (case side2 => exact HC0_1.out)
     rintro e w35 ⟨v245, rfl, ho0, hb⟩
     refine ⟨_, rfl, ?_⟩
     have n0_ := am_ (Kd.R_lower ho0 (below_size (bl_ HB))); have n1_ := am_ (blk_below (bk_ BK239) hb); have n2_ := am_ (blk_below (bk_ BK240) hb); have n3_ := am_ (blk_below (bk_ BK256) hb); have n4_ := am_ (below_step (bl_ HB) hb); clear BK239 BK240 BK256 HB; have HO246 := n0_; have BK239 := n1_; have BK240 := n2_; have BK256 := n3_; have HB := n4_; clear n0_ n1_ n2_ n3_ n4_; (try clear hb); (try clear hb2); (try clear hk); (try clear hi); (try clear ho0)
     refine hK.out _ _ ⟨(blk_cell BK239.out 0).trans rfl, (blk_cell BK239.out 1).trans rfl, (blk_cell BK240.out 0).trans rfl, (blk_cell BK240.out 1).trans rfl⟩ (fun hHeld => ?_)
     clear hK K
     refine norm_ (a' := ?_) ?_ ?_
     rotate_left
     ·show Act.put _ (some 29) _ = _
      exact nm_
     refine one_ (i := 3) (N := some 31) #[true, true, true, true, false, false, false, false, true, false, false] rfl rfl (one_of HT_.out (by kernel_rfl)) (by decide) (fun K hK => ?_)
     refine goes_ Tryd.func20 (by kernel_rfl) rfl #[.agg #[.int .i64 a1_0, .slice A1_1 l1_1.length c1_1]] (by rfl) rfl rfl ma_ ?_
     with_reducible refine (laws_toWhole.calls k a1_0 _ _ l1_1 t247 t248 _ ?side1 ?side2 A20.out).mono ?_
     (case side1 => repeat (first | exact (Kd.C_below HR1_1.out HB.out) | (with_reducible refine Kd.C_alloc ?_ _) | (with_reducible refine Kd.C_drewN ?_ _) | (with_reducible refine Kd.C_drew ?_)))
     (case side2 => exact HC1_1.out)
     rintro e w36 ⟨v249, rfl, ho0, hb⟩
     refine ⟨_, rfl, ?_⟩
     have n0_ := am_ (Kd.R_elder' (kr_ HO246) (Kd.R_base ho0) hb); have n1_ := am_ (Kd.R_lower (Kd.R_new' ho0 (Kd.R_lt (kr_ HO246))) (below_size (bl_ HB))); have n2_ := am_ (blk_below (bk_ BK239) hb); have n3_ := am_ (blk_below (bk_ BK240) hb); have n4_ := am_ (blk_below (bk_ BK256) hb); have n5_ := am_ (below_step (bl_ HB) hb); clear HO246 BK239 BK240 BK256 HB; have HO246 := n0_; have HO250 := n1_; have BK239 := n2_; have BK240 := n3_; have BK256 := n4_; have HB := n5_; clear n0_ n1_ n2_ n3_ n4_ n5_; (try clear hb); (try clear hb2); (try clear hk); (try clear hi); (try clear ho0)
     obtain ⟨Ao37, co37, eo37⟩ := Kd.R_slice HO246.out
     (first | subst eo37 | (injection eo37 with f1_ f2_ f3_; have f4_ := f1_.symm; have f5_ := f3_.symm; clear f1_ f2_ f3_; subst f4_; subst f5_))
     obtain ⟨Ao38, co38, eo38⟩ := Kd.R_slice HO250.out
     (first | subst eo38 | (injection eo38 with f1_ f2_ f3_; have f4_ := f1_.symm; have f5_ := f3_.symm; clear f1_ f2_ f3_; subst f4_; subst f5_))
     refine hK.out _ _ ⟨(blk_cell BK239.out 0).trans rfl, (blk_cell BK239.out 1).trans rfl, (blk_cell BK240.out 0).trans rfl, (blk_cell BK240.out 1).trans rfl⟩ (fun hHeld => ?_)
     clear hK K
     refine norm_ (a' := ?_) ?_ ?_
     rotate_left
     ·show Act.put _ (some 31) _ = _
      exact nm_
     refine one_ (i := 4) (N := some 32) #[true, true, true, true, true, false, false, false, true, false, false] rfl rfl (one_of HT_.out (by kernel_rfl)) (by decide) (fun K hK => ?_)
     refine goes_ Tryd.func35 (by kernel_rfl) rfl #[.agg #[.int .i64 t243, .slice Ao37 t244.length co37], .agg #[.int .i64 t247, .slice Ao38 t248.length co38]] (by rfl) rfl rfl ma_ ?_
     with_reducible refine (spec_AddWholes.calls k t243 _ _ t244 t247 _ _ t248 t251 t252 t255 _ ?side1 ?side2 ?side3 ?side4 A21.out).mono ?_
     (case side1 => repeat (first | exact (Kd.R_reads' HO246.out).2.2 | (with_reducible refine Kd.C_alloc ?_ _) | (with_reducible refine Kd.C_drewN ?_ _) | (with_reducible refine Kd.C_drew ?_)))
     (case side2 => exact (Kd.R_reads' HO246.out).2.1)
     (case side3 => repeat (first | exact (Kd.R_reads' HO250.out).2.2 | (with_reducible refine Kd.C_alloc ?_ _) | (with_reducible refine Kd.C_drewN ?_ _) | (with_reducible refine Kd.C_drew ?_)))
     (case side4 => exact (Kd.R_reads' HO250.out).2.1)
     rintro e w39 ⟨v253, rfl, ho0, hb⟩
     refine ⟨_, rfl, ?_⟩
     have n0_ := am_ (Kd.R_elder' (kr_ HO246) (Kd.R_base ho0) hb); have n1_ := am_ (Kd.R_elder' (kr_ HO250) (Kd.R_base ho0) hb); have n2_ := am_ (Kd.R_lower (Kd.R_new' (Kd.R_new' ho0 (Kd.R_lt (kr_ HO246))) (Kd.R_lt (kr_ HO250))) (below_size (bl_ HB))); have n3_ := am_ (blk_below (bk_ BK239) hb); have n4_ := am_ (blk_below (bk_ BK240) hb); have n5_ := am_ (blk_below (bk_ BK256) hb); have n6_ := am_ (below_step (bl_ HB) hb); clear HO246 HO250 BK239 BK240 BK256 HB; have HO246 := n0_; have HO250 := n1_; have HO254 := n2_; have BK239 := n3_; have BK240 := n4_; have BK256 := n5_; have HB := n6_; clear n0_ n1_ n2_ n3_ n4_ n5_ n6_; (try clear hb); (try clear hb2); (try clear hk); (try clear hi); (try clear ho0)
     refine hK.out _ _ ⟨(blk_cell BK239.out 0).trans rfl, (blk_cell BK239.out 1).trans rfl, (blk_cell BK240.out 0).trans rfl, (blk_cell BK240.out 1).trans rfl⟩ (fun hHeld => ?_)
     clear hK K
     refine norm_ (a' := ?_) ?_ ?_
     rotate_left
     ·show Act.put _ (some 32) _ = _
      exact nm_
     refine pure_ (i := 5) (N := some 27) (v := ?_) (a' := ?_) #[true, true, true, true, true, true, false, false, true, false, false] rfl rfl (any_of HT_.out (by kernel_rfl)) (fun _ _ _ h => h) (Or.inl ⟨by rfl, ?_⟩) ?_ ?_
     rotate_left
     ·intro w'
      go_simp
      with_reducible rfl
     rotate_left
     ·exact nm_
     refine pure_ (i := 6) (N := some 33) (v := ?_) (a' := ?_) #[true, true, true, true, true, true, true, false, true, false, false] rfl rfl (any_of HT_.out (by kernel_rfl)) (fun _ _ _ h => h) (Or.inl ⟨by rfl, ?_⟩) ?_ ?_
     rotate_left
     ·intro w'
      go_simp
      with_reducible rfl
     rotate_left
     ·exact nm_
     refine pure_ (i := 7) (N := some 34) (v := ?_) (a' := ?_) #[true, true, true, true, true, true, true, true, true, false, false] rfl rfl (any_of HT_.out (by kernel_rfl)) (fun _ _ _ h => h) (Or.inl ⟨by rfl, ?_⟩) ?_ ?_
     rotate_left
     ·intro w'
      go_simp
      with_reducible rfl
     rotate_left
     ·exact nm_
     exact norm_ (by simp only [putAll, Act.put, List.setIfInBounds_toArray, List.set_cons_zero, List.set_cons_succ]) (hCont (.slice Ao37 t244.length co37, .slice Ao38 t248.length co38, v253, gb256) _ ⟨hHeld, (km_ HO246 (fun _ hk => ⟨hk.1.2, hk.2⟩)), (km_ HO250 (fun _ hk => ⟨hk.1.2, hk.2⟩)), (km_ HO254 (fun _ hk => ⟨hk.1.2, hk.2⟩)), (bk_ BK239), (bk_ BK240), (bk_ BK256), GW256.out, GE256.out, NB239_256.out, NB256_239.out, NB240_256.out, NB256_240.out, (bl_ HB)⟩)
   rintro ⟨v245, v249, v253, gb256⟩ w40 ⟨hS_, h0_, h1_, h2_, h3_, h4_, h5_, h6_, h7_, h8_, h9_, h10_, h11_, h12_⟩
   have n0_ : Aside0 (Kd.R (Kd.int .i64) 2 w40 w.heap.size (fun k_ => some k_ ≠ (v249 : Value).ownBlock ∧ some k_ ≠ (v253 : Value).ownBlock) v245 t244) := ⟨h0_⟩
   have n1_ : Aside0 (Kd.R (Kd.int .i64) 2 w40 w.heap.size (fun k_ => some k_ ≠ (v245 : Value).ownBlock ∧ some k_ ≠ (v253 : Value).ownBlock) v249 t248) := ⟨h1_⟩
   have n2_ : Aside0 (Kd.R (Kd.int .i64) 2 w40 w.heap.size (fun k_ => some k_ ≠ (v245 : Value).ownBlock ∧ some k_ ≠ (v249 : Value).ownBlock) v253 t252) := ⟨h2_⟩
   have n3_ : Aside0 (w40.heap[gb239]? = some (.cells #[.int .i64 a0_0, .slice A0_1 l0_1.length c0_1] 24 (0, 0))) := ⟨h3_⟩
   have n4_ : Aside0 (w40.heap[gb240]? = some (.cells #[.int .i64 a1_0, .slice A1_1 l1_1.length c1_1] 24 (0, 0))) := ⟨h4_⟩
   have n5_ : Aside0 (w40.heap[gb256]? = some (.cells #[.int .i64 0, .slice none 0 0] 28 (0, 0))) := ⟨h5_⟩
   have n6_ : Aside0 (w.heap.size ≤ gb256) := ⟨h6_⟩
   have n7_ : Aside0 (w.heap.size ≤ gb256) := ⟨h7_⟩
   have n8_ : Aside0 (gb239 ≠ gb256) := ⟨h8_⟩
   have n9_ : Aside0 (gb256 ≠ gb239) := ⟨h9_⟩
   have n10_ : Aside0 (gb240 ≠ gb256) := ⟨h10_⟩
   have n11_ : Aside0 (gb256 ≠ gb240) := ⟨h11_⟩
   have n12_ : Aside0 (Below w.heap.size w w40) := ⟨h12_⟩
   clear BK239 BK240 HB h0_ h1_ h2_ h3_ h4_ h5_ h6_ h7_ h8_ h9_ h10_ h11_ h12_; have HO246 := n0_; have HO250 := n1_; have HO254 := n2_; have BK239 := n3_; have BK240 := n4_; have BK256 := n5_; have GW256 := n6_; have GE256 := n7_; have NB239_256 := n8_; have NB256_239 := n9_; have NB240_256 := n10_; have NB256_240 := n11_; have HB := n12_; clear n0_ n1_ n2_ n3_ n4_ n5_ n6_ n7_ n8_ n9_ n10_ n11_ n12_
   have hHeld : w40.cell? ⟨gb239, 0, none⟩ = some (.int .i64 a0_0) ∧ w40.cell? ⟨gb239, 1, none⟩ = some (.slice A0_1 l0_1.length c0_1) ∧ w40.cell? ⟨gb240, 0, none⟩ = some (.int .i64 a1_0) ∧ w40.cell? ⟨gb240, 1, none⟩ = some (.slice A1_1 l1_1.length c1_1) := hS_
   obtain ⟨Ao42, co42, eo42⟩ := Kd.R_slice HO254.out
   (first | subst eo42 | (injection eo42 with f1_ f2_ f3_; have f4_ := f1_.symm; have f5_ := f3_.symm; clear f1_ f2_ f3_; subst f4_; subst f5_))
   refine norm_ (a' := ?_) ?_ ?_
   rotate_left
   ·simp only [putAll, Act.put, List.setIfInBounds_toArray, List.set_cons_zero, List.set_cons_succ]
    rfl
   refine one_ (i := 9) (N := none) #[true, true, true, true, true, true, true, true, true, true, false] rfl rfl (one_of HT_.out (by kernel_rfl)) (by decide) (fun K hK => ?_)
   have hs41 : w40.cell? ⟨gb256, 0, none⟩ = some (.int .i64 0) := (blk_cell BK256.out 0).trans rfl
   have hfs41 := blk_frozen BK256.out 0; have hns41_0 := NB239_256.out; have hns41_1 := NB240_256.out; have hms41_0 := NB256_239.out; have hms41_1 := NB256_240.out
   have hs43 : w40.cell? ⟨gb256, 1, none⟩ = some (.slice none 0 0) := (blk_cell BK256.out 1).trans rfl
   have hfs43 := blk_frozen BK256.out 1; have hns43_0 := NB239_256.out; have hns43_1 := NB240_256.out; have hms43_0 := NB256_239.out; have hms43_1 := NB256_240.out
   refine skip_ (w1 := ?_) (by rfl) rfl ?_ ?_
   rotate_left
   ·go_simp
    rfl
   refine hK.out _ _ ⟨((cell_far (p := ⟨gb256, _, none⟩) NB239_256.out _).trans (((cell_far (p := ⟨gb256, _, none⟩) NB239_256.out _).trans (hHeld.1)))), ((cell_far (p := ⟨gb256, _, none⟩) NB239_256.out _).trans (((cell_far (p := ⟨gb256, _, none⟩) NB239_256.out _).trans (hHeld.2.1)))), ((cell_far (p := ⟨gb256, _, none⟩) NB240_256.out _).trans (((cell_far (p := ⟨gb256, _, none⟩) NB240_256.out _).trans (hHeld.2.2.1)))), ((cell_far (p := ⟨gb256, _, none⟩) NB240_256.out _).trans (((cell_far (p := ⟨gb256, _, none⟩) NB240_256.out _).trans (hHeld.2.2.2))))⟩ (fun hHeld => ?_)
   clear hK K
   refine pure_ (i := 10) (N := some 7) (v := ?_) (a' := ?_) #[true, true, true, true, true, true, true, true, true, true, true] rfl rfl (any_of HT_.out (by kernel_rfl)) (fun _ _ _ h => h) (Or.inl ⟨by rfl, ?_⟩) ?_ ?_
   rotate_left
   ·intro w'
    go_simp
    with_reducible rfl
   rotate_left
   ·exact nm_
   refine done_ (done_of HT_.out (by kernel_rfl)) ?_
   have hnb44 := NB239_256.out; have hnc44 := NB256_239.out
   have hcz45_0 : w40.cell? ⟨gb239, 0, none⟩ = some (.int .i64 a0_0) := (blk_cell BK239.out 0).trans rfl
   have hcz45_1 : w40.cell? ⟨gb239, 1, none⟩ = some (.slice A0_1 l0_1.length c0_1) := (blk_cell BK239.out 1).trans rfl
   have hfz45_0 := blk_frozen BK239.out 0; have hfz45_1 := blk_frozen BK239.out 1
   go_upto_region 12 with (first | ((with_reducible refine gate_callee (f := 20) rfl ?_); refine goesL_ (some 36) rfl rfl Tryd.func20 (by kernel_rfl) rfl #[.agg #[.int .i64 a0_0, .slice A0_1 l0_1.length c0_1]] rfl ma_ ?_; (with_reducible refine (laws_toWhole.calls k a0_0 _ _ l0_1 t257 t258 _ ?side1 ?side2 A22.out).mono ?_); (case side1 => exact Kd.C_below HR0_1.out (bl_ HB)); (case side2 => exact HC0_1.out); rintro e w46 ⟨v259, rfl, ho0, hb⟩; refine ⟨_, rfl, ?_⟩; have n0_ := am_ (Kd.R_elder' (rg_ HO246 BK256) (Kd.R_base ho0) hb); have n1_ := am_ (Kd.R_elder' (rg_ HO250 BK256) (Kd.R_base ho0) hb); have n2_ := am_ (Kd.R_elder' (rg_ HO254 BK256) (Kd.R_base ho0) hb); have n3_ := am_ (Kd.R_lower (Kd.R_new' (Kd.R_new' (Kd.R_new' ho0 (Kd.R_lt (rg_ HO246 BK256))) (Kd.R_lt (rg_ HO250 BK256))) (Kd.R_lt (rg_ HO254 BK256))) (below_size (bl_ HB))); have n4_ := am_ (blk_below (bk_ BK239) hb); have n5_ := am_ (blk_below (bk_ BK240) hb); have n6_ := am_ (blk_below (g := gb256) (o := .cells #[.int .i64 t251, .slice Ao42 t252.length co42] 28 (0, 0)) (by (with_reducible repeat (first | refine blk_drewN ?_ _ | refine blk_drew ?_ | refine blk_alloc ?_ _)); refine blk_put (cs := #[.int .i64 t251, .slice none 0 0]) ?_ 1 _ rfl; (with_reducible repeat (first | refine blk_drewN ?_ _ | refine blk_drew ?_ | refine blk_alloc ?_ _)); refine blk_put (cs := #[.int .i64 0, .slice none 0 0]) ?_ 0 _ rfl; (with_reducible repeat (first | refine blk_drewN ?_ _ | refine blk_drew ?_ | refine blk_alloc ?_ _)); exact BK256.out) hb); have n7_ := am_ (below_step (bl_ HB) hb); clear HO246; clear HO250; clear HO254; clear BK239; clear BK240; clear BK256; clear HB; have HO246 := n0_; have HO250 := n1_; have HO254 := n2_; have HO260 := n3_; have BK239 := n4_; have BK240 := n5_; have BK256 := n6_; have HB := n7_; clear n0_ n1_ n2_ n3_ n4_ n5_ n6_ n7_; (try clear hb); (try clear hb2); (try clear hk); (try clear hi); (try clear ho0)) | ((with_reducible refine gate_dst (N := 8) rfl ?_); refine box_event ?hg (N := 8) ?hd (cs := #[.int .i64 0, .slice none 0 0]) (t := 28) ?hr ?_; (case hd => rfl); (case hg => rfl); (case hr => first | (go_simp; done) | (go_simp; rfl)); intro gb261 hg w47 hbox hb; have n0_ := am_ (Kd.R_below (kr_ HO246) hb); have n1_ := am_ (Kd.R_below (kr_ HO250) hb); have n2_ := am_ (Kd.R_below (kr_ HO254) hb); have n3_ := am_ (Kd.R_below (kr_ HO260) hb); have n4_ := am_ (blk_below (bk_ BK239) hb); have n5_ := am_ (blk_below (bk_ BK240) hb); have n6_ := am_ (blk_below (bk_ BK256) hb); have n7_ := am_ (below_step (bl_ HB) hb); have n8_ := am_ (hbox); have n9_ := am_ (gs_ hg HB); have n10_ := am_ (gs_ hg HB); have n11_ := am_ (nl_ hg BK239); have n12_ := am_ (ng_ hg BK239); have n13_ := am_ (nl_ hg BK240); have n14_ := am_ (ng_ hg BK240); have n15_ := am_ (nl_ hg BK256); have n16_ := am_ (ng_ hg BK256); clear HO246; clear HO250; clear HO254; clear HO260; clear BK239; clear BK240; clear BK256; clear HB; have HO246 := n0_; have HO250 := n1_; have HO254 := n2_; have HO260 := n3_; have BK239 := n4_; have BK240 := n5_; have BK256 := n6_; have HB := n7_; have BK261 := n8_; have GW261 := n9_; have GE261 := n10_; have NB239_261 := n11_; have NB261_239 := n12_; have NB240_261 := n13_; have NB261_240 := n14_; have NB256_261 := n15_; have NB261_256 := n16_; clear n0_ n1_ n2_ n3_ n4_ n5_ n6_ n7_ n8_ n9_ n10_ n11_ n12_ n13_ n14_ n15_ n16_; clear hb hbox hg; have hnb48 := NB261_239.out; have hnc48 := NB239_261.out; have hnb49 := NB261_240.out; have hnc49 := NB240_261.out; have hnb50 := NB261_256.out; have hnc50 := NB256_261.out; have hcz51_0 : w47.cell? ⟨gb261, 0, none⟩ = some (.int .i64 0) := (blk_cell BK261.out 0).trans rfl; have hcz51_1 : w47.cell? ⟨gb261, 1, none⟩ = some (.slice none 0 0) := (blk_cell BK261.out 1).trans rfl; have hfz51_0 := blk_frozen BK261.out 0; have hfz51_1 := blk_frozen BK261.out 1; obtain ⟨Ao52, co52, eo52⟩ := Kd.R_slice HO260.out; subst eo52; have hnb53 := NB240_256.out; have hnc53 := NB256_240.out; have hcz54_0 : w47.cell? ⟨gb240, 0, none⟩ = some (.int .i64 a1_0) := (blk_cell BK240.out 0).trans rfl; have hcz54_1 : w47.cell? ⟨gb240, 1, none⟩ = some (.slice A1_1 l1_1.length c1_1) := (blk_cell BK240.out 1).trans rfl; have hfz54_0 := blk_frozen BK240.out 0; have hfz54_1 := blk_frozen BK240.out 1) | ((with_reducible refine gate_callee (f := 20) rfl ?_); refine goesL_ (some 38) rfl rfl Tryd.func20 (by kernel_rfl) rfl #[.agg #[.int .i64 a1_0, .slice A1_1 l1_1.length c1_1]] rfl ma_ ?_; (with_reducible refine (laws_toWhole.calls k a1_0 _ _ l1_1 t262 t263 _ ?side1 ?side2 A23.out).mono ?_); (case side1 => exact Kd.C_below HR1_1.out (bl_ HB)); (case side2 => exact HC1_1.out); rintro e w55 ⟨v264, rfl, ho0, hb⟩; refine ⟨_, rfl, ?_⟩; have n0_ := am_ (Kd.R_elder' (rg_ HO246 BK261) (Kd.R_base ho0) hb); have n1_ := am_ (Kd.R_elder' (rg_ HO250 BK261) (Kd.R_base ho0) hb); have n2_ := am_ (Kd.R_elder' (rg_ HO254 BK261) (Kd.R_base ho0) hb); have n3_ := am_ (Kd.R_elder' (rg_ HO260 BK261) (Kd.R_base ho0) hb); have n4_ := am_ (Kd.R_lower (Kd.R_new' (Kd.R_new' (Kd.R_new' (Kd.R_new' ho0 (Kd.R_lt (rg_ HO246 BK261))) (Kd.R_lt (rg_ HO250 BK261))) (Kd.R_lt (rg_ HO254 BK261))) (Kd.R_lt (rg_ HO260 BK261))) (below_size (bl_ HB))); have n5_ := am_ (blk_below (bk_ BK239) hb); have n6_ := am_ (blk_below (bk_ BK240) hb); have n7_ := am_ (blk_below (bk_ BK256) hb); have n8_ := am_ (blk_below (g := gb261) (o := .cells #[.int .i64 t257, .slice Ao52 t258.length co52] 28 (0, 0)) (by (with_reducible repeat (first | refine blk_drewN ?_ _ | refine blk_drew ?_ | refine blk_alloc ?_ _)); refine blk_put (cs := #[.int .i64 t257, .slice none 0 0]) ?_ 1 _ rfl; (with_reducible repeat (first | refine blk_drewN ?_ _ | refine blk_drew ?_ | refine blk_alloc ?_ _)); refine blk_put (cs := #[.int .i64 0, .slice none 0 0]) ?_ 0 _ rfl; (with_reducible repeat (first | refine blk_drewN ?_ _ | refine blk_drew ?_ | refine blk_alloc ?_ _)); exact BK261.out) hb); have n9_ := am_ (below_step (bl_ HB) hb); clear HO246; clear HO250; clear HO254; clear HO260; clear BK239; clear BK240; clear BK256; clear BK261; clear HB; have HO246 := n0_; have HO250 := n1_; have HO254 := n2_; have HO260 := n3_; have HO265 := n4_; have BK239 := n5_; have BK240 := n6_; have BK256 := n7_; have BK261 := n8_; have HB := n9_; clear n0_ n1_ n2_ n3_ n4_ n5_ n6_ n7_ n8_ n9_; (try clear hb); (try clear hb2); (try clear hk); (try clear hi); (try clear ho0)) | ((with_reducible refine gate_dst (N := 9) rfl ?_); refine box_event ?hg (N := 9) ?hd (cs := #[.int .i64 0, .slice none 0 0]) (t := 28) ?hr ?_; (case hd => rfl); (case hg => rfl); (case hr => first | (go_simp; done) | (go_simp; rfl)); intro gb266 hg w56 hbox hb; have n0_ := am_ (Kd.R_below (kr_ HO246) hb); have n1_ := am_ (Kd.R_below (kr_ HO250) hb); have n2_ := am_ (Kd.R_below (kr_ HO254) hb); have n3_ := am_ (Kd.R_below (kr_ HO260) hb); have n4_ := am_ (Kd.R_below (kr_ HO265) hb); have n5_ := am_ (blk_below (bk_ BK239) hb); have n6_ := am_ (blk_below (bk_ BK240) hb); have n7_ := am_ (blk_below (bk_ BK256) hb); have n8_ := am_ (blk_below (bk_ BK261) hb); have n9_ := am_ (below_step (bl_ HB) hb); have n10_ := am_ (hbox); have n11_ := am_ (gs_ hg HB); have n12_ := am_ (gs_ hg HB); have n13_ := am_ (nl_ hg BK239); have n14_ := am_ (ng_ hg BK239); have n15_ := am_ (nl_ hg BK240); have n16_ := am_ (ng_ hg BK240); have n17_ := am_ (nl_ hg BK256); have n18_ := am_ (ng_ hg BK256); have n19_ := am_ (nl_ hg BK261); have n20_ := am_ (ng_ hg BK261); clear HO246; clear HO250; clear HO254; clear HO260; clear HO265; clear BK239; clear BK240; clear BK256; clear BK261; clear HB; have HO246 := n0_; have HO250 := n1_; have HO254 := n2_; have HO260 := n3_; have HO265 := n4_; have BK239 := n5_; have BK240 := n6_; have BK256 := n7_; have BK261 := n8_; have HB := n9_; have BK266 := n10_; have GW266 := n11_; have GE266 := n12_; have NB239_266 := n13_; have NB266_239 := n14_; have NB240_266 := n15_; have NB266_240 := n16_; have NB256_266 := n17_; have NB266_256 := n18_; have NB261_266 := n19_; have NB266_261 := n20_; clear n0_ n1_ n2_ n3_ n4_ n5_ n6_ n7_ n8_ n9_ n10_ n11_ n12_ n13_ n14_ n15_ n16_ n17_ n18_ n19_ n20_; clear hb hbox hg; have hnb57 := NB266_239.out; have hnc57 := NB239_266.out; have hnb58 := NB266_240.out; have hnc58 := NB240_266.out; have hnb59 := NB266_256.out; have hnc59 := NB256_266.out; have hnb60 := NB266_261.out; have hnc60 := NB261_266.out; have hcz61_0 : w56.cell? ⟨gb266, 0, none⟩ = some (.int .i64 0) := (blk_cell BK266.out 0).trans rfl; have hcz61_1 : w56.cell? ⟨gb266, 1, none⟩ = some (.slice none 0 0) := (blk_cell BK266.out 1).trans rfl; have hfz61_0 := blk_frozen BK266.out 0; have hfz61_1 := blk_frozen BK266.out 1; obtain ⟨Ao62, co62, eo62⟩ := Kd.R_slice HO265.out; subst eo62; have hcz63_0 : w56.cell? ⟨gb261, 0, none⟩ = some (.int .i64 t257) := (blk_cell BK261.out 0).trans rfl; have hcz63_1 : w56.cell? ⟨gb261, 1, none⟩ = some (.slice Ao52 t258.length co52) := (blk_cell BK261.out 1).trans rfl; have hfz63_0 := blk_frozen BK261.out 0; have hfz63_1 := blk_frozen BK261.out 1) | ((with_reducible refine gate_callee (f := 36) rfl ?_); refine goesL_ (some 42) rfl rfl Tryd.func36 (by kernel_rfl) rfl #[.agg #[.int .i64 t257, .slice Ao52 t258.length co52], .agg #[.int .i64 t262, .slice Ao62 t263.length co62]] rfl ma_ ?_; (with_reducible refine (impl_AddWholes.calls t257 _ _ t258 t262 _ _ t263 t267 t268 t271 _ ?side1 ?side2 ?side3 ?side4 A24.out).mono ?_); (case side1 => refine (Kd.R_reads' (e := 2) (base := w.heap.size) (ok := fun k_ => ((((True ∧ some k_ ≠ (v245 : Value).ownBlock) ∧ some k_ ≠ (v249 : Value).ownBlock) ∧ some k_ ≠ (.slice Ao42 t252.length co42 : Value).ownBlock) ∧ some k_ ≠ (.slice Ao62 t263.length co62 : Value).ownBlock)) (n := t258.length) (c := co52) ?_).2.2; exact (rg_ HO260 BK266)); (case side2 => exact (Kd.R_reads' HO260.out).2.1); (case side3 => refine (Kd.R_reads' (e := 2) (base := w.heap.size) (ok := fun k_ => ((((True ∧ some k_ ≠ (v245 : Value).ownBlock) ∧ some k_ ≠ (v249 : Value).ownBlock) ∧ some k_ ≠ (.slice Ao42 t252.length co42 : Value).ownBlock) ∧ some k_ ≠ (.slice Ao52 t258.length co52 : Value).ownBlock)) (n := t263.length) (c := co62) ?_).2.2; exact (rg_ HO265 BK266)); (case side4 => exact (Kd.R_reads' HO265.out).2.1); rintro e w64 ⟨v269, rfl, ho0, hb⟩; refine ⟨_, rfl, ?_⟩; have n0_ := am_ (Kd.R_elder' (rg_ HO246 BK266) (Kd.R_base ho0) hb); have n1_ := am_ (Kd.R_elder' (rg_ HO250 BK266) (Kd.R_base ho0) hb); have n2_ := am_ (Kd.R_elder' (rg_ HO254 BK266) (Kd.R_base ho0) hb); have n3_ := am_ (Kd.R_elder' (rg_ HO260 BK266) (Kd.R_base ho0) hb); have n4_ := am_ (Kd.R_elder' (rg_ HO265 BK266) (Kd.R_base ho0) hb); have n5_ := am_ (Kd.R_lower (Kd.R_new' (Kd.R_new' (Kd.R_new' (Kd.R_new' (Kd.R_new' ho0 (Kd.R_lt (rg_ HO246 BK266))) (Kd.R_lt (rg_ HO250 BK266))) (Kd.R_lt (rg_ HO254 BK266))) (Kd.R_lt (rg_ HO260 BK266))) (Kd.R_lt (rg_ HO265 BK266))) (below_size (bl_ HB))); have n6_ := am_ (blk_below (bk_ BK239) hb); have n7_ := am_ (blk_below (bk_ BK240) hb); have n8_ := am_ (blk_below (bk_ BK256) hb); have n9_ := am_ (blk_below (bk_ BK261) hb); have n10_ := am_ (blk_below (g := gb266) (o := .cells #[.int .i64 t262, .slice Ao62 t263.length co62] 28 (0, 0)) (by (with_reducible repeat (first | refine blk_drewN ?_ _ | refine blk_drew ?_ | refine blk_alloc ?_ _)); refine blk_put (cs := #[.int .i64 t262, .slice none 0 0]) ?_ 1 _ rfl; (with_reducible repeat (first | refine blk_drewN ?_ _ | refine blk_drew ?_ | refine blk_alloc ?_ _)); refine blk_put (cs := #[.int .i64 0, .slice none 0 0]) ?_ 0 _ rfl; (with_reducible repeat (first | refine blk_drewN ?_ _ | refine blk_drew ?_ | refine blk_alloc ?_ _)); exact BK266.out) hb); have n11_ := am_ (below_step (bl_ HB) hb); clear HO246; clear HO250; clear HO254; clear HO260; clear HO265; clear BK239; clear BK240; clear BK256; clear BK261; clear BK266; clear HB; have HO246 := n0_; have HO250 := n1_; have HO254 := n2_; have HO260 := n3_; have HO265 := n4_; have HO270 := n5_; have BK239 := n6_; have BK240 := n7_; have BK256 := n8_; have BK261 := n9_; have BK266 := n10_; have HB := n11_; clear n0_ n1_ n2_ n3_ n4_ n5_ n6_ n7_ n8_ n9_ n10_ n11_; (try clear hb); (try clear hb2); (try clear hk); (try clear hi); (try clear ho0)) | ((with_reducible refine gate_dst (N := 10) rfl ?_); refine box_event ?hg (N := 10) ?hd (cs := #[.int .i64 0, .slice none 0 0]) (t := 28) ?hr ?_; (case hd => rfl); (case hg => rfl); (case hr => first | (go_simp; done) | (go_simp; rfl)); intro gb272 hg w65 hbox hb; have n0_ := am_ (Kd.R_below (kr_ HO246) hb); have n1_ := am_ (Kd.R_below (kr_ HO250) hb); have n2_ := am_ (Kd.R_below (kr_ HO254) hb); have n3_ := am_ (Kd.R_below (kr_ HO260) hb); have n4_ := am_ (Kd.R_below (kr_ HO265) hb); have n5_ := am_ (Kd.R_below (kr_ HO270) hb); have n6_ := am_ (blk_below (bk_ BK239) hb); have n7_ := am_ (blk_below (bk_ BK240) hb); have n8_ := am_ (blk_below (bk_ BK256) hb); have n9_ := am_ (blk_below (bk_ BK261) hb); have n10_ := am_ (blk_below (bk_ BK266) hb); have n11_ := am_ (below_step (bl_ HB) hb); have n12_ := am_ (hbox); have n13_ := am_ (gs_ hg HB); have n14_ := am_ (gs_ hg HB); have n15_ := am_ (nl_ hg BK239); have n16_ := am_ (ng_ hg BK239); have n17_ := am_ (nl_ hg BK240); have n18_ := am_ (ng_ hg BK240); have n19_ := am_ (nl_ hg BK256); have n20_ := am_ (ng_ hg BK256); have n21_ := am_ (nl_ hg BK261); have n22_ := am_ (ng_ hg BK261); have n23_ := am_ (nl_ hg BK266); have n24_ := am_ (ng_ hg BK266); clear HO246; clear HO250; clear HO254; clear HO260; clear HO265; clear HO270; clear BK239; clear BK240; clear BK256; clear BK261; clear BK266; clear HB; have HO246 := n0_; have HO250 := n1_; have HO254 := n2_; have HO260 := n3_; have HO265 := n4_; have HO270 := n5_; have BK239 := n6_; have BK240 := n7_; have BK256 := n8_; have BK261 := n9_; have BK266 := n10_; have HB := n11_; have BK272 := n12_; have GW272 := n13_; have GE272 := n14_; have NB239_272 := n15_; have NB272_239 := n16_; have NB240_272 := n17_; have NB272_240 := n18_; have NB256_272 := n19_; have NB272_256 := n20_; have NB261_272 := n21_; have NB272_261 := n22_; have NB266_272 := n23_; have NB272_266 := n24_; clear n0_ n1_ n2_ n3_ n4_ n5_ n6_ n7_ n8_ n9_ n10_ n11_ n12_ n13_ n14_ n15_ n16_ n17_ n18_ n19_ n20_ n21_ n22_ n23_ n24_; clear hb hbox hg; have hnb66 := NB272_239.out; have hnc66 := NB239_272.out; have hnb67 := NB272_240.out; have hnc67 := NB240_272.out; have hnb68 := NB272_256.out; have hnc68 := NB256_272.out; have hnb69 := NB272_261.out; have hnc69 := NB261_272.out; have hnb70 := NB272_266.out; have hnc70 := NB266_272.out; have hcz71_0 : w65.cell? ⟨gb272, 0, none⟩ = some (.int .i64 0) := (blk_cell BK272.out 0).trans rfl; have hcz71_1 : w65.cell? ⟨gb272, 1, none⟩ = some (.slice none 0 0) := (blk_cell BK272.out 1).trans rfl; have hfz71_0 := blk_frozen BK272.out 0; have hfz71_1 := blk_frozen BK272.out 1; obtain ⟨Ao72, co72, eo72⟩ := Kd.R_slice HO270.out; subst eo72))
   (try simp only [Act.put, List.setIfInBounds_toArray, List.set_cons_zero, List.set_cons_succ])
   go_cut [53] (fun v53 wc => ∃ (kq : Nat) (x53_24 : Bool), v53 = .bool x53_24 ∧ Aside0 (laws_FnExactAddWholes.j0 kq t255 t271 x53_24 a0_0 l0_1 a1_0 l1_1 t251 t252 t257 t258 t262 t263 t267 t268 = some r) ∧ Aside0 (kq ≤ k) ∧ Aside0 (Kd.R (Kd.int .i64) 2 wc w.heap.size (fun k_ => some k_ ≠ ((.slice Ao52 t258.length co52) : Value).ownBlock ∧ some k_ ≠ ((.slice Ao62 t263.length co62) : Value).ownBlock ∧ some k_ ≠ ((.slice Ao72 t268.length co72) : Value).ownBlock) (.slice Ao42 t252.length co42) t252) ∧ Aside0 (Kd.R (Kd.int .i64) 2 wc w.heap.size (fun k_ => some k_ ≠ ((.slice Ao42 t252.length co42) : Value).ownBlock ∧ some k_ ≠ ((.slice Ao62 t263.length co62) : Value).ownBlock ∧ some k_ ≠ ((.slice Ao72 t268.length co72) : Value).ownBlock) (.slice Ao52 t258.length co52) t258) ∧ Aside0 (Kd.R (Kd.int .i64) 2 wc w.heap.size (fun k_ => some k_ ≠ ((.slice Ao42 t252.length co42) : Value).ownBlock ∧ some k_ ≠ ((.slice Ao52 t258.length co52) : Value).ownBlock ∧ some k_ ≠ ((.slice Ao72 t268.length co72) : Value).ownBlock) (.slice Ao62 t263.length co62) t263) ∧ Aside0 (Kd.R (Kd.int .i64) 2 wc w.heap.size (fun k_ => some k_ ≠ ((.slice Ao42 t252.length co42) : Value).ownBlock ∧ some k_ ≠ ((.slice Ao52 t258.length co52) : Value).ownBlock ∧ some k_ ≠ ((.slice Ao62 t263.length co62) : Value).ownBlock) (.slice Ao72 t268.length co72) t268) ∧ Aside0 (wc.heap[gb239]? = some (.cells #[.int .i64 a0_0, (.slice A0_1 l0_1.length c0_1)] 24 (0, 0))) ∧ Aside0 (wc.heap[gb240]? = some (.cells #[.int .i64 a1_0, (.slice A1_1 l1_1.length c1_1)] 24 (0, 0))) ∧ Aside0 (wc.heap[gb256]? = some (.cells #[.int .i64 t251, (.slice Ao42 t252.length co42)] 28 (0, 0))) ∧ Aside0 (wc.heap[gb261]? = some (.cells #[.int .i64 t257, (.slice Ao52 t258.length co52)] 28 (0, 0))) ∧ Aside0 (wc.heap[gb266]? = some (.cells #[.int .i64 t262, (.slice Ao62 t263.length co62)] 28 (0, 0))) ∧ Aside0 (wc.heap[gb272]? = some (.cells #[.int .i64 t267, (.slice Ao72 t268.length co72)] 28 (0, 0))) ∧ Aside0 (Below w.heap.size w wc))
   case first =>
    have H := HC25.out; clear HC25
    replace H := Option.bind_eq_some_iff.mp H
    obtain ⟨t273, A730, H⟩ := H
    replace H : (if t273 = true then (laws_FnExactAddWholes.j0 k t255 t271 (t271 != t255) a0_0 l0_1 a1_0 l1_1 t251 t252 t257 t258 t262 t263 t267 t268) else (laws_FnExactAddWholes.j0 k t255 t271 true a0_0 l0_1 a1_0 l1_1 t251 t252 t257 t258 t262 t263 t267 t268)) = some r := H
    have A73 := Aside0.mk A730; clear A730
    by_cases c74 : t273 = true
    ·subst c74
     have H1 : (laws_FnExactAddWholes.j0 k t255 t271 (t271 != t255) a0_0 l0_1 a1_0 l1_1 t251 t252 t257 t258 t262 t263 t267 t268) = some r := by rw [if_pos rfl] at H; exact H
     clear H; have H := H1; clear H1
     have H' := Aside0.mk H
     clear H; have hnb75 := NB272_239.out; have hnc75 := NB239_272.out; have hnb76 := NB272_240.out; have hnc76 := NB240_272.out; have hnb77 := NB272_256.out; have hnc77 := NB256_272.out; have hnb78 := NB272_261.out; have hnc78 := NB261_272.out; have hnb79 := NB272_266.out; have hnc79 := NB266_272.out
     have hcz80_0 : w65.cell? ⟨gb272, 0, none⟩ = some (.int .i64 0) := (blk_cell BK272.out 0).trans rfl
     have hcz80_1 : w65.cell? ⟨gb272, 1, none⟩ = some (.slice none 0 0) := (blk_cell BK272.out 1).trans rfl
     have hfz80_0 := blk_frozen BK272.out 0; have hfz80_1 := blk_frozen BK272.out 1; have hnb81 := NB256_239.out; have hnc81 := NB239_256.out; have hnb82 := NB256_240.out; have hnc82 := NB240_256.out; have hnb83 := NB256_261.out; have hnc83 := NB261_256.out; have hnb84 := NB256_266.out; have hnc84 := NB266_256.out
     have hcz85_0 : w65.cell? ⟨gb256, 0, none⟩ = some (.int .i64 t251) := (blk_cell BK256.out 0).trans rfl
     have hcz85_1 : w65.cell? ⟨gb256, 1, none⟩ = some (.slice Ao42 t252.length co42) := (blk_cell BK256.out 1).trans rfl
     have hfz85_0 := blk_frozen BK256.out 0; have hfz85_1 := blk_frozen BK256.out 1
     go_wp2_with (first | ((with_reducible refine gate_callee (f := 22) rfl ?_); refine goesL_ (some 47) rfl rfl Tryd.func22 (by kernel_rfl) rfl #[.agg #[.int .i64 t267, .slice Ao72 t268.length co72], .agg #[.int .i64 t251, .slice Ao42 t252.length co42]] rfl ma_ ?_; (with_reducible refine (laws_eqWhole.calls k t267 _ _ t268 t251 _ _ t252 true _ ?side1 ?side2 ?side3 ?side4 A73.out).mono ?_); (case side1 => refine (Kd.R_reads' (e := 2) (base := w.heap.size) (ok := fun k_ => (((((True ∧ some k_ ≠ (v245 : Value).ownBlock) ∧ some k_ ≠ (v249 : Value).ownBlock) ∧ some k_ ≠ (.slice Ao42 t252.length co42 : Value).ownBlock) ∧ some k_ ≠ (.slice Ao52 t258.length co52 : Value).ownBlock) ∧ some k_ ≠ (.slice Ao62 t263.length co62 : Value).ownBlock)) (n := t268.length) (c := co72) ?_).2.2; exact (rg_ HO270 BK272)); (case side2 => exact (Kd.R_reads' HO270.out).2.1); (case side3 => refine (Kd.R_reads' (e := 2) (base := w.heap.size) (ok := fun k_ => ((((some k_ ≠ (v245 : Value).ownBlock ∧ some k_ ≠ (v249 : Value).ownBlock) ∧ some k_ ≠ (.slice Ao52 t258.length co52 : Value).ownBlock) ∧ some k_ ≠ (.slice Ao62 t263.length co62 : Value).ownBlock) ∧ some k_ ≠ (.slice Ao72 t268.length co72 : Value).ownBlock)) (n := t252.length) (c := co42) ?_).2.2; exact (rg_ HO254 BK272)); (case side4 => exact (Kd.R_reads' HO254.out).2.1); rintro e w86 ⟨rfl, hb⟩; refine ⟨_, rfl, ?_⟩; have n0_ := am_ (Kd.R_below (rg_ HO246 BK272) hb); have n1_ := am_ (Kd.R_below (rg_ HO250 BK272) hb); have n2_ := am_ (Kd.R_below (rg_ HO254 BK272) hb); have n3_ := am_ (Kd.R_below (rg_ HO260 BK272) hb); have n4_ := am_ (Kd.R_below (rg_ HO265 BK272) hb); have n5_ := am_ (Kd.R_below (rg_ HO270 BK272) hb); have n6_ := am_ (blk_below (bk_ BK239) hb); have n7_ := am_ (blk_below (bk_ BK240) hb); have n8_ := am_ (blk_below (bk_ BK256) hb); have n9_ := am_ (blk_below (bk_ BK261) hb); have n10_ := am_ (blk_below (bk_ BK266) hb); have n11_ := am_ (blk_below (g := gb272) (o := .cells #[.int .i64 t267, .slice Ao72 t268.length co72] 28 (0, 0)) (by (with_reducible repeat (first | refine blk_drewN ?_ _ | refine blk_drew ?_ | refine blk_alloc ?_ _)); refine blk_put (cs := #[.int .i64 t267, .slice none 0 0]) ?_ 1 _ rfl; (with_reducible repeat (first | refine blk_drewN ?_ _ | refine blk_drew ?_ | refine blk_alloc ?_ _)); refine blk_put (cs := #[.int .i64 0, .slice none 0 0]) ?_ 0 _ rfl; (with_reducible repeat (first | refine blk_drewN ?_ _ | refine blk_drew ?_ | refine blk_alloc ?_ _)); exact BK272.out) hb); have n12_ := am_ (below_step (bl_ HB) hb); clear HO246; clear HO250; clear HO254; clear HO260; clear HO265; clear HO270; clear BK239; clear BK240; clear BK256; clear BK261; clear BK266; clear BK272; clear HB; have HO246 := n0_; have HO250 := n1_; have HO254 := n2_; have HO260 := n3_; have HO265 := n4_; have HO270 := n5_; have BK239 := n6_; have BK240 := n7_; have BK256 := n8_; have BK261 := n9_; have BK266 := n10_; have BK272 := n11_; have HB := n12_; clear n0_ n1_ n2_ n3_ n4_ n5_ n6_ n7_ n8_ n9_ n10_ n11_ n12_; (try clear hb); (try clear hb2); (try clear hk); (try clear hi)))
     go_meet
     case rel => exact ⟨_, ((t271 != t255)), (by first | rfl | (simp; done) | (simp [*]; done)), H', ⟨by first | omega | exact Nat.le_refl _⟩, ⟨km_ HO254 (fun _ hk => ⟨hk.1.1.2, ⟨hk.1.2, hk.2⟩⟩)⟩, ⟨km_ HO260 (fun _ hk => ⟨hk.1.1.2, ⟨hk.1.2, hk.2⟩⟩)⟩, ⟨km_ HO265 (fun _ hk => ⟨hk.1.1.2, ⟨hk.1.2, hk.2⟩⟩)⟩, ⟨km_ HO270 (fun _ hk => ⟨hk.1.1.2, ⟨hk.1.2, hk.2⟩⟩)⟩, ⟨bk_ BK239⟩, ⟨bk_ BK240⟩, ⟨bk_ BK256⟩, ⟨bk_ BK261⟩, ⟨bk_ BK266⟩, ⟨bk_ BK272⟩, ⟨bl_ HB⟩⟩
    ·replace c74 := Bool.eq_false_iff.mpr c74
     subst c74
     have H1 : (laws_FnExactAddWholes.j0 k t255 t271 true a0_0 l0_1 a1_0 l1_1 t251 t252 t257 t258 t262 t263 t267 t268) = some r := by rw [if_neg (show ¬ (false = true) by decide)] at H; exact H
     clear H; have H := H1; clear H1
     have H' := Aside0.mk H
     clear H; have hnb87 := NB272_239.out; have hnc87 := NB239_272.out; have hnb88 := NB272_240.out; have hnc88 := NB240_272.out; have hnb89 := NB272_256.out; have hnc89 := NB256_272.out; have hnb90 := NB272_261.out; have hnc90 := NB261_272.out; have hnb91 := NB272_266.out; have hnc91 := NB266_272.out
     have hcz92_0 : w65.cell? ⟨gb272, 0, none⟩ = some (.int .i64 0) := (blk_cell BK272.out 0).trans rfl
     have hcz92_1 : w65.cell? ⟨gb272, 1, none⟩ = some (.slice none 0 0) := (blk_cell BK272.out 1).trans rfl
     have hfz92_0 := blk_frozen BK272.out 0; have hfz92_1 := blk_frozen BK272.out 1; have hnb93 := NB256_239.out; have hnc93 := NB239_256.out; have hnb94 := NB256_240.out; have hnc94 := NB240_256.out; have hnb95 := NB256_261.out; have hnc95 := NB261_256.out; have hnb96 := NB256_266.out; have hnc96 := NB266_256.out
     have hcz97_0 : w65.cell? ⟨gb256, 0, none⟩ = some (.int .i64 t251) := (blk_cell BK256.out 0).trans rfl
     have hcz97_1 : w65.cell? ⟨gb256, 1, none⟩ = some (.slice Ao42 t252.length co42) := (blk_cell BK256.out 1).trans rfl
     have hfz97_0 := blk_frozen BK256.out 0; have hfz97_1 := blk_frozen BK256.out 1
     go_wp2_with (first | ((with_reducible refine gate_callee (f := 22) rfl ?_); refine goesL_ (some 47) rfl rfl Tryd.func22 (by kernel_rfl) rfl #[.agg #[.int .i64 t267, .slice Ao72 t268.length co72], .agg #[.int .i64 t251, .slice Ao42 t252.length co42]] rfl ma_ ?_; (with_reducible refine (laws_eqWhole.calls k t267 _ _ t268 t251 _ _ t252 false _ ?side1 ?side2 ?side3 ?side4 A73.out).mono ?_); (case side1 => refine (Kd.R_reads' (e := 2) (base := w.heap.size) (ok := fun k_ => (((((True ∧ some k_ ≠ (v245 : Value).ownBlock) ∧ some k_ ≠ (v249 : Value).ownBlock) ∧ some k_ ≠ (.slice Ao42 t252.length co42 : Value).ownBlock) ∧ some k_ ≠ (.slice Ao52 t258.length co52 : Value).ownBlock) ∧ some k_ ≠ (.slice Ao62 t263.length co62 : Value).ownBlock)) (n := t268.length) (c := co72) ?_).2.2; exact (rg_ HO270 BK272)); (case side2 => exact (Kd.R_reads' HO270.out).2.1); (case side3 => refine (Kd.R_reads' (e := 2) (base := w.heap.size) (ok := fun k_ => ((((some k_ ≠ (v245 : Value).ownBlock ∧ some k_ ≠ (v249 : Value).ownBlock) ∧ some k_ ≠ (.slice Ao52 t258.length co52 : Value).ownBlock) ∧ some k_ ≠ (.slice Ao62 t263.length co62 : Value).ownBlock) ∧ some k_ ≠ (.slice Ao72 t268.length co72 : Value).ownBlock)) (n := t252.length) (c := co42) ?_).2.2; exact (rg_ HO254 BK272)); (case side4 => exact (Kd.R_reads' HO254.out).2.1); rintro e w98 ⟨rfl, hb⟩; refine ⟨_, rfl, ?_⟩; have n0_ := am_ (Kd.R_below (rg_ HO246 BK272) hb); have n1_ := am_ (Kd.R_below (rg_ HO250 BK272) hb); have n2_ := am_ (Kd.R_below (rg_ HO254 BK272) hb); have n3_ := am_ (Kd.R_below (rg_ HO260 BK272) hb); have n4_ := am_ (Kd.R_below (rg_ HO265 BK272) hb); have n5_ := am_ (Kd.R_below (rg_ HO270 BK272) hb); have n6_ := am_ (blk_below (bk_ BK239) hb); have n7_ := am_ (blk_below (bk_ BK240) hb); have n8_ := am_ (blk_below (bk_ BK256) hb); have n9_ := am_ (blk_below (bk_ BK261) hb); have n10_ := am_ (blk_below (bk_ BK266) hb); have n11_ := am_ (blk_below (g := gb272) (o := .cells #[.int .i64 t267, .slice Ao72 t268.length co72] 28 (0, 0)) (by (with_reducible repeat (first | refine blk_drewN ?_ _ | refine blk_drew ?_ | refine blk_alloc ?_ _)); refine blk_put (cs := #[.int .i64 t267, .slice none 0 0]) ?_ 1 _ rfl; (with_reducible repeat (first | refine blk_drewN ?_ _ | refine blk_drew ?_ | refine blk_alloc ?_ _)); refine blk_put (cs := #[.int .i64 0, .slice none 0 0]) ?_ 0 _ rfl; (with_reducible repeat (first | refine blk_drewN ?_ _ | refine blk_drew ?_ | refine blk_alloc ?_ _)); exact BK272.out) hb); have n12_ := am_ (below_step (bl_ HB) hb); clear HO246; clear HO250; clear HO254; clear HO260; clear HO265; clear HO270; clear BK239; clear BK240; clear BK256; clear BK261; clear BK266; clear BK272; clear HB; have HO246 := n0_; have HO250 := n1_; have HO254 := n2_; have HO260 := n3_; have HO265 := n4_; have HO270 := n5_; have BK239 := n6_; have BK240 := n7_; have BK256 := n8_; have BK261 := n9_; have BK266 := n10_; have BK272 := n11_; have HB := n12_; clear n0_ n1_ n2_ n3_ n4_ n5_ n6_ n7_ n8_ n9_ n10_ n11_ n12_; (try clear hb); (try clear hb2); (try clear hk); (try clear hi)))
     go_meet
     case rel => exact ⟨_, (true), (by first | rfl | (simp; done) | (simp [*]; done)), H', ⟨by first | omega | exact Nat.le_refl _⟩, ⟨km_ HO254 (fun _ hk => ⟨hk.1.1.2, ⟨hk.1.2, hk.2⟩⟩)⟩, ⟨km_ HO260 (fun _ hk => ⟨hk.1.1.2, ⟨hk.1.2, hk.2⟩⟩)⟩, ⟨km_ HO265 (fun _ hk => ⟨hk.1.1.2, ⟨hk.1.2, hk.2⟩⟩)⟩, ⟨km_ HO270 (fun _ hk => ⟨hk.1.1.2, ⟨hk.1.2, hk.2⟩⟩)⟩, ⟨bk_ BK239⟩, ⟨bk_ BK240⟩, ⟨bk_ BK256⟩, ⟨bk_ BK261⟩, ⟨bk_ BK266⟩, ⟨bk_ BK272⟩, ⟨bl_ HB⟩⟩
   case rest =>
    clear HC25; try clear c1; try clear c2; try clear p2; try clear c3; try clear c4; try clear c5; try clear c6; try clear c7; try clear c8; try clear c9; try clear c20; try clear c22; try clear c35; try clear c36; try clear c44; try clear c48; try clear c49; try clear c50; try clear c53; try clear c57; try clear c58; try clear c59; try clear c60; try clear c66; try clear c67; try clear c68; try clear c69; try clear c70; try clear c74; try clear c75; try clear c76; try clear c77; try clear c78; try clear c79; try clear c81; try clear c82; try clear c83; try clear c84; try clear c87; try clear c88; try clear c89; try clear c90; try clear c91; try clear c93; try clear c94; try clear c95; try clear c96; try clear hcz45_0; try clear hcz45_1; try clear hcz51_0; try clear hcz51_1; try clear hcz54_0; try clear hcz54_1; try clear hcz61_0; try clear hcz61_1; try clear hcz63_0; try clear hcz63_1; try clear hcz71_0; try clear hcz71_1; try clear hcz80_0; try clear hcz80_1; try clear hcz85_0; try clear hcz85_1; try clear hcz92_0; try clear hcz92_1; try clear hcz97_0; try clear hcz97_1; try clear hfz45_0; try clear hfz45_1; try clear hfz51_0; try clear hfz51_1; try clear hfz54_0; try clear hfz54_1; try clear hfz61_0; try clear hfz61_1; try clear hfz63_0; try clear hfz63_1; try clear hfz71_0; try clear hfz71_1; try clear hfz80_0; try clear hfz80_1; try clear hfz85_0; try clear hfz85_1; try clear hfz92_0; try clear hfz92_1; try clear hfz97_0; try clear hfz97_1
    obtain ⟨kq, x53_24, rfl, HA, HJ24, HO_257001, HO_262001, HO_267001, HO_273001, BK239, BK240, BK256, BK261, BK266, BK272, HB⟩ := hcut
    cases kq with
    | zero => exact absurd HA.out (by simp [laws_FnExactAddWholes.j0])
    | succ kj24 =>
     have H := HA.out; clear HA
     simp only [laws_FnExactAddWholes.j0] at H
     by_cases c99 : x53_24 = true
     ·subst c99
      have H1 : (some false) = some r := by rw [if_pos rfl] at H; exact H
      clear H; have H := H1; clear H1; obtain rfl := Option.some.inj H
      go_wp2
      go_ret
      exact ⟨by first | rfl | (simp [errW_none, errW_some] <;> rfl) | (simp [*, errW_none, errW_some] <;> rfl), bl_ HB⟩
     ·replace c99 := Bool.eq_false_iff.mpr c99
      subst c99
      have H1 : ((laws_toWhole.f kj24 a0_0 l0_1).bind fun bt274 => ((laws_eqWhole.f kj24 t257 t258 bt274.1 bt274.2).bind fun t278 => (if t278 = true then ((laws_toWhole.f kj24 a1_0 l1_1).bind fun bt279 => ((laws_eqWhole.f kj24 t262 t263 bt279.1 bt279.2).bind fun t283 => (if t283 = true then ((laws_markWhole.f kj24 t257 t258 1).bind fun bt284 => ((laws_markWhole.f kj24 t262 t263 bt284.1).bind fun bt286 => (if bt286.1 < 0 then (laws_FnExactAddWholes.j1 kj24 t255 true a0_0 l0_1 a1_0 l1_1 t251 t252 t267 t268) else ((laws_eqWhole.f kj24 t267 t268 t251 t252).bind fun t288 => (if t288 = true then (laws_FnExactAddWholes.j1 kj24 t255 (t271 != t255) a0_0 l0_1 a1_0 l1_1 t251 t252 t267 t268) else (laws_FnExactAddWholes.j1 kj24 t255 true a0_0 l0_1 a1_0 l1_1 t251 t252 t267 t268)))))) else (some false)))) else (some false)))) = some r := by rw [if_neg (show ¬ (false = true) by decide)] at H; exact H
      clear H; have H := H1; clear H1
      replace H := Option.bind_eq_some_iff.mp H
      obtain ⟨⟨t274, t275⟩, A1000, H⟩ := H
      replace H : ((laws_eqWhole.f kj24 t257 t258 t274 t275).bind fun t278 => (if t278 = true then ((laws_toWhole.f kj24 a1_0 l1_1).bind fun bt279 => ((laws_eqWhole.f kj24 t262 t263 bt279.1 bt279.2).bind fun t283 => (if t283 = true then ((laws_markWhole.f kj24 t257 t258 1).bind fun bt284 => ((laws_markWhole.f kj24 t262 t263 bt284.1).bind fun bt286 => (if bt286.1 < 0 then (laws_FnExactAddWholes.j1 kj24 t255 true a0_0 l0_1 a1_0 l1_1 t251 t252 t267 t268) else ((laws_eqWhole.f kj24 t267 t268 t251 t252).bind fun t288 => (if t288 = true then (laws_FnExactAddWholes.j1 kj24 t255 (t271 != t255) a0_0 l0_1 a1_0 l1_1 t251 t252 t267 t268) else (laws_FnExactAddWholes.j1 kj24 t255 true a0_0 l0_1 a1_0 l1_1 t251 t252 t267 t268)))))) else (some false)))) else (some false))) = some r := H
      have A100 := Aside0.mk A1000; clear A1000
      replace H := Option.bind_eq_some_iff.mp H
      obtain ⟨t278, A1010, H⟩ := H
      replace H : (if t278 = true then ((laws_toWhole.f kj24 a1_0 l1_1).bind fun bt279 => ((laws_eqWhole.f kj24 t262 t263 bt279.1 bt279.2).bind fun t283 => (if t283 = true then ((laws_markWhole.f kj24 t257 t258 1).bind fun bt284 => ((laws_markWhole.f kj24 t262 t263 bt284.1).bind fun bt286 => (if bt286.1 < 0 then (laws_FnExactAddWholes.j1 kj24 t255 true a0_0 l0_1 a1_0 l1_1 t251 t252 t267 t268) else ((laws_eqWhole.f kj24 t267 t268 t251 t252).bind fun t288 => (if t288 = true then (laws_FnExactAddWholes.j1 kj24 t255 (t271 != t255) a0_0 l0_1 a1_0 l1_1 t251 t252 t267 t268) else (laws_FnExactAddWholes.j1 kj24 t255 true a0_0 l0_1 a1_0 l1_1 t251 t252 t267 t268)))))) else (some false)))) else (some false)) = some r := H
      have A101 := Aside0.mk A1010; clear A1010
      by_cases c102 : t278 = true
      ·subst c102
       have H1 : ((laws_toWhole.f kj24 a1_0 l1_1).bind fun bt279 => ((laws_eqWhole.f kj24 t262 t263 bt279.1 bt279.2).bind fun t283 => (if t283 = true then ((laws_markWhole.f kj24 t257 t258 1).bind fun bt284 => ((laws_markWhole.f kj24 t262 t263 bt284.1).bind fun bt286 => (if bt286.1 < 0 then (laws_FnExactAddWholes.j1 kj24 t255 true a0_0 l0_1 a1_0 l1_1 t251 t252 t267 t268) else ((laws_eqWhole.f kj24 t267 t268 t251 t252).bind fun t288 => (if t288 = true then (laws_FnExactAddWholes.j1 kj24 t255 (t271 != t255) a0_0 l0_1 a1_0 l1_1 t251 t252 t267 t268) else (laws_FnExactAddWholes.j1 kj24 t255 true a0_0 l0_1 a1_0 l1_1 t251 t252 t267 t268)))))) else (some false)))) = some r := by rw [if_pos rfl] at H; exact H
       clear H; have H := H1; clear H1
       replace H := Option.bind_eq_some_iff.mp H
       obtain ⟨⟨t279, t280⟩, A1030, H⟩ := H
       replace H : ((laws_eqWhole.f kj24 t262 t263 t279 t280).bind fun t283 => (if t283 = true then ((laws_markWhole.f kj24 t257 t258 1).bind fun bt284 => ((laws_markWhole.f kj24 t262 t263 bt284.1).bind fun bt286 => (if bt286.1 < 0 then (laws_FnExactAddWholes.j1 kj24 t255 true a0_0 l0_1 a1_0 l1_1 t251 t252 t267 t268) else ((laws_eqWhole.f kj24 t267 t268 t251 t252).bind fun t288 => (if t288 = true then (laws_FnExactAddWholes.j1 kj24 t255 (t271 != t255) a0_0 l0_1 a1_0 l1_1 t251 t252 t267 t268) else (laws_FnExactAddWholes.j1 kj24 t255 true a0_0 l0_1 a1_0 l1_1 t251 t252 t267 t268)))))) else (some false))) = some r := H
       have A103 := Aside0.mk A1030; clear A1030
       replace H := Option.bind_eq_some_iff.mp H
       obtain ⟨t283, A1040, H⟩ := H
       replace H : (if t283 = true then ((laws_markWhole.f kj24 t257 t258 1).bind fun bt284 => ((laws_markWhole.f kj24 t262 t263 bt284.1).bind fun bt286 => (if bt286.1 < 0 then (laws_FnExactAddWholes.j1 kj24 t255 true a0_0 l0_1 a1_0 l1_1 t251 t252 t267 t268) else ((laws_eqWhole.f kj24 t267 t268 t251 t252).bind fun t288 => (if t288 = true then (laws_FnExactAddWholes.j1 kj24 t255 (t271 != t255) a0_0 l0_1 a1_0 l1_1 t251 t252 t267 t268) else (laws_FnExactAddWholes.j1 kj24 t255 true a0_0 l0_1 a1_0 l1_1 t251 t252 t267 t268)))))) else (some false)) = some r := H
       have A104 := Aside0.mk A1040; clear A1040
       by_cases c105 : t283 = true
       ·subst c105
        have H1 : ((laws_markWhole.f kj24 t257 t258 1).bind fun bt284 => ((laws_markWhole.f kj24 t262 t263 bt284.1).bind fun bt286 => (if bt286.1 < 0 then (laws_FnExactAddWholes.j1 kj24 t255 true a0_0 l0_1 a1_0 l1_1 t251 t252 t267 t268) else ((laws_eqWhole.f kj24 t267 t268 t251 t252).bind fun t288 => (if t288 = true then (laws_FnExactAddWholes.j1 kj24 t255 (t271 != t255) a0_0 l0_1 a1_0 l1_1 t251 t252 t267 t268) else (laws_FnExactAddWholes.j1 kj24 t255 true a0_0 l0_1 a1_0 l1_1 t251 t252 t267 t268)))))) = some r := by rw [if_pos rfl] at H; exact H
        clear H; have H := H1; clear H1
        replace H := Option.bind_eq_some_iff.mp H
        obtain ⟨⟨t284, t285⟩, A1060, H⟩ := H
        replace H : ((laws_markWhole.f kj24 t262 t263 t284).bind fun bt286 => (if bt286.1 < 0 then (laws_FnExactAddWholes.j1 kj24 t255 true a0_0 l0_1 a1_0 l1_1 t251 t252 t267 t268) else ((laws_eqWhole.f kj24 t267 t268 t251 t252).bind fun t288 => (if t288 = true then (laws_FnExactAddWholes.j1 kj24 t255 (t271 != t255) a0_0 l0_1 a1_0 l1_1 t251 t252 t267 t268) else (laws_FnExactAddWholes.j1 kj24 t255 true a0_0 l0_1 a1_0 l1_1 t251 t252 t267 t268))))) = some r := H
        have A106 := Aside0.mk A1060; clear A1060
        replace H := Option.bind_eq_some_iff.mp H
        obtain ⟨⟨t286, t287⟩, A1070, H⟩ := H
        replace H : (if t286 < 0 then (laws_FnExactAddWholes.j1 kj24 t255 true a0_0 l0_1 a1_0 l1_1 t251 t252 t267 t268) else ((laws_eqWhole.f kj24 t267 t268 t251 t252).bind fun t288 => (if t288 = true then (laws_FnExactAddWholes.j1 kj24 t255 (t271 != t255) a0_0 l0_1 a1_0 l1_1 t251 t252 t267 t268) else (laws_FnExactAddWholes.j1 kj24 t255 true a0_0 l0_1 a1_0 l1_1 t251 t252 t267 t268)))) = some r := H
        have A107 := Aside0.mk A1070; clear A1070; have HC108 := Aside0.mk H; clear H
        try go_wp2
        have n0_ := am_ (Kd.R_drew HO_257001.out); have n1_ := am_ (Kd.R_drew HO_262001.out); have n2_ := am_ (Kd.R_drew HO_267001.out); have n3_ := am_ (Kd.R_drew HO_273001.out); have n4_ := am_ (blk_drew BK239.out); have n5_ := am_ (blk_drew BK240.out); have n6_ := am_ (blk_drew BK256.out); have n7_ := am_ (blk_drew BK261.out); have n8_ := am_ (blk_drew BK266.out); have n9_ := am_ (blk_drew BK272.out); have n10_ := am_ (below_drew1 HB.out); clear HO_257001 HO_262001 HO_267001 HO_273001 BK239 BK240 BK256 BK261 BK266 BK272 HB; have HO_257001 := n0_; have HO_262001 := n1_; have HO_267001 := n2_; have HO_273001 := n3_; have BK239 := n4_; have BK240 := n5_; have BK256 := n6_; have BK261 := n7_; have BK266 := n8_; have BK272 := n9_; have HB := n10_; clear n0_ n1_ n2_ n3_ n4_ n5_ n6_ n7_ n8_ n9_ n10_
        refine start_ (n := 5) (S := fun w' => w'.cell? ⟨gb261, 0, none⟩ = some (.int .i64 t257) ∧ w'.cell? ⟨gb261, 1, none⟩ = some (.slice Ao52 t258.length co52) ∧ w'.cell? ⟨gb239, 0, none⟩ = some (.int .i64 a0_0) ∧ w'.cell? ⟨gb239, 1, none⟩ = some (.slice A0_1 l0_1.length c0_1)) (ds := []) #[false, false, false, false, false] (by kernel_rfl) rfl rfl ⟨(blk_cell BK261.out 0).trans rfl, (blk_cell BK261.out 1).trans rfl, (blk_cell BK239.out 0).trans rfl, (blk_cell BK239.out 1).trans rfl⟩ (fun hHeld => ?_)
        generalize wc.drew = w109 at HO_257001 HO_262001 HO_267001 HO_273001 BK239 BK240 BK256 BK261 BK266 BK272 HB hHeld ⊢
        refine take_ (i := 0) (N := some 54) (v := ?_) (a' := ?_) #[true, false, false, false, false] rfl rfl (by kernel_rfl) (fun _ _ _ h => h) (Or.inl ⟨by rfl, ?_⟩) hHeld ?_ ?_
        rotate_left
        ·rintro w' ⟨s0, s1, s2, s3⟩
         go_simp
         with_reducible rfl
        rotate_left
        ·exact nm_
        refine take_ (i := 1) (N := some 55) (v := ?_) (a' := ?_) #[true, true, false, false, false] rfl rfl (by kernel_rfl) (fun _ _ _ h => h) (Or.inl ⟨by rfl, ?_⟩) hHeld ?_ ?_
        rotate_left
        ·rintro w' ⟨s0, s1, s2, s3⟩
         go_simp
         with_reducible rfl
        rotate_left
        ·exact nm_
        refine one_ (i := 2) (N := some 56) #[true, true, true, false, false] rfl rfl (by kernel_rfl) (by decide) (fun K hK => ?_)
        refine goes_ Tryd.func20 (by kernel_rfl) rfl #[.agg #[.int .i64 a0_0, .slice A0_1 l0_1.length c0_1]] (by rfl) rfl rfl ma_ ?_
        with_reducible refine (laws_toWhole.calls kj24 a0_0 _ _ l0_1 t274 t275 _ ?side1 ?side2 A100.out).mono ?_
        (case side1 => repeat (first | exact (Kd.C_below HR0_1.out HB.out) | (with_reducible refine Kd.C_alloc ?_ _) | (with_reducible refine Kd.C_drewN ?_ _) | (with_reducible refine Kd.C_drew ?_)))
        (case side2 => exact HC0_1.out)
        rintro e w110 ⟨v276, rfl, ho0, hb⟩
        refine ⟨_, rfl, ?_⟩
        have n0_ := am_ (Kd.R_elder' (kr_ HO_257001) (Kd.R_base ho0) hb); have n1_ := am_ (Kd.R_elder' (kr_ HO_262001) (Kd.R_base ho0) hb); have n2_ := am_ (Kd.R_elder' (kr_ HO_267001) (Kd.R_base ho0) hb); have n3_ := am_ (Kd.R_elder' (kr_ HO_273001) (Kd.R_base ho0) hb); have n4_ := am_ (Kd.R_lower (Kd.R_new' (Kd.R_new' (Kd.R_new' (Kd.R_new' ho0 (Kd.R_lt (kr_ HO_257001))) (Kd.R_lt (kr_ HO_262001))) (Kd.R_lt (kr_ HO_267001))) (Kd.R_lt (kr_ HO_273001))) (below_size (bl_ HB))); have n5_ := am_ (blk_below (bk_ BK239) hb); have n6_ := am_ (blk_below (bk_ BK240) hb); have n7_ := am_ (blk_below (bk_ BK256) hb); have n8_ := am_ (blk_below (bk_ BK261) hb); have n9_ := am_ (blk_below (bk_ BK266) hb); have n10_ := am_ (blk_below (bk_ BK272) hb); have n11_ := am_ (below_step (bl_ HB) hb); clear HO_257001 HO_262001 HO_267001 HO_273001 BK239 BK240 BK256 BK261 BK266 BK272 HB; have HO_257001 := n0_; have HO_262001 := n1_; have HO_267001 := n2_; have HO_273001 := n3_; have HO277 := n4_; have BK239 := n5_; have BK240 := n6_; have BK256 := n7_; have BK261 := n8_; have BK266 := n9_; have BK272 := n10_; have HB := n11_; clear n0_ n1_ n2_ n3_ n4_ n5_ n6_ n7_ n8_ n9_ n10_ n11_; (try clear hb); (try clear hb2); (try clear hk); (try clear hi); (try clear ho0)
        obtain ⟨Ao111, co111, eo111⟩ := Kd.R_slice HO277.out
        (first | subst eo111 | (injection eo111 with f1_ f2_ f3_; have f4_ := f1_.symm; have f5_ := f3_.symm; clear f1_ f2_ f3_; subst f4_; subst f5_))
        refine hK.out _ _ ⟨(blk_cell BK261.out 0).trans rfl, (blk_cell BK261.out 1).trans rfl, (blk_cell BK239.out 0).trans rfl, (blk_cell BK239.out 1).trans rfl⟩ (fun hHeld => ?_)
        clear hK K
        refine norm_ (a' := ?_) ?_ ?_
        rotate_left
        ·show Act.put _ (some 56) _ = _
         exact nm_
        refine one_ (i := 3) (N := some 57) #[true, true, true, true, false] rfl rfl (by kernel_rfl) (by decide) (fun K hK => ?_)
        refine goes_ Tryd.func22 (by kernel_rfl) rfl #[.agg #[.int .i64 t257, .slice Ao52 t258.length co52], .agg #[.int .i64 t274, .slice Ao111 t275.length co111]] (by rfl) rfl rfl ma_ ?_
        with_reducible refine (laws_eqWhole.calls kj24 t257 _ _ t258 t274 _ _ t275 true _ ?side1 ?side2 ?side3 ?side4 A101.out).mono ?_
        (case side1 => repeat (first | exact (Kd.R_reads' HO_262001.out).2.2 | (with_reducible refine Kd.C_alloc ?_ _) | (with_reducible refine Kd.C_drewN ?_ _) | (with_reducible refine Kd.C_drew ?_)))
        (case side2 => exact (Kd.R_reads' HO_262001.out).2.1)
        (case side3 => repeat (first | exact (Kd.R_reads' HO277.out).2.2 | (with_reducible refine Kd.C_alloc ?_ _) | (with_reducible refine Kd.C_drewN ?_ _) | (with_reducible refine Kd.C_drew ?_)))
        (case side4 => exact (Kd.R_reads' HO277.out).2.1)
        rintro e w112 ⟨rfl, hb⟩
        refine ⟨_, rfl, ?_⟩
        have n0_ := am_ (Kd.R_below (kr_ HO_257001) hb); have n1_ := am_ (Kd.R_below (kr_ HO_262001) hb); have n2_ := am_ (Kd.R_below (kr_ HO_267001) hb); have n3_ := am_ (Kd.R_below (kr_ HO_273001) hb); have n4_ := am_ (Kd.R_below (kr_ HO277) hb); have n5_ := am_ (blk_below (bk_ BK239) hb); have n6_ := am_ (blk_below (bk_ BK240) hb); have n7_ := am_ (blk_below (bk_ BK256) hb); have n8_ := am_ (blk_below (bk_ BK261) hb); have n9_ := am_ (blk_below (bk_ BK266) hb); have n10_ := am_ (blk_below (bk_ BK272) hb); have n11_ := am_ (below_step (bl_ HB) hb); clear HO_257001 HO_262001 HO_267001 HO_273001 HO277 BK239 BK240 BK256 BK261 BK266 BK272 HB; have HO_257001 := n0_; have HO_262001 := n1_; have HO_267001 := n2_; have HO_273001 := n3_; have HO277 := n4_; have BK239 := n5_; have BK240 := n6_; have BK256 := n7_; have BK261 := n8_; have BK266 := n9_; have BK272 := n10_; have HB := n11_; clear n0_ n1_ n2_ n3_ n4_ n5_ n6_ n7_ n8_ n9_ n10_ n11_; (try clear hb); (try clear hb2); (try clear hk); (try clear hi)
        refine hK.out _ _ ⟨(blk_cell BK261.out 0).trans rfl, (blk_cell BK261.out 1).trans rfl, (blk_cell BK239.out 0).trans rfl, (blk_cell BK239.out 1).trans rfl⟩ (fun hHeld => ?_)
        clear hK K
        refine norm_ (a' := ?_) ?_ ?_
        rotate_left
        ·show Act.put _ (some 57) _ = _
         exact nm_
        refine pure_ (i := 4) (N := some 58) (v := ?_) (a' := ?_) #[true, true, true, true, true] rfl rfl (by kernel_rfl) (fun _ _ _ h => h) (Or.inl ⟨by rfl, ?_⟩) ?_ ?_
        rotate_left
        ·intro w'
         go_simp
         with_reducible rfl
        rotate_left
        ·exact nm_
        refine done_ (by kernel_rfl) ?_
        try go_wp2
        have n0_ := am_ (Kd.R_drew HO_257001.out); have n1_ := am_ (Kd.R_drew HO_262001.out); have n2_ := am_ (Kd.R_drew HO_267001.out); have n3_ := am_ (Kd.R_drew HO_273001.out); have n4_ := am_ (Kd.R_drew HO277.out); have n5_ := am_ (blk_drew BK239.out); have n6_ := am_ (blk_drew BK240.out); have n7_ := am_ (blk_drew BK256.out); have n8_ := am_ (blk_drew BK261.out); have n9_ := am_ (blk_drew BK266.out); have n10_ := am_ (blk_drew BK272.out); have n11_ := am_ (below_drew1 HB.out); clear HO_257001 HO_262001 HO_267001 HO_273001 HO277 BK239 BK240 BK256 BK261 BK266 BK272 HB; have HO_257001 := n0_; have HO_262001 := n1_; have HO_267001 := n2_; have HO_273001 := n3_; have HO277 := n4_; have BK239 := n5_; have BK240 := n6_; have BK256 := n7_; have BK261 := n8_; have BK266 := n9_; have BK272 := n10_; have HB := n11_; clear n0_ n1_ n2_ n3_ n4_ n5_ n6_ n7_ n8_ n9_ n10_ n11_
        refine start_ (n := 5) (S := fun w' => w'.cell? ⟨gb266, 0, none⟩ = some (.int .i64 t262) ∧ w'.cell? ⟨gb266, 1, none⟩ = some (.slice Ao62 t263.length co62) ∧ w'.cell? ⟨gb240, 0, none⟩ = some (.int .i64 a1_0) ∧ w'.cell? ⟨gb240, 1, none⟩ = some (.slice A1_1 l1_1.length c1_1)) (ds := []) #[false, false, false, false, false] (by kernel_rfl) rfl rfl ⟨(blk_cell BK266.out 0).trans rfl, (blk_cell BK266.out 1).trans rfl, (blk_cell BK240.out 0).trans rfl, (blk_cell BK240.out 1).trans rfl⟩ (fun hHeld => ?_)
        generalize w112.drew = w113 at HO_257001 HO_262001 HO_267001 HO_273001 HO277 BK239 BK240 BK256 BK261 BK266 BK272 HB hHeld ⊢
        refine take_ (i := 0) (N := some 59) (v := ?_) (a' := ?_) #[true, false, false, false, false] rfl rfl (by kernel_rfl) (fun _ _ _ h => h) (Or.inl ⟨by rfl, ?_⟩) hHeld ?_ ?_
        rotate_left
        ·rintro w' ⟨s0, s1, s2, s3⟩
         go_simp
         with_reducible rfl
        rotate_left
        ·exact nm_
        refine take_ (i := 1) (N := some 60) (v := ?_) (a' := ?_) #[true, true, false, false, false] rfl rfl (by kernel_rfl) (fun _ _ _ h => h) (Or.inl ⟨by rfl, ?_⟩) hHeld ?_ ?_
        rotate_left
        ·rintro w' ⟨s0, s1, s2, s3⟩
         go_simp
         with_reducible rfl
        rotate_left
        ·exact nm_
        refine one_ (i := 2) (N := some 61) #[true, true, true, false, false] rfl rfl (by kernel_rfl) (by decide) (fun K hK => ?_)
        refine goes_ Tryd.func20 (by kernel_rfl) rfl #[.agg #[.int .i64 a1_0, .slice A1_1 l1_1.length c1_1]] (by rfl) rfl rfl ma_ ?_
        with_reducible refine (laws_toWhole.calls kj24 a1_0 _ _ l1_1 t279 t280 _ ?side1 ?side2 A103.out).mono ?_
        (case side1 => repeat (first | exact (Kd.C_below HR1_1.out HB.out) | (with_reducible refine Kd.C_alloc ?_ _) | (with_reducible refine Kd.C_drewN ?_ _) | (with_reducible refine Kd.C_drew ?_)))
        (case side2 => exact HC1_1.out)
        rintro e w114 ⟨v281, rfl, ho0, hb⟩
        refine ⟨_, rfl, ?_⟩
        have n0_ := am_ (Kd.R_elder' (kr_ HO_257001) (Kd.R_base ho0) hb); have n1_ := am_ (Kd.R_elder' (kr_ HO_262001) (Kd.R_base ho0) hb); have n2_ := am_ (Kd.R_elder' (kr_ HO_267001) (Kd.R_base ho0) hb); have n3_ := am_ (Kd.R_elder' (kr_ HO_273001) (Kd.R_base ho0) hb); have n4_ := am_ (Kd.R_elder' (kr_ HO277) (Kd.R_base ho0) hb); have n5_ := am_ (Kd.R_lower (Kd.R_new' (Kd.R_new' (Kd.R_new' (Kd.R_new' (Kd.R_new' ho0 (Kd.R_lt (kr_ HO_257001))) (Kd.R_lt (kr_ HO_262001))) (Kd.R_lt (kr_ HO_267001))) (Kd.R_lt (kr_ HO_273001))) (Kd.R_lt (kr_ HO277))) (below_size (bl_ HB))); have n6_ := am_ (blk_below (bk_ BK239) hb); have n7_ := am_ (blk_below (bk_ BK240) hb); have n8_ := am_ (blk_below (bk_ BK256) hb); have n9_ := am_ (blk_below (bk_ BK261) hb); have n10_ := am_ (blk_below (bk_ BK266) hb); have n11_ := am_ (blk_below (bk_ BK272) hb); have n12_ := am_ (below_step (bl_ HB) hb); clear HO_257001 HO_262001 HO_267001 HO_273001 HO277 BK239 BK240 BK256 BK261 BK266 BK272 HB; have HO_257001 := n0_; have HO_262001 := n1_; have HO_267001 := n2_; have HO_273001 := n3_; have HO277 := n4_; have HO282 := n5_; have BK239 := n6_; have BK240 := n7_; have BK256 := n8_; have BK261 := n9_; have BK266 := n10_; have BK272 := n11_; have HB := n12_; clear n0_ n1_ n2_ n3_ n4_ n5_ n6_ n7_ n8_ n9_ n10_ n11_ n12_; (try clear hb); (try clear hb2); (try clear hk); (try clear hi); (try clear ho0)
        obtain ⟨Ao115, co115, eo115⟩ := Kd.R_slice HO282.out
        (first | subst eo115 | (injection eo115 with f1_ f2_ f3_; have f4_ := f1_.symm; have f5_ := f3_.symm; clear f1_ f2_ f3_; subst f4_; subst f5_))
        refine hK.out _ _ ⟨(blk_cell BK266.out 0).trans rfl, (blk_cell BK266.out 1).trans rfl, (blk_cell BK240.out 0).trans rfl, (blk_cell BK240.out 1).trans rfl⟩ (fun hHeld => ?_)
        clear hK K
        refine norm_ (a' := ?_) ?_ ?_
        rotate_left
        ·show Act.put _ (some 61) _ = _
         exact nm_
        refine one_ (i := 3) (N := some 62) #[true, true, true, true, false] rfl rfl (by kernel_rfl) (by decide) (fun K hK => ?_)
        refine goes_ Tryd.func22 (by kernel_rfl) rfl #[.agg #[.int .i64 t262, .slice Ao62 t263.length co62], .agg #[.int .i64 t279, .slice Ao115 t280.length co115]] (by rfl) rfl rfl ma_ ?_
        with_reducible refine (laws_eqWhole.calls kj24 t262 _ _ t263 t279 _ _ t280 true _ ?side1 ?side2 ?side3 ?side4 A104.out).mono ?_
        (case side1 => repeat (first | exact (Kd.R_reads' HO_267001.out).2.2 | (with_reducible refine Kd.C_alloc ?_ _) | (with_reducible refine Kd.C_drewN ?_ _) | (with_reducible refine Kd.C_drew ?_)))
        (case side2 => exact (Kd.R_reads' HO_267001.out).2.1)
        (case side3 => repeat (first | exact (Kd.R_reads' HO282.out).2.2 | (with_reducible refine Kd.C_alloc ?_ _) | (with_reducible refine Kd.C_drewN ?_ _) | (with_reducible refine Kd.C_drew ?_)))
        (case side4 => exact (Kd.R_reads' HO282.out).2.1)
        rintro e w116 ⟨rfl, hb⟩
        refine ⟨_, rfl, ?_⟩
        have n0_ := am_ (Kd.R_below (kr_ HO_257001) hb); have n1_ := am_ (Kd.R_below (kr_ HO_262001) hb); have n2_ := am_ (Kd.R_below (kr_ HO_267001) hb); have n3_ := am_ (Kd.R_below (kr_ HO_273001) hb); have n4_ := am_ (Kd.R_below (kr_ HO277) hb); have n5_ := am_ (Kd.R_below (kr_ HO282) hb); have n6_ := am_ (blk_below (bk_ BK239) hb); have n7_ := am_ (blk_below (bk_ BK240) hb); have n8_ := am_ (blk_below (bk_ BK256) hb); have n9_ := am_ (blk_below (bk_ BK261) hb); have n10_ := am_ (blk_below (bk_ BK266) hb); have n11_ := am_ (blk_below (bk_ BK272) hb); have n12_ := am_ (below_step (bl_ HB) hb); clear HO_257001 HO_262001 HO_267001 HO_273001 HO277 HO282 BK239 BK240 BK256 BK261 BK266 BK272 HB; have HO_257001 := n0_; have HO_262001 := n1_; have HO_267001 := n2_; have HO_273001 := n3_; have HO277 := n4_; have HO282 := n5_; have BK239 := n6_; have BK240 := n7_; have BK256 := n8_; have BK261 := n9_; have BK266 := n10_; have BK272 := n11_; have HB := n12_; clear n0_ n1_ n2_ n3_ n4_ n5_ n6_ n7_ n8_ n9_ n10_ n11_ n12_; (try clear hb); (try clear hb2); (try clear hk); (try clear hi)
        refine hK.out _ _ ⟨(blk_cell BK266.out 0).trans rfl, (blk_cell BK266.out 1).trans rfl, (blk_cell BK240.out 0).trans rfl, (blk_cell BK240.out 1).trans rfl⟩ (fun hHeld => ?_)
        clear hK K
        refine norm_ (a' := ?_) ?_ ?_
        rotate_left
        ·show Act.put _ (some 62) _ = _
         exact nm_
        refine pure_ (i := 4) (N := some 63) (v := ?_) (a' := ?_) #[true, true, true, true, true] rfl rfl (by kernel_rfl) (fun _ _ _ h => h) (Or.inl ⟨by rfl, ?_⟩) ?_ ?_
        rotate_left
        ·intro w'
         go_simp
         with_reducible rfl
        rotate_left
        ·exact nm_
        refine done_ (by kernel_rfl) ?_
        have hnb117 := NB261_239.out; have hnc117 := NB239_261.out; have hnb118 := NB261_240.out; have hnc118 := NB240_261.out; have hnb119 := NB261_256.out; have hnc119 := NB256_261.out; have hnb120 := NB261_266.out; have hnc120 := NB266_261.out; have hnb121 := NB261_272.out; have hnc121 := NB272_261.out
        have hcz122_0 : w116.cell? ⟨gb261, 0, none⟩ = some (.int .i64 t257) := (blk_cell BK261.out 0).trans rfl
        have hcz122_1 : w116.cell? ⟨gb261, 1, none⟩ = some (.slice Ao52 t258.length co52) := (blk_cell BK261.out 1).trans rfl
        have hfz122_0 := blk_frozen BK261.out 0; have hfz122_1 := blk_frozen BK261.out 1
        go_upto_region 21 with (first | ((with_reducible refine gate_callee (f := 25) rfl ?_); refine goesL_ (some 66) rfl rfl Tryd.func25 (by kernel_rfl) rfl #[.agg #[.int .i64 t257, .slice Ao52 t258.length co52], .int .i64 1] rfl ma_ ?_; (with_reducible refine (laws_markWhole.calls kj24 t257 (fun k_ => some k_ = (.slice Ao52 t258.length co52 : Value).ownBlock) (.slice Ao52 t258.length co52) t258 1 t284 t285 w _ ?side1 ?side2 A106.out).mono ?_); (case side1 => repeat (first | (with_reducible first | exact HB.out | apply below_alloc | apply pw_below_drewN | apply below_drew1 | refine below_set ?_ GE239.out | refine below_set ?_ GE240.out | refine below_set ?_ GE256.out | refine below_set ?_ GE261.out | refine below_set ?_ GE266.out | refine below_set ?_ GE272.out) | exact HB.out)); (case side2 => exact Kd.R_tight rfl HO_262001.out); rintro e w123 ⟨rfl, hy0, hb, hkp⟩; refine ⟨_, rfl, ?_⟩; have n0_ := am_ (Kd.R_mono (ok' := fun k_ => some k_ ≠ (.slice Ao52 t258.length co52 : Value).ownBlock ∧ some k_ ≠ (.slice Ao62 t263.length co62 : Value).ownBlock ∧ some k_ ≠ (.slice Ao72 t268.length co72 : Value).ownBlock ∧ some k_ ≠ (.slice Ao111 t275.length co111 : Value).ownBlock ∧ some k_ ≠ (.slice Ao115 t280.length co115 : Value).ownBlock) (Kd.R_keptB (HO_257001.out) hkp (fun k_ hk_ hs_ => (hk_.1.1.1) hs_)) (fun k_ hk_ => ⟨hk_.1.1.1.1, hk_.1.1.1.2.1, hk_.1.1.1.2.2, hk_.1.1.2, hk_.1.2⟩)); have n1_ := am_ (Kd.R_reok rfl hy0 (fun k_ e_ => HO_262001.out.1 k_ e_)); have n2_ := am_ (Kd.R_mono (ok' := fun k_ => some k_ ≠ (.slice Ao42 t252.length co42 : Value).ownBlock ∧ some k_ ≠ (.slice Ao52 t258.length co52 : Value).ownBlock ∧ some k_ ≠ (.slice Ao72 t268.length co72 : Value).ownBlock ∧ some k_ ≠ (.slice Ao111 t275.length co111 : Value).ownBlock ∧ some k_ ≠ (.slice Ao115 t280.length co115 : Value).ownBlock) (Kd.R_keptB (HO_267001.out) hkp (fun k_ hk_ hs_ => (hk_.1.1.2.1) hs_)) (fun k_ hk_ => ⟨hk_.1.1.1.1, hk_.1.1.1.2.1, hk_.1.1.1.2.2, hk_.1.1.2, hk_.1.2⟩)); have n3_ := am_ (Kd.R_mono (ok' := fun k_ => some k_ ≠ (.slice Ao42 t252.length co42 : Value).ownBlock ∧ some k_ ≠ (.slice Ao52 t258.length co52 : Value).ownBlock ∧ some k_ ≠ (.slice Ao62 t263.length co62 : Value).ownBlock ∧ some k_ ≠ (.slice Ao111 t275.length co111 : Value).ownBlock ∧ some k_ ≠ (.slice Ao115 t280.length co115 : Value).ownBlock) (Kd.R_keptB (HO_273001.out) hkp (fun k_ hk_ hs_ => (hk_.1.1.2.1) hs_)) (fun k_ hk_ => ⟨hk_.1.1.1.1, hk_.1.1.1.2.1, hk_.1.1.1.2.2, hk_.1.1.2, hk_.1.2⟩)); have n4_ := am_ (blk_kept (bk_ BK239) hkp (fun hs_ => (fun e_ => (Kd.R_ne HO_262001.out BK239.out (by decide)) e_) hs_)); have n5_ := am_ (blk_kept (bk_ BK240) hkp (fun hs_ => (fun e_ => (Kd.R_ne HO_262001.out BK240.out (by decide)) e_) hs_)); have n6_ := am_ (blk_kept (bk_ BK256) hkp (fun hs_ => (fun e_ => (Kd.R_ne HO_262001.out BK256.out (by decide)) e_) hs_)); have n7_ := am_ (blk_kept (bk_ BK261) hkp (fun hs_ => (fun e_ => (Kd.R_ne HO_262001.out BK261.out (by decide)) e_) hs_)); have n8_ := am_ (blk_kept (bk_ BK266) hkp (fun hs_ => (fun e_ => (Kd.R_ne HO_262001.out BK266.out (by decide)) e_) hs_)); have n9_ := am_ (blk_kept (bk_ BK272) hkp (fun hs_ => (fun e_ => (Kd.R_ne HO_262001.out BK272.out (by decide)) e_) hs_)); have n10_ := am_ (Kd.R_mono (ok' := fun k_ => some k_ ≠ (.slice Ao42 t252.length co42 : Value).ownBlock ∧ some k_ ≠ (.slice Ao52 t258.length co52 : Value).ownBlock ∧ some k_ ≠ (.slice Ao62 t263.length co62 : Value).ownBlock ∧ some k_ ≠ (.slice Ao72 t268.length co72 : Value).ownBlock ∧ some k_ ≠ (.slice Ao115 t280.length co115 : Value).ownBlock) (Kd.R_keptB (HO277.out) hkp (fun k_ hk_ hs_ => (hk_.1.1.1.2) hs_)) (fun k_ hk_ => ⟨hk_.1.1.1.1.1.2, hk_.1.1.1.1.2, hk_.1.1.1.2, hk_.1.1.2, hk_.1.2⟩)); have n11_ := am_ (Kd.R_mono (ok' := fun k_ => some k_ ≠ (.slice Ao42 t252.length co42 : Value).ownBlock ∧ some k_ ≠ (.slice Ao52 t258.length co52 : Value).ownBlock ∧ some k_ ≠ (.slice Ao62 t263.length co62 : Value).ownBlock ∧ some k_ ≠ (.slice Ao72 t268.length co72 : Value).ownBlock ∧ some k_ ≠ (.slice Ao111 t275.length co111 : Value).ownBlock) (Kd.R_keptB (HO282.out) hkp (fun k_ hk_ hs_ => (hk_.1.1.1.2) hs_)) (fun k_ hk_ => ⟨hk_.1.1.1.1.1.2, hk_.1.1.1.1.2, hk_.1.1.1.2, hk_.1.1.2, hk_.1.2⟩)); have n12_ := am_ (hb); clear HO_257001; clear HO_262001; clear HO_267001; clear HO_273001; clear BK239; clear BK240; clear BK256; clear BK261; clear BK266; clear BK272; clear HO277; clear HO282; clear HB; have HO_257001 := n0_; have HO_262001 := n1_; have HO_267001 := n2_; have HO_273001 := n3_; have BK239 := n4_; have BK240 := n5_; have BK256 := n6_; have BK261 := n7_; have BK266 := n8_; have BK272 := n9_; have HO277 := n10_; have HO282 := n11_; have HB := n12_; clear n0_ n1_ n2_ n3_ n4_ n5_ n6_ n7_ n8_ n9_ n10_ n11_ n12_; (try clear hb); (try clear hkp); (try clear hy0); have hnb124 := NB266_239.out; have hnc124 := NB239_266.out; have hnb125 := NB266_240.out; have hnc125 := NB240_266.out; have hnb126 := NB266_256.out; have hnc126 := NB256_266.out; have hnb127 := NB266_272.out; have hnc127 := NB272_266.out; have hcz128_0 : w123.cell? ⟨gb266, 0, none⟩ = some (.int .i64 t262) := (blk_cell BK266.out 0).trans rfl; have hcz128_1 : w123.cell? ⟨gb266, 1, none⟩ = some (.slice Ao62 t263.length co62) := (blk_cell BK266.out 1).trans rfl; have hfz128_0 := blk_frozen BK266.out 0; have hfz128_1 := blk_frozen BK266.out 1) | ((with_reducible refine gate_callee (f := 25) rfl ?_); refine goesL_ (some 69) rfl rfl Tryd.func25 (by kernel_rfl) rfl #[.agg #[.int .i64 t262, .slice Ao62 t263.length co62], .int .i64 t284] rfl ma_ ?_; (with_reducible refine (laws_markWhole.calls kj24 t262 (fun k_ => some k_ = (.slice Ao62 t263.length co62 : Value).ownBlock) (.slice Ao62 t263.length co62) t263 t284 t286 t287 w _ ?side1 ?side2 A107.out).mono ?_); (case side1 => repeat (first | (with_reducible first | exact HB.out | apply below_alloc | apply pw_below_drewN | apply below_drew1 | refine below_set ?_ GE239.out | refine below_set ?_ GE240.out | refine below_set ?_ GE256.out | refine below_set ?_ GE261.out | refine below_set ?_ GE266.out | refine below_set ?_ GE272.out) | exact HB.out)); (case side2 => exact Kd.R_tight rfl HO_267001.out); rintro e w129 ⟨rfl, hy0, hb, hkp⟩; refine ⟨_, rfl, ?_⟩; have n0_ := am_ (Kd.R_mono (ok' := fun k_ => some k_ ≠ (.slice Ao52 t258.length co52 : Value).ownBlock ∧ some k_ ≠ (.slice Ao62 t263.length co62 : Value).ownBlock ∧ some k_ ≠ (.slice Ao72 t268.length co72 : Value).ownBlock ∧ some k_ ≠ (.slice Ao111 t275.length co111 : Value).ownBlock ∧ some k_ ≠ (.slice Ao115 t280.length co115 : Value).ownBlock) (Kd.R_keptB (HO_257001.out) hkp (fun k_ hk_ hs_ => (hk_.2.1) hs_)) (fun k_ hk_ => ⟨hk_.1.1, hk_.1.2.1, hk_.1.2.2.1, hk_.1.2.2.2.1, hk_.1.2.2.2.2⟩)); have n1_ := am_ (Kd.R_mono (ok' := fun k_ => some k_ ≠ (.slice Ao42 t252.length co42 : Value).ownBlock ∧ some k_ ≠ (.slice Ao62 t263.length co62 : Value).ownBlock ∧ some k_ ≠ (.slice Ao72 t268.length co72 : Value).ownBlock ∧ some k_ ≠ (.slice Ao111 t275.length co111 : Value).ownBlock ∧ some k_ ≠ (.slice Ao115 t280.length co115 : Value).ownBlock) (Kd.R_keptB (HO_262001.out) hkp (fun k_ hk_ hs_ => (hk_.1.1.2.1) hs_)) (fun k_ hk_ => ⟨hk_.1.1.1.1, hk_.1.1.1.2.1, hk_.1.1.1.2.2, hk_.1.1.2, hk_.1.2⟩)); have n2_ := am_ (Kd.R_reok rfl hy0 (fun k_ e_ => HO_267001.out.1 k_ e_)); have n3_ := am_ (Kd.R_mono (ok' := fun k_ => some k_ ≠ (.slice Ao42 t252.length co42 : Value).ownBlock ∧ some k_ ≠ (.slice Ao52 t258.length co52 : Value).ownBlock ∧ some k_ ≠ (.slice Ao62 t263.length co62 : Value).ownBlock ∧ some k_ ≠ (.slice Ao111 t275.length co111 : Value).ownBlock ∧ some k_ ≠ (.slice Ao115 t280.length co115 : Value).ownBlock) (Kd.R_keptB (HO_273001.out) hkp (fun k_ hk_ hs_ => (hk_.2.2.1) hs_)) (fun k_ hk_ => ⟨hk_.1.1, hk_.1.2.1, hk_.1.2.2.1, hk_.1.2.2.2.1, hk_.1.2.2.2.2⟩)); have n4_ := am_ (blk_kept (bk_ BK239) hkp (fun hs_ => (fun e_ => (Kd.R_ne HO_267001.out BK239.out (by decide)) e_) hs_)); have n5_ := am_ (blk_kept (bk_ BK240) hkp (fun hs_ => (fun e_ => (Kd.R_ne HO_267001.out BK240.out (by decide)) e_) hs_)); have n6_ := am_ (blk_kept (bk_ BK256) hkp (fun hs_ => (fun e_ => (Kd.R_ne HO_267001.out BK256.out (by decide)) e_) hs_)); have n7_ := am_ (blk_kept (bk_ BK261) hkp (fun hs_ => (fun e_ => (Kd.R_ne HO_267001.out BK261.out (by decide)) e_) hs_)); have n8_ := am_ (blk_kept (bk_ BK266) hkp (fun hs_ => (fun e_ => (Kd.R_ne HO_267001.out BK266.out (by decide)) e_) hs_)); have n9_ := am_ (blk_kept (bk_ BK272) hkp (fun hs_ => (fun e_ => (Kd.R_ne HO_267001.out BK272.out (by decide)) e_) hs_)); have n10_ := am_ (Kd.R_mono (ok' := fun k_ => some k_ ≠ (.slice Ao42 t252.length co42 : Value).ownBlock ∧ some k_ ≠ (.slice Ao52 t258.length co52 : Value).ownBlock ∧ some k_ ≠ (.slice Ao62 t263.length co62 : Value).ownBlock ∧ some k_ ≠ (.slice Ao72 t268.length co72 : Value).ownBlock ∧ some k_ ≠ (.slice Ao115 t280.length co115 : Value).ownBlock) (Kd.R_keptB (HO277.out) hkp (fun k_ hk_ hs_ => (hk_.2.2.1) hs_)) (fun k_ hk_ => ⟨hk_.1.1, hk_.1.2.1, hk_.1.2.2.1, hk_.1.2.2.2.1, hk_.1.2.2.2.2⟩)); have n11_ := am_ (Kd.R_mono (ok' := fun k_ => some k_ ≠ (.slice Ao42 t252.length co42 : Value).ownBlock ∧ some k_ ≠ (.slice Ao52 t258.length co52 : Value).ownBlock ∧ some k_ ≠ (.slice Ao62 t263.length co62 : Value).ownBlock ∧ some k_ ≠ (.slice Ao72 t268.length co72 : Value).ownBlock ∧ some k_ ≠ (.slice Ao111 t275.length co111 : Value).ownBlock) (Kd.R_keptB (HO282.out) hkp (fun k_ hk_ hs_ => (hk_.2.2.1) hs_)) (fun k_ hk_ => ⟨hk_.1.1, hk_.1.2.1, hk_.1.2.2.1, hk_.1.2.2.2.1, hk_.1.2.2.2.2⟩)); have n12_ := am_ (hb); clear HO_257001; clear HO_262001; clear HO_267001; clear HO_273001; clear BK239; clear BK240; clear BK256; clear BK261; clear BK266; clear BK272; clear HO277; clear HO282; clear HB; have HO_257001 := n0_; have HO_262001 := n1_; have HO_267001 := n2_; have HO_273001 := n3_; have BK239 := n4_; have BK240 := n5_; have BK256 := n6_; have BK261 := n7_; have BK266 := n8_; have BK272 := n9_; have HO277 := n10_; have HO282 := n11_; have HB := n12_; clear n0_ n1_ n2_ n3_ n4_ n5_ n6_ n7_ n8_ n9_ n10_ n11_ n12_; (try clear hb); (try clear hkp); (try clear hy0)))
        (try simp only [Act.put, List.setIfInBounds_toArray, List.set_cons_zero, List.set_cons_succ])
        go_cut [82] (fun v82 wc => ∃ (kq : Nat) (x82_107 : Bool), v82 = .bool x82_107 ∧ Aside0 (laws_FnExactAddWholes.j1 kq t255 x82_107 a0_0 l0_1 a1_0 l1_1 t251 t252 t267 t268 = some r) ∧ Aside0 (kq ≤ kj24) ∧ Aside0 (Kd.R (Kd.int .i64) 2 wc w.heap.size (fun k_ => some k_ ≠ ((.slice Ao52 t258.length co52) : Value).ownBlock ∧ some k_ ≠ ((.slice Ao62 t263.length co62) : Value).ownBlock ∧ some k_ ≠ ((.slice Ao72 t268.length co72) : Value).ownBlock) (.slice Ao42 t252.length co42) t252) ∧ Aside0 (Kd.R (Kd.int .i64) 2 wc w.heap.size (fun k_ => some k_ ≠ ((.slice Ao42 t252.length co42) : Value).ownBlock ∧ some k_ ≠ ((.slice Ao62 t263.length co62) : Value).ownBlock ∧ some k_ ≠ ((.slice Ao72 t268.length co72) : Value).ownBlock) (.slice Ao52 t258.length co52) t285) ∧ Aside0 (Kd.R (Kd.int .i64) 2 wc w.heap.size (fun k_ => some k_ ≠ ((.slice Ao42 t252.length co42) : Value).ownBlock ∧ some k_ ≠ ((.slice Ao52 t258.length co52) : Value).ownBlock ∧ some k_ ≠ ((.slice Ao72 t268.length co72) : Value).ownBlock) (.slice Ao62 t263.length co62) t287) ∧ Aside0 (Kd.R (Kd.int .i64) 2 wc w.heap.size (fun k_ => some k_ ≠ ((.slice Ao42 t252.length co42) : Value).ownBlock ∧ some k_ ≠ ((.slice Ao52 t258.length co52) : Value).ownBlock ∧ some k_ ≠ ((.slice Ao62 t263.length co62) : Value).ownBlock) (.slice Ao72 t268.length co72) t268) ∧ Aside0 (wc.heap[gb239]? = some (.cells #[.int .i64 a0_0, (.slice A0_1 l0_1.length c0_1)] 24 (0, 0))) ∧ Aside0 (wc.heap[gb240]? = some (.cells #[.int .i64 a1_0, (.slice A1_1 l1_1.length c1_1)] 24 (0, 0))) ∧ Aside0 (wc.heap[gb256]? = some (.cells #[.int .i64 t251, (.slice Ao42 t252.length co42)] 28 (0, 0))) ∧ Aside0 (wc.heap[gb261]? = some (.cells #[.int .i64 t257, (.slice Ao52 t258.length co52)] 28 (0, 0))) ∧ Aside0 (wc.heap[gb266]? = some (.cells #[.int .i64 t262, (.slice Ao62 t263.length co62)] 28 (0, 0))) ∧ Aside0 (wc.heap[gb272]? = some (.cells #[.int .i64 t267, (.slice Ao72 t268.length co72)] 28 (0, 0))) ∧ Aside0 (Below w.heap.size w wc))
        case first =>
         have H := HC108.out; clear HC108
         by_cases c130 : t286 < 0
         ·rw [if_pos c130] at H
          have c130b0 : decide (t286 < 0) = true := decide_eq_true c130
          clear c130
          (first | rw [c130b0] | (simp only [i64_w, i32_w]; rw [c130b0]) | skip)
          have H' := Aside0.mk H
          clear H
          go_wp2
          go_meet
          case rel => exact ⟨_, (true), (by first | rfl | (simp; done) | (simp [*]; done)), H', ⟨by have := HJ24.out; first | omega | exact Nat.le_refl _⟩, ⟨km_ HO_257001 (fun _ hk => ⟨hk.1, ⟨hk.2.1, hk.2.2.1⟩⟩)⟩, ⟨km_ HO_262001 (fun _ hk => ⟨hk.1, ⟨hk.2.1, hk.2.2.1⟩⟩)⟩, ⟨km_ HO_267001 (fun _ hk => ⟨hk.1, ⟨hk.2.1, hk.2.2.1⟩⟩)⟩, ⟨km_ HO_273001 (fun _ hk => ⟨hk.1, ⟨hk.2.1, hk.2.2.1⟩⟩)⟩, ⟨bk_ BK239⟩, ⟨bk_ BK240⟩, ⟨bk_ BK256⟩, ⟨bk_ BK261⟩, ⟨bk_ BK266⟩, ⟨bk_ BK272⟩, ⟨bl_ HB⟩⟩
         ·rw [if_neg c130] at H
          have c130b0 : decide (t286 < 0) = false := decide_eq_false c130
          clear c130
          (first | rw [c130b0] | (simp only [i64_w, i32_w]; rw [c130b0]) | skip)
          replace H := Option.bind_eq_some_iff.mp H
          obtain ⟨t288, A1310, H⟩ := H
          replace H : (if t288 = true then (laws_FnExactAddWholes.j1 kj24 t255 (t271 != t255) a0_0 l0_1 a1_0 l1_1 t251 t252 t267 t268) else (laws_FnExactAddWholes.j1 kj24 t255 true a0_0 l0_1 a1_0 l1_1 t251 t252 t267 t268)) = some r := H
          have A131 := Aside0.mk A1310; clear A1310
          by_cases c132 : t288 = true
          ·subst c132
           have H1 : (laws_FnExactAddWholes.j1 kj24 t255 (t271 != t255) a0_0 l0_1 a1_0 l1_1 t251 t252 t267 t268) = some r := by rw [if_pos rfl] at H; exact H
           clear H; have H := H1; clear H1
           have H' := Aside0.mk H
           clear H; have hnb133 := NB272_239.out; have hnc133 := NB239_272.out; have hnb134 := NB272_240.out; have hnc134 := NB240_272.out; have hnb135 := NB272_256.out; have hnc135 := NB256_272.out; have hnb136 := NB272_261.out; have hnc136 := NB261_272.out; have hnb137 := NB272_266.out; have hnc137 := NB266_272.out
           have hcz138_0 : w129.cell? ⟨gb272, 0, none⟩ = some (.int .i64 t267) := (blk_cell BK272.out 0).trans rfl
           have hcz138_1 : w129.cell? ⟨gb272, 1, none⟩ = some (.slice Ao72 t268.length co72) := (blk_cell BK272.out 1).trans rfl
           have hfz138_0 := blk_frozen BK272.out 0; have hfz138_1 := blk_frozen BK272.out 1; have hnb139 := NB256_239.out; have hnc139 := NB239_256.out; have hnb140 := NB256_240.out; have hnc140 := NB240_256.out; have hnb141 := NB256_261.out; have hnc141 := NB261_256.out; have hnb142 := NB256_266.out; have hnc142 := NB266_256.out
           have hcz143_0 : w129.cell? ⟨gb256, 0, none⟩ = some (.int .i64 t251) := (blk_cell BK256.out 0).trans rfl
           have hcz143_1 : w129.cell? ⟨gb256, 1, none⟩ = some (.slice Ao42 t252.length co42) := (blk_cell BK256.out 1).trans rfl
           have hfz143_0 := blk_frozen BK256.out 0; have hfz143_1 := blk_frozen BK256.out 1
           go_wp2_with (first | (go_at_call 22; (with_reducible refine (laws_eqWhole.calls kj24 t267 _ _ t268 t251 _ _ t252 true _ ?side1 ?side2 ?side3 ?side4 A131.out).mono ?_); (case side1 => repeat (first | exact (Kd.R_reads' HO_273001.out).2.2 | (with_reducible refine Kd.C_alloc ?_ _) | (with_reducible refine Kd.C_drewN ?_ _) | (with_reducible refine Kd.C_drew ?_))); (case side2 => exact (Kd.R_reads' HO_273001.out).2.1); (case side3 => repeat (first | exact (Kd.R_reads' HO_257001.out).2.2 | (with_reducible refine Kd.C_alloc ?_ _) | (with_reducible refine Kd.C_drewN ?_ _) | (with_reducible refine Kd.C_drew ?_))); (case side4 => exact (Kd.R_reads' HO_257001.out).2.1); rintro e w144 ⟨rfl, hb⟩; have n0_ := am_ (Kd.R_below (kr_ HO_257001) hb); have n1_ := am_ (Kd.R_below (kr_ HO_262001) hb); have n2_ := am_ (Kd.R_below (kr_ HO_267001) hb); have n3_ := am_ (Kd.R_below (kr_ HO_273001) hb); have n4_ := am_ (Kd.R_below (kr_ HO277) hb); have n5_ := am_ (Kd.R_below (kr_ HO282) hb); have n6_ := am_ (blk_below (bk_ BK239) hb); have n7_ := am_ (blk_below (bk_ BK240) hb); have n8_ := am_ (blk_below (bk_ BK256) hb); have n9_ := am_ (blk_below (bk_ BK261) hb); have n10_ := am_ (blk_below (bk_ BK266) hb); have n11_ := am_ (blk_below (bk_ BK272) hb); have n12_ := am_ (below_step (bl_ HB) hb); clear HO_257001; clear HO_262001; clear HO_267001; clear HO_273001; clear HO277; clear HO282; clear BK239; clear BK240; clear BK256; clear BK261; clear BK266; clear BK272; clear HB; have HO_257001 := n0_; have HO_262001 := n1_; have HO_267001 := n2_; have HO_273001 := n3_; have HO277 := n4_; have HO282 := n5_; have BK239 := n6_; have BK240 := n7_; have BK256 := n8_; have BK261 := n9_; have BK266 := n10_; have BK272 := n11_; have HB := n12_; clear n0_ n1_ n2_ n3_ n4_ n5_ n6_ n7_ n8_ n9_ n10_ n11_ n12_; (try clear hb); (try clear hb2); (try clear hk); (try clear hi)))
           go_meet
           case rel => exact ⟨_, ((t271 != t255)), (by first | rfl | (simp; done) | (simp [*]; done)), H', ⟨by have := HJ24.out; first | omega | exact Nat.le_refl _⟩, ⟨km_ HO_257001 (fun _ hk => ⟨hk.1, ⟨hk.2.1, hk.2.2.1⟩⟩)⟩, ⟨km_ HO_262001 (fun _ hk => ⟨hk.1, ⟨hk.2.1, hk.2.2.1⟩⟩)⟩, ⟨km_ HO_267001 (fun _ hk => ⟨hk.1, ⟨hk.2.1, hk.2.2.1⟩⟩)⟩, ⟨km_ HO_273001 (fun _ hk => ⟨hk.1, ⟨hk.2.1, hk.2.2.1⟩⟩)⟩, ⟨bk_ BK239⟩, ⟨bk_ BK240⟩, ⟨bk_ BK256⟩, ⟨bk_ BK261⟩, ⟨bk_ BK266⟩, ⟨bk_ BK272⟩, ⟨bl_ HB⟩⟩
          ·replace c132 := Bool.eq_false_iff.mpr c132
           subst c132
           have H1 : (laws_FnExactAddWholes.j1 kj24 t255 true a0_0 l0_1 a1_0 l1_1 t251 t252 t267 t268) = some r := by rw [if_neg (show ¬ (false = true) by decide)] at H; exact H
           clear H; have H := H1; clear H1
           have H' := Aside0.mk H
           clear H; have hnb145 := NB272_239.out; have hnc145 := NB239_272.out; have hnb146 := NB272_240.out; have hnc146 := NB240_272.out; have hnb147 := NB272_256.out; have hnc147 := NB256_272.out; have hnb148 := NB272_261.out; have hnc148 := NB261_272.out; have hnb149 := NB272_266.out; have hnc149 := NB266_272.out
           have hcz150_0 : w129.cell? ⟨gb272, 0, none⟩ = some (.int .i64 t267) := (blk_cell BK272.out 0).trans rfl
           have hcz150_1 : w129.cell? ⟨gb272, 1, none⟩ = some (.slice Ao72 t268.length co72) := (blk_cell BK272.out 1).trans rfl
           have hfz150_0 := blk_frozen BK272.out 0; have hfz150_1 := blk_frozen BK272.out 1; have hnb151 := NB256_239.out; have hnc151 := NB239_256.out; have hnb152 := NB256_240.out; have hnc152 := NB240_256.out; have hnb153 := NB256_261.out; have hnc153 := NB261_256.out; have hnb154 := NB256_266.out; have hnc154 := NB266_256.out
           have hcz155_0 : w129.cell? ⟨gb256, 0, none⟩ = some (.int .i64 t251) := (blk_cell BK256.out 0).trans rfl
           have hcz155_1 : w129.cell? ⟨gb256, 1, none⟩ = some (.slice Ao42 t252.length co42) := (blk_cell BK256.out 1).trans rfl
           have hfz155_0 := blk_frozen BK256.out 0; have hfz155_1 := blk_frozen BK256.out 1
           go_wp2_with (first | (go_at_call 22; (with_reducible refine (laws_eqWhole.calls kj24 t267 _ _ t268 t251 _ _ t252 false _ ?side1 ?side2 ?side3 ?side4 A131.out).mono ?_); (case side1 => repeat (first | exact (Kd.R_reads' HO_273001.out).2.2 | (with_reducible refine Kd.C_alloc ?_ _) | (with_reducible refine Kd.C_drewN ?_ _) | (with_reducible refine Kd.C_drew ?_))); (case side2 => exact (Kd.R_reads' HO_273001.out).2.1); (case side3 => repeat (first | exact (Kd.R_reads' HO_257001.out).2.2 | (with_reducible refine Kd.C_alloc ?_ _) | (with_reducible refine Kd.C_drewN ?_ _) | (with_reducible refine Kd.C_drew ?_))); (case side4 => exact (Kd.R_reads' HO_257001.out).2.1); rintro e w156 ⟨rfl, hb⟩; have n0_ := am_ (Kd.R_below (kr_ HO_257001) hb); have n1_ := am_ (Kd.R_below (kr_ HO_262001) hb); have n2_ := am_ (Kd.R_below (kr_ HO_267001) hb); have n3_ := am_ (Kd.R_below (kr_ HO_273001) hb); have n4_ := am_ (Kd.R_below (kr_ HO277) hb); have n5_ := am_ (Kd.R_below (kr_ HO282) hb); have n6_ := am_ (blk_below (bk_ BK239) hb); have n7_ := am_ (blk_below (bk_ BK240) hb); have n8_ := am_ (blk_below (bk_ BK256) hb); have n9_ := am_ (blk_below (bk_ BK261) hb); have n10_ := am_ (blk_below (bk_ BK266) hb); have n11_ := am_ (blk_below (bk_ BK272) hb); have n12_ := am_ (below_step (bl_ HB) hb); clear HO_257001; clear HO_262001; clear HO_267001; clear HO_273001; clear HO277; clear HO282; clear BK239; clear BK240; clear BK256; clear BK261; clear BK266; clear BK272; clear HB; have HO_257001 := n0_; have HO_262001 := n1_; have HO_267001 := n2_; have HO_273001 := n3_; have HO277 := n4_; have HO282 := n5_; have BK239 := n6_; have BK240 := n7_; have BK256 := n8_; have BK261 := n9_; have BK266 := n10_; have BK272 := n11_; have HB := n12_; clear n0_ n1_ n2_ n3_ n4_ n5_ n6_ n7_ n8_ n9_ n10_ n11_ n12_; (try clear hb); (try clear hb2); (try clear hk); (try clear hi)))
           go_meet
           case rel => exact ⟨_, (true), (by first | rfl | (simp; done) | (simp [*]; done)), H', ⟨by have := HJ24.out; first | omega | exact Nat.le_refl _⟩, ⟨km_ HO_257001 (fun _ hk => ⟨hk.1, ⟨hk.2.1, hk.2.2.1⟩⟩)⟩, ⟨km_ HO_262001 (fun _ hk => ⟨hk.1, ⟨hk.2.1, hk.2.2.1⟩⟩)⟩, ⟨km_ HO_267001 (fun _ hk => ⟨hk.1, ⟨hk.2.1, hk.2.2.1⟩⟩)⟩, ⟨km_ HO_273001 (fun _ hk => ⟨hk.1, ⟨hk.2.1, hk.2.2.1⟩⟩)⟩, ⟨bk_ BK239⟩, ⟨bk_ BK240⟩, ⟨bk_ BK256⟩, ⟨bk_ BK261⟩, ⟨bk_ BK266⟩, ⟨bk_ BK272⟩, ⟨bl_ HB⟩⟩
        case rest =>
         clear HC108; try clear c1; try clear c2; try clear p2; try clear c7; try clear c8; try clear c9; try clear c10; try clear c11; try clear c12; try clear c13; try clear c14; try clear c15; try clear c20; try clear c22; try clear c25; try clear c76; try clear c77; try clear c78; try clear c79; try clear c81; try clear c82; try clear c83; try clear c84; try clear c87; try clear c88; try clear c89; try clear c90; try clear c91; try clear c93; try clear c94; try clear c95; try clear c96; try clear c99; try clear c102; try clear c105; try clear c117; try clear c118; try clear c119; try clear c120; try clear c121; try clear c124; try clear c125; try clear c126; try clear c127; try clear c130; try clear c130b0; try clear c132; try clear c133; try clear c134; try clear c135; try clear c136; try clear c137; try clear c139; try clear c140; try clear c141; try clear c142; try clear c145; try clear c146; try clear c147; try clear c148; try clear c149; try clear c151; try clear c152; try clear c153; try clear c154; try clear hcz122_0; try clear hcz122_1; try clear hcz128_0; try clear hcz128_1; try clear hcz138_0; try clear hcz138_1; try clear hcz143_0; try clear hcz143_1; try clear hcz150_0; try clear hcz150_1; try clear hcz155_0; try clear hcz155_1; try clear hcz45_0; try clear hcz45_1; try clear hcz51_0; try clear hcz51_1; try clear hcz54_0; try clear hcz54_1; try clear hcz61_0; try clear hcz61_1; try clear hcz63_0; try clear hcz63_1; try clear hcz71_0; try clear hcz71_1; try clear hcz80_0; try clear hcz80_1; try clear hcz85_0; try clear hcz85_1; try clear hcz92_0; try clear hcz92_1; try clear hcz97_0; try clear hcz97_1; try clear hfz122_0; try clear hfz122_1; try clear hfz128_0; try clear hfz128_1; try clear hfz138_0; try clear hfz138_1; try clear hfz143_0; try clear hfz143_1; try clear hfz150_0; try clear hfz150_1; try clear hfz155_0; try clear hfz155_1; try clear hfz45_0; try clear hfz45_1; try clear hfz51_0; try clear hfz51_1; try clear hfz54_0; try clear hfz54_1; try clear hfz61_0
         try clear hfz61_1; try clear hfz63_0; try clear hfz63_1; try clear hfz71_0; try clear hfz71_1; try clear hfz80_0; try clear hfz80_1; try clear hfz85_0; try clear hfz85_1; try clear hfz92_0; try clear hfz92_1; try clear hfz97_0; try clear hfz97_1
         obtain ⟨kq, x82_107, rfl, HA, HJ107, HO_257001, HO_262001, HO_267001, HO_273001, BK239, BK240, BK256, BK261, BK266, BK272, HB⟩ := hcut
         have hl262001_107 := (Kd.R_reads' HO_262001.out).1
         rw [hl262001_107] at HO_262001
         (try simp only [hl262001_107])
         (try simp only [hl262001_107] at BK239)
         (try simp only [hl262001_107] at BK240)
         (try simp only [hl262001_107] at BK256)
         (try simp only [hl262001_107] at BK261)
         (try simp only [hl262001_107] at BK266)
         (try simp only [hl262001_107] at BK272)
         (try simp only [hl262001_107] at HO_257001)
         (try simp only [hl262001_107] at HO_267001)
         (try simp only [hl262001_107] at HO_273001)
         have hl267001_107 := (Kd.R_reads' HO_267001.out).1
         rw [hl267001_107] at HO_267001
         (try simp only [hl267001_107])
         (try simp only [hl267001_107] at BK239)
         (try simp only [hl267001_107] at BK240)
         (try simp only [hl267001_107] at BK256)
         (try simp only [hl267001_107] at BK261)
         (try simp only [hl267001_107] at BK266)
         (try simp only [hl267001_107] at BK272)
         (try simp only [hl267001_107] at HO_257001)
         (try simp only [hl267001_107] at HO_262001)
         (try simp only [hl267001_107] at HO_273001)
         cases kq with
         | zero => exact absurd HA.out (by simp [laws_FnExactAddWholes.j1])
         | succ kj107 =>
          have H := HA.out; clear HA
          simp only [laws_FnExactAddWholes.j1] at H
          by_cases c157 : x82_107 = true
          ·subst c157
           have H1 : (some false) = some r := by rw [if_pos rfl] at H; exact H
           clear H; have H := H1; clear H1; obtain rfl := Option.some.inj H
           go_wp2
           go_ret
           exact ⟨by first | rfl | (simp [errW_none, errW_some] <;> rfl) | (simp [*, errW_none, errW_some] <;> rfl), bl_ HB⟩
          ·replace c157 := Bool.eq_false_iff.mpr c157
           subst c157
           have H1 : ((laws_markWhole.f kj107 t267 t268 1).bind fun bt289 => ((laws_heldWhole.f kj107 t267 bt289.2 1).bind fun t291 => (if t291 < 0 then (some false) else (if t291 = bt289.1 then ((laws_toWhole.f kj107 a0_0 l0_1).bind fun bt292 => ((laws_toWhole.f kj107 a1_0 l1_1).bind fun bt296 => ((impl_AddWholes.f bt292.1 bt292.2 bt296.1 bt296.2).bind fun bt300 => ((laws_eqWhole.f kj107 bt300.1 bt300.2.1 t251 t252).bind fun t306 => (if t306 = true then (laws_FnExactAddWholes.j2 kj107 bt289.1 (bt300.2.2 != t255) t267 bt289.2) else (laws_FnExactAddWholes.j2 kj107 bt289.1 true t267 bt289.2)))))) else (some false))))) = some r := by rw [if_neg (show ¬ (false = true) by decide)] at H; exact H
           clear H; have H := H1; clear H1
           replace H := Option.bind_eq_some_iff.mp H
           obtain ⟨⟨t289, t290⟩, A1580, H⟩ := H
           replace H : ((laws_heldWhole.f kj107 t267 t290 1).bind fun t291 => (if t291 < 0 then (some false) else (if t291 = t289 then ((laws_toWhole.f kj107 a0_0 l0_1).bind fun bt292 => ((laws_toWhole.f kj107 a1_0 l1_1).bind fun bt296 => ((impl_AddWholes.f bt292.1 bt292.2 bt296.1 bt296.2).bind fun bt300 => ((laws_eqWhole.f kj107 bt300.1 bt300.2.1 t251 t252).bind fun t306 => (if t306 = true then (laws_FnExactAddWholes.j2 kj107 t289 (bt300.2.2 != t255) t267 t290) else (laws_FnExactAddWholes.j2 kj107 t289 true t267 t290)))))) else (some false)))) = some r := H
           have A158 := Aside0.mk A1580; clear A1580
           replace H := Option.bind_eq_some_iff.mp H
           obtain ⟨t291, A1590, H⟩ := H
           replace H : (if t291 < 0 then (some false) else (if t291 = t289 then ((laws_toWhole.f kj107 a0_0 l0_1).bind fun bt292 => ((laws_toWhole.f kj107 a1_0 l1_1).bind fun bt296 => ((impl_AddWholes.f bt292.1 bt292.2 bt296.1 bt296.2).bind fun bt300 => ((laws_eqWhole.f kj107 bt300.1 bt300.2.1 t251 t252).bind fun t306 => (if t306 = true then (laws_FnExactAddWholes.j2 kj107 t289 (bt300.2.2 != t255) t267 t290) else (laws_FnExactAddWholes.j2 kj107 t289 true t267 t290)))))) else (some false))) = some r := H
           have A159 := Aside0.mk A1590; clear A1590
           by_cases c160 : t291 < 0
           ·rw [if_pos c160] at H
            have c160b0 : decide (t291 < 0) = true := decide_eq_true c160
            clear c160; obtain rfl := Option.some.inj H; have hnb161 := NB272_239.out; have hnc161 := NB239_272.out; have hnb162 := NB272_240.out; have hnc162 := NB240_272.out; have hnb163 := NB272_256.out; have hnc163 := NB256_272.out; have hnb164 := NB272_261.out; have hnc164 := NB261_272.out; have hnb165 := NB272_266.out; have hnc165 := NB266_272.out
            have hcz166_0 : wc.cell? ⟨gb272, 0, none⟩ = some (.int .i64 t267) := (blk_cell BK272.out 0).trans rfl
            have hcz166_1 : wc.cell? ⟨gb272, 1, none⟩ = some (.slice Ao72 t268.length co72) := (blk_cell BK272.out 1).trans rfl
            have hfz166_0 := blk_frozen BK272.out 0; have hfz166_1 := blk_frozen BK272.out 1
            go_wp2_with (first | ((with_reducible refine gate_callee (f := 25) rfl ?_); refine goesL_ (some 85) rfl rfl Tryd.func25 (by kernel_rfl) rfl #[.agg #[.int .i64 t267, .slice Ao72 t268.length co72], .int .i64 1] rfl ma_ ?_; (with_reducible refine (laws_markWhole.calls kj107 t267 (fun k_ => some k_ = (.slice Ao72 t268.length co72 : Value).ownBlock) (.slice Ao72 t268.length co72) t268 1 t289 t290 w _ ?side1 ?side2 A158.out).mono ?_); (case side1 => repeat (first | (with_reducible first | exact HB.out | apply below_alloc | apply pw_below_drewN | apply below_drew1 | refine below_set ?_ GE239.out | refine below_set ?_ GE240.out | refine below_set ?_ GE256.out | refine below_set ?_ GE261.out | refine below_set ?_ GE266.out | refine below_set ?_ GE272.out) | exact HB.out)); (case side2 => exact Kd.R_tight rfl HO_273001.out); rintro e w167 ⟨rfl, hy0, hb, hkp⟩; refine ⟨_, rfl, ?_⟩; have n0_ := am_ (Kd.R_mono (ok' := fun k_ => some k_ ≠ (.slice Ao52 t285.length co52 : Value).ownBlock ∧ some k_ ≠ (.slice Ao62 t287.length co62 : Value).ownBlock ∧ some k_ ≠ (.slice Ao72 t268.length co72 : Value).ownBlock) (Kd.R_keptB (HO_257001.out) hkp (fun k_ hk_ hs_ => (hk_.2.2) hs_)) (fun k_ hk_ => ⟨hk_.1.1, hk_.1.2.1, hk_.1.2.2⟩)); have n1_ := am_ (Kd.R_mono (ok' := fun k_ => some k_ ≠ (.slice Ao42 t252.length co42 : Value).ownBlock ∧ some k_ ≠ (.slice Ao62 t287.length co62 : Value).ownBlock ∧ some k_ ≠ (.slice Ao72 t268.length co72 : Value).ownBlock) (Kd.R_keptB (HO_262001.out) hkp (fun k_ hk_ hs_ => (hk_.2.2) hs_)) (fun k_ hk_ => ⟨hk_.1.1, hk_.1.2.1, hk_.1.2.2⟩)); have n2_ := am_ (Kd.R_mono (ok' := fun k_ => some k_ ≠ (.slice Ao42 t252.length co42 : Value).ownBlock ∧ some k_ ≠ (.slice Ao52 t285.length co52 : Value).ownBlock ∧ some k_ ≠ (.slice Ao72 t268.length co72 : Value).ownBlock) (Kd.R_keptB (HO_267001.out) hkp (fun k_ hk_ hs_ => (hk_.2.2) hs_)) (fun k_ hk_ => ⟨hk_.1.1, hk_.1.2.1, hk_.1.2.2⟩)); have n3_ := am_ (Kd.R_reok rfl hy0 (fun k_ e_ => HO_273001.out.1 k_ e_)); have n4_ := am_ (blk_kept (bk_ BK239) hkp (fun hs_ => (fun e_ => (Kd.R_ne HO_273001.out BK239.out (by decide)) e_) hs_)); have n5_ := am_ (blk_kept (bk_ BK240) hkp (fun hs_ => (fun e_ => (Kd.R_ne HO_273001.out BK240.out (by decide)) e_) hs_)); have n6_ := am_ (blk_kept (bk_ BK256) hkp (fun hs_ => (fun e_ => (Kd.R_ne HO_273001.out BK256.out (by decide)) e_) hs_)); have n7_ := am_ (blk_kept (bk_ BK261) hkp (fun hs_ => (fun e_ => (Kd.R_ne HO_273001.out BK261.out (by decide)) e_) hs_)); have n8_ := am_ (blk_kept (bk_ BK266) hkp (fun hs_ => (fun e_ => (Kd.R_ne HO_273001.out BK266.out (by decide)) e_) hs_)); have n9_ := am_ (blk_kept (bk_ BK272) hkp (fun hs_ => (fun e_ => (Kd.R_ne HO_273001.out BK272.out (by decide)) e_) hs_)); have n10_ := am_ (hb); clear HO_257001; clear HO_262001; clear HO_267001; clear HO_273001; clear BK239; clear BK240; clear BK256; clear BK261; clear BK266; clear BK272; clear HB; have HO_257001 := n0_; have HO_262001 := n1_; have HO_267001 := n2_; have HO_273001 := n3_; have BK239 := n4_; have BK240 := n5_; have BK256 := n6_; have BK261 := n7_; have BK266 := n8_; have BK272 := n9_; have HB := n10_; clear n0_ n1_ n2_ n3_ n4_ n5_ n6_ n7_ n8_ n9_ n10_; (try clear hb); (try clear hkp); (try clear hy0); have hcz168_0 : w167.cell? ⟨gb272, 0, none⟩ = some (.int .i64 t267) := (blk_cell BK272.out 0).trans rfl; have hcz168_1 : w167.cell? ⟨gb272, 1, none⟩ = some (.slice Ao72 t268.length co72) := (blk_cell BK272.out 1).trans rfl; have hfz168_0 := blk_frozen BK272.out 0; have hfz168_1 := blk_frozen BK272.out 1) | ((with_reducible refine gate_callee (f := 26) rfl ?_); refine goesL_ (some 88) rfl rfl Tryd.func26 (by kernel_rfl) rfl #[.agg #[.int .i64 t267, .slice Ao72 t290.length co72], .int .i64 1] rfl (by (try simp only [List.map_toArray, List.map_cons, List.map_nil]); first | done | (rw [show t290.length = t268.length from (Kd.R_reads' HO_273001.out).1.symm] <;> rfl) | rfl | (simp only [List.length_drop, List.length_take]; rfl)) ?_; (with_reducible refine (laws_heldWhole.calls kj107 t267 _ _ t290 1 t291 _ ?side1 ?side2 A159.out).mono ?_); (case side1 => repeat (first | exact (Kd.R_reads' HO_273001.out).2.2 | (with_reducible refine Kd.C_alloc ?_ _) | (with_reducible refine Kd.C_drewN ?_ _) | (with_reducible refine Kd.C_drew ?_))); (case side2 => rw [show t290.length = t268.length from (Kd.R_reads' HO_273001.out).1.symm]; exact (Kd.R_reads' HO_273001.out).2.1); rintro e w169 ⟨rfl, hb⟩; refine ⟨_, rfl, ?_⟩; have n0_ := am_ (Kd.R_below (kr_ HO_257001) hb); have n1_ := am_ (Kd.R_below (kr_ HO_262001) hb); have n2_ := am_ (Kd.R_below (kr_ HO_267001) hb); have n3_ := am_ (Kd.R_below (kr_ HO_273001) hb); have n4_ := am_ (blk_below (bk_ BK239) hb); have n5_ := am_ (blk_below (bk_ BK240) hb); have n6_ := am_ (blk_below (bk_ BK256) hb); have n7_ := am_ (blk_below (bk_ BK261) hb); have n8_ := am_ (blk_below (bk_ BK266) hb); have n9_ := am_ (blk_below (bk_ BK272) hb); have n10_ := am_ (below_step (bl_ HB) hb); clear HO_257001; clear HO_262001; clear HO_267001; clear HO_273001; clear BK239; clear BK240; clear BK256; clear BK261; clear BK266; clear BK272; clear HB; have HO_257001 := n0_; have HO_262001 := n1_; have HO_267001 := n2_; have HO_273001 := n3_; have BK239 := n4_; have BK240 := n5_; have BK256 := n6_; have BK261 := n7_; have BK266 := n8_; have BK272 := n9_; have HB := n10_; clear n0_ n1_ n2_ n3_ n4_ n5_ n6_ n7_ n8_ n9_ n10_; (try clear hb); (try clear hb2); (try clear hk); (try clear hi)))
            go_ret
            exact ⟨by first | rfl | (simp [errW_none, errW_some] <;> rfl) | (simp [*, errW_none, errW_some] <;> rfl), bl_ HB⟩
           ·rw [if_neg c160] at H
            have c160b0 : decide (t291 < 0) = false := decide_eq_false c160
            clear c160
            by_cases c170 : t291 = t289
            ·rw [if_pos c170] at H
             have c170b0 : (t291 == t289) = true := beq_iff_eq.mpr c170
             have c170b1 : (t291 != t289) = false := bne_eq_false_iff_eq.mpr c170
             clear c170
             replace H := Option.bind_eq_some_iff.mp H
             obtain ⟨⟨t292, t293⟩, A1710, H⟩ := H
             replace H : ((laws_toWhole.f kj107 a1_0 l1_1).bind fun bt296 => ((impl_AddWholes.f t292 t293 bt296.1 bt296.2).bind fun bt300 => ((laws_eqWhole.f kj107 bt300.1 bt300.2.1 t251 t252).bind fun t306 => (if t306 = true then (laws_FnExactAddWholes.j2 kj107 t289 (bt300.2.2 != t255) t267 t290) else (laws_FnExactAddWholes.j2 kj107 t289 true t267 t290))))) = some r := H
             have A171 := Aside0.mk A1710; clear A1710
             replace H := Option.bind_eq_some_iff.mp H
             obtain ⟨⟨t296, t297⟩, A1720, H⟩ := H
             replace H : ((impl_AddWholes.f t292 t293 t296 t297).bind fun bt300 => ((laws_eqWhole.f kj107 bt300.1 bt300.2.1 t251 t252).bind fun t306 => (if t306 = true then (laws_FnExactAddWholes.j2 kj107 t289 (bt300.2.2 != t255) t267 t290) else (laws_FnExactAddWholes.j2 kj107 t289 true t267 t290)))) = some r := H
             have A172 := Aside0.mk A1720; clear A1720
             replace H := Option.bind_eq_some_iff.mp H
             obtain ⟨⟨t300, t301, t304⟩, A1730, H⟩ := H
             replace H : ((laws_eqWhole.f kj107 t300 t301 t251 t252).bind fun t306 => (if t306 = true then (laws_FnExactAddWholes.j2 kj107 t289 (t304 != t255) t267 t290) else (laws_FnExactAddWholes.j2 kj107 t289 true t267 t290))) = some r := H
             have A173 := Aside0.mk A1730; clear A1730; have HC174 := Aside0.mk H; clear H; have hnb175 := NB272_239.out; have hnc175 := NB239_272.out; have hnb176 := NB272_240.out; have hnc176 := NB240_272.out; have hnb177 := NB272_256.out; have hnc177 := NB256_272.out; have hnb178 := NB272_261.out; have hnc178 := NB261_272.out; have hnb179 := NB272_266.out; have hnc179 := NB266_272.out
             have hcz180_0 : wc.cell? ⟨gb272, 0, none⟩ = some (.int .i64 t267) := (blk_cell BK272.out 0).trans rfl
             have hcz180_1 : wc.cell? ⟨gb272, 1, none⟩ = some (.slice Ao72 t268.length co72) := (blk_cell BK272.out 1).trans rfl
             have hfz180_0 := blk_frozen BK272.out 0; have hfz180_1 := blk_frozen BK272.out 1
             try go_wp2_with (first | ((with_reducible refine gate_callee (f := 25) rfl ?_); refine goesL_ (some 85) rfl rfl Tryd.func25 (by kernel_rfl) rfl #[.agg #[.int .i64 t267, .slice Ao72 t268.length co72], .int .i64 1] rfl ma_ ?_; (with_reducible refine (laws_markWhole.calls kj107 t267 (fun k_ => some k_ = (.slice Ao72 t268.length co72 : Value).ownBlock) (.slice Ao72 t268.length co72) t268 1 t289 t290 w _ ?side1 ?side2 A158.out).mono ?_); (case side1 => repeat (first | (with_reducible first | exact HB.out | apply below_alloc | apply pw_below_drewN | apply below_drew1 | refine below_set ?_ GE239.out | refine below_set ?_ GE240.out | refine below_set ?_ GE256.out | refine below_set ?_ GE261.out | refine below_set ?_ GE266.out | refine below_set ?_ GE272.out) | exact HB.out)); (case side2 => exact Kd.R_tight rfl HO_273001.out); rintro e w181 ⟨rfl, hy0, hb, hkp⟩; refine ⟨_, rfl, ?_⟩; have n0_ := am_ (Kd.R_mono (ok' := fun k_ => some k_ ≠ (.slice Ao52 t285.length co52 : Value).ownBlock ∧ some k_ ≠ (.slice Ao62 t287.length co62 : Value).ownBlock ∧ some k_ ≠ (.slice Ao72 t268.length co72 : Value).ownBlock) (Kd.R_keptB (HO_257001.out) hkp (fun k_ hk_ hs_ => (hk_.2.2) hs_)) (fun k_ hk_ => ⟨hk_.1.1, hk_.1.2.1, hk_.1.2.2⟩)); have n1_ := am_ (Kd.R_mono (ok' := fun k_ => some k_ ≠ (.slice Ao42 t252.length co42 : Value).ownBlock ∧ some k_ ≠ (.slice Ao62 t287.length co62 : Value).ownBlock ∧ some k_ ≠ (.slice Ao72 t268.length co72 : Value).ownBlock) (Kd.R_keptB (HO_262001.out) hkp (fun k_ hk_ hs_ => (hk_.2.2) hs_)) (fun k_ hk_ => ⟨hk_.1.1, hk_.1.2.1, hk_.1.2.2⟩)); have n2_ := am_ (Kd.R_mono (ok' := fun k_ => some k_ ≠ (.slice Ao42 t252.length co42 : Value).ownBlock ∧ some k_ ≠ (.slice Ao52 t285.length co52 : Value).ownBlock ∧ some k_ ≠ (.slice Ao72 t268.length co72 : Value).ownBlock) (Kd.R_keptB (HO_267001.out) hkp (fun k_ hk_ hs_ => (hk_.2.2) hs_)) (fun k_ hk_ => ⟨hk_.1.1, hk_.1.2.1, hk_.1.2.2⟩)); have n3_ := am_ (Kd.R_reok rfl hy0 (fun k_ e_ => HO_273001.out.1 k_ e_)); have n4_ := am_ (blk_kept (bk_ BK239) hkp (fun hs_ => (fun e_ => (Kd.R_ne HO_273001.out BK239.out (by decide)) e_) hs_)); have n5_ := am_ (blk_kept (bk_ BK240) hkp (fun hs_ => (fun e_ => (Kd.R_ne HO_273001.out BK240.out (by decide)) e_) hs_)); have n6_ := am_ (blk_kept (bk_ BK256) hkp (fun hs_ => (fun e_ => (Kd.R_ne HO_273001.out BK256.out (by decide)) e_) hs_)); have n7_ := am_ (blk_kept (bk_ BK261) hkp (fun hs_ => (fun e_ => (Kd.R_ne HO_273001.out BK261.out (by decide)) e_) hs_)); have n8_ := am_ (blk_kept (bk_ BK266) hkp (fun hs_ => (fun e_ => (Kd.R_ne HO_273001.out BK266.out (by decide)) e_) hs_)); have n9_ := am_ (blk_kept (bk_ BK272) hkp (fun hs_ => (fun e_ => (Kd.R_ne HO_273001.out BK272.out (by decide)) e_) hs_)); have n10_ := am_ (hb); clear HO_257001; clear HO_262001; clear HO_267001; clear HO_273001; clear BK239; clear BK240; clear BK256; clear BK261; clear BK266; clear BK272; clear HB; have HO_257001 := n0_; have HO_262001 := n1_; have HO_267001 := n2_; have HO_273001 := n3_; have BK239 := n4_; have BK240 := n5_; have BK256 := n6_; have BK261 := n7_; have BK266 := n8_; have BK272 := n9_; have HB := n10_; clear n0_ n1_ n2_ n3_ n4_ n5_ n6_ n7_ n8_ n9_ n10_; (try clear hb); (try clear hkp); (try clear hy0); have hcz182_0 : w181.cell? ⟨gb272, 0, none⟩ = some (.int .i64 t267) := (blk_cell BK272.out 0).trans rfl; have hcz182_1 : w181.cell? ⟨gb272, 1, none⟩ = some (.slice Ao72 t268.length co72) := (blk_cell BK272.out 1).trans rfl; have hfz182_0 := blk_frozen BK272.out 0; have hfz182_1 := blk_frozen BK272.out 1) | ((with_reducible refine gate_callee (f := 26) rfl ?_); refine goesL_ (some 88) rfl rfl Tryd.func26 (by kernel_rfl) rfl #[.agg #[.int .i64 t267, .slice Ao72 t290.length co72], .int .i64 1] rfl (by (try simp only [List.map_toArray, List.map_cons, List.map_nil]); first | done | (rw [show t290.length = t268.length from (Kd.R_reads' HO_273001.out).1.symm] <;> rfl) | rfl | (simp only [List.length_drop, List.length_take]; rfl)) ?_; (with_reducible refine (laws_heldWhole.calls kj107 t267 _ _ t290 1 t291 _ ?side1 ?side2 A159.out).mono ?_); (case side1 => repeat (first | exact (Kd.R_reads' HO_273001.out).2.2 | (with_reducible refine Kd.C_alloc ?_ _) | (with_reducible refine Kd.C_drewN ?_ _) | (with_reducible refine Kd.C_drew ?_))); (case side2 => rw [show t290.length = t268.length from (Kd.R_reads' HO_273001.out).1.symm]; exact (Kd.R_reads' HO_273001.out).2.1); rintro e w183 ⟨rfl, hb⟩; refine ⟨_, rfl, ?_⟩; have n0_ := am_ (Kd.R_below (kr_ HO_257001) hb); have n1_ := am_ (Kd.R_below (kr_ HO_262001) hb); have n2_ := am_ (Kd.R_below (kr_ HO_267001) hb); have n3_ := am_ (Kd.R_below (kr_ HO_273001) hb); have n4_ := am_ (blk_below (bk_ BK239) hb); have n5_ := am_ (blk_below (bk_ BK240) hb); have n6_ := am_ (blk_below (bk_ BK256) hb); have n7_ := am_ (blk_below (bk_ BK261) hb); have n8_ := am_ (blk_below (bk_ BK266) hb); have n9_ := am_ (blk_below (bk_ BK272) hb); have n10_ := am_ (below_step (bl_ HB) hb); clear HO_257001; clear HO_262001; clear HO_267001; clear HO_273001; clear BK239; clear BK240; clear BK256; clear BK261; clear BK266; clear BK272; clear HB; have HO_257001 := n0_; have HO_262001 := n1_; have HO_267001 := n2_; have HO_273001 := n3_; have BK239 := n4_; have BK240 := n5_; have BK256 := n6_; have BK261 := n7_; have BK266 := n8_; have BK272 := n9_; have HB := n10_; clear n0_ n1_ n2_ n3_ n4_ n5_ n6_ n7_ n8_ n9_ n10_; (try clear hb); (try clear hb2); (try clear hk); (try clear hi)))
             have n0_ := am_ (Kd.R_drew HO_257001.out); have n1_ := am_ (Kd.R_drew HO_262001.out); have n2_ := am_ (Kd.R_drew HO_267001.out); have n3_ := am_ (Kd.R_drew HO_273001.out); have n4_ := am_ (blk_drew BK239.out); have n5_ := am_ (blk_drew BK240.out); have n6_ := am_ (blk_drew BK256.out); have n7_ := am_ (blk_drew BK261.out); have n8_ := am_ (blk_drew BK266.out); have n9_ := am_ (blk_drew BK272.out); have n10_ := am_ (below_drew1 HB.out); clear HO_257001 HO_262001 HO_267001 HO_273001 BK239 BK240 BK256 BK261 BK266 BK272 HB; have HO_257001 := n0_; have HO_262001 := n1_; have HO_267001 := n2_; have HO_273001 := n3_; have BK239 := n4_; have BK240 := n5_; have BK256 := n6_; have BK261 := n7_; have BK266 := n8_; have BK272 := n9_; have HB := n10_; clear n0_ n1_ n2_ n3_ n4_ n5_ n6_ n7_ n8_ n9_ n10_
             refine start_ (n := 11) (S := fun w' => w'.cell? ⟨gb239, 0, none⟩ = some (.int .i64 a0_0) ∧ w'.cell? ⟨gb239, 1, none⟩ = some (.slice A0_1 l0_1.length c0_1) ∧ w'.cell? ⟨gb240, 0, none⟩ = some (.int .i64 a1_0) ∧ w'.cell? ⟨gb240, 1, none⟩ = some (.slice A1_1 l1_1.length c1_1)) (ds := []) #[false, false, false, false, false, false, false, false, false, false, false] (by kernel_rfl) rfl rfl ⟨(blk_cell BK239.out 0).trans rfl, (blk_cell BK239.out 1).trans rfl, (blk_cell BK240.out 0).trans rfl, (blk_cell BK240.out 1).trans rfl⟩ (fun hHeld => ?_); refine with_tabW laws_FnExactAddWholes.tab31 laws_FnExactAddWholes.bits31 (fun HT_ HW_ => ?_)
             generalize w183.drew = w184 at HO_257001 HO_262001 HO_267001 HO_273001 BK239 BK240 BK256 BK261 BK266 BK272 HB hHeld ⊢
             refine take_ (i := 0) (N := some 95) (v := ?_) (a' := ?_) #[true, false, false, false, false, false, false, false, false, false, false] rfl rfl (take_ofW HT_.out HW_.out (by kernel_rfl)) (fun _ _ _ h => h) (Or.inl ⟨by rfl, ?_⟩) hHeld ?_ ?_
             rotate_left
             ·rintro w' ⟨s0, s1, s2, s3⟩
              go_simp
              with_reducible rfl
             rotate_left
             ·exact nm_
             refine take_ (i := 2) (N := some 97) (v := ?_) (a' := ?_) #[true, false, true, false, false, false, false, false, false, false, false] rfl rfl (take_ofW HT_.out HW_.out (by kernel_rfl)) (fun _ _ _ h => h) (Or.inl ⟨by rfl, ?_⟩) hHeld ?_ ?_
             rotate_left
             ·rintro w' ⟨s0, s1, s2, s3⟩
              go_simp
              with_reducible rfl
             rotate_left
             ·exact nm_
             refine join_ (σ := Value × Value × Value × Nat) 2 #[true, true, true, true, true, true, true, true, true, false, false] (fun s_ => [(96, .agg #[.int .i64 t292, s_.1]), (98, .agg #[.int .i64 t296, s_.2.1]), (99, .tuple #[.agg #[.int .i64 t300, s_.2.2.1], .int .i64 t304]), (15, .pointer (some ⟨s_.2.2.2, 0, none⟩)), (94, .tuple #[.agg #[.int .i64 t300, s_.2.2.1], .int .i64 t304]), (100, .agg #[.int .i64 t300, s_.2.2.1]), (101, .int .i64 t304)]) (fun s_ w' => (w'.cell? ⟨gb239, 0, none⟩ = some (.int .i64 a0_0) ∧ w'.cell? ⟨gb239, 1, none⟩ = some (.slice A0_1 l0_1.length c0_1) ∧ w'.cell? ⟨gb240, 0, none⟩ = some (.int .i64 a1_0) ∧ w'.cell? ⟨gb240, 1, none⟩ = some (.slice A1_1 l1_1.length c1_1)) ∧ (Kd.R (Kd.int .i64) 2 w' w.heap.size (fun k_ => some k_ ≠ (s_.2.1 : Value).ownBlock ∧ some k_ ≠ (s_.2.2.1 : Value).ownBlock ∧ some k_ ≠ (.slice Ao42 t252.length co42 : Value).ownBlock ∧ some k_ ≠ (.slice Ao52 t285.length co52 : Value).ownBlock ∧ some k_ ≠ (.slice Ao62 t287.length co62 : Value).ownBlock ∧ some k_ ≠ (.slice Ao72 t268.length co72 : Value).ownBlock) s_.1 t293) ∧ (Kd.R (Kd.int .i64) 2 w' w.heap.size (fun k_ => some k_ ≠ (s_.1 : Value).ownBlock ∧ some k_ ≠ (s_.2.2.1 : Value).ownBlock ∧ some k_ ≠ (.slice Ao42 t252.length co42 : Value).ownBlock ∧ some k_ ≠ (.slice Ao52 t285.length co52 : Value).ownBlock ∧ some k_ ≠ (.slice Ao62 t287.length co62 : Value).ownBlock ∧ some k_ ≠ (.slice Ao72 t268.length co72 : Value).ownBlock) s_.2.1 t297) ∧ (Kd.R (Kd.int .i64) 2 w' w.heap.size (fun k_ => some k_ ≠ (s_.1 : Value).ownBlock ∧ some k_ ≠ (s_.2.1 : Value).ownBlock ∧ some k_ ≠ (.slice Ao42 t252.length co42 : Value).ownBlock ∧ some k_ ≠ (.slice Ao52 t285.length co52 : Value).ownBlock ∧ some k_ ≠ (.slice Ao62 t287.length co62 : Value).ownBlock ∧ some k_ ≠ (.slice Ao72 t268.length co72 : Value).ownBlock) s_.2.2.1 t301) ∧ (Kd.R (Kd.int .i64) 2 w' w.heap.size (fun k_ => some k_ ≠ (s_.1 : Value).ownBlock ∧ some k_ ≠ (s_.2.1 : Value).ownBlock ∧ some k_ ≠ (s_.2.2.1 : Value).ownBlock ∧ some k_ ≠ (.slice Ao52 t285.length co52 : Value).ownBlock ∧ some k_ ≠ (.slice Ao62 t287.length co62 : Value).ownBlock ∧ some k_ ≠ (.slice Ao72 t268.length co72 : Value).ownBlock) (.slice Ao42 t252.length co42) t252) ∧ (Kd.R (Kd.int .i64) 2 w' w.heap.size (fun k_ => some k_ ≠ (s_.1 : Value).ownBlock ∧ some k_ ≠ (s_.2.1 : Value).ownBlock ∧ some k_ ≠ (s_.2.2.1 : Value).ownBlock ∧ some k_ ≠ (.slice Ao42 t252.length co42 : Value).ownBlock ∧ some k_ ≠ (.slice Ao62 t287.length co62 : Value).ownBlock ∧ some k_ ≠ (.slice Ao72 t268.length co72 : Value).ownBlock) (.slice Ao52 t285.length co52) t285) ∧ (Kd.R (Kd.int .i64) 2 w' w.heap.size (fun k_ => some k_ ≠ (s_.1 : Value).ownBlock ∧ some k_ ≠ (s_.2.1 : Value).ownBlock ∧ some k_ ≠ (s_.2.2.1 : Value).ownBlock ∧ some k_ ≠ (.slice Ao42 t252.length co42 : Value).ownBlock ∧ some k_ ≠ (.slice Ao52 t285.length co52 : Value).ownBlock ∧ some k_ ≠ (.slice Ao72 t268.length co72 : Value).ownBlock) (.slice Ao62 t287.length co62) t287) ∧ (Kd.R (Kd.int .i64) 2 w' w.heap.size (fun k_ => some k_ ≠ (s_.1 : Value).ownBlock ∧ some k_ ≠ (s_.2.1 : Value).ownBlock ∧ some k_ ≠ (s_.2.2.1 : Value).ownBlock ∧ some k_ ≠ (.slice Ao42 t252.length co42 : Value).ownBlock ∧ some k_ ≠ (.slice Ao52 t285.length co52 : Value).ownBlock ∧ some k_ ≠ (.slice Ao62 t287.length co62 : Value).ownBlock) (.slice Ao72 t268.length co72) t290) ∧ (w'.heap[gb239]? = some (.cells #[.int .i64 a0_0, .slice A0_1 l0_1.length c0_1] 24 (0, 0))) ∧ (w'.heap[gb240]? = some (.cells #[.int .i64 a1_0, .slice A1_1 l1_1.length c1_1] 24 (0, 0))) ∧ (w'.heap[gb256]? = some (.cells #[.int .i64 t251, .slice Ao42 t252.length co42] 28 (0, 0))) ∧ (w'.heap[gb261]? = some (.cells #[.int .i64 t257, .slice Ao52 t285.length co52] 28 (0, 0))) ∧ (w'.heap[gb266]? = some (.cells #[.int .i64 t262, .slice Ao62 t287.length co62] 28 (0, 0))) ∧ (w'.heap[gb272]? = some (.cells #[.int .i64 t267, .slice Ao72 t268.length co72] 28 (0, 0))) ∧ (w'.heap[s_.2.2.2]? = some (.cells #[.int .i64 0, .slice none 0 0] 28 (0, 0))) ∧ (w.heap.size ≤ s_.2.2.2) ∧ (w.heap.size ≤ s_.2.2.2) ∧ (gb239 ≠ s_.2.2.2) ∧ (s_.2.2.2 ≠ gb239) ∧ (gb240 ≠ s_.2.2.2) ∧ (s_.2.2.2 ≠ gb240) ∧ (gb256 ≠ s_.2.2.2) ∧ (s_.2.2.2 ≠ gb256) ∧ (gb261 ≠ s_.2.2.2) ∧ (s_.2.2.2 ≠ gb261) ∧ (gb266 ≠ s_.2.2.2) ∧ (s_.2.2.2 ≠ gb266) ∧ (gb272 ≠ s_.2.2.2) ∧ (s_.2.2.2 ≠ gb272) ∧ (Below w.heap.size w w')) ?_ ?_
             rotate_left
             ·intro hCont
              refine two_ (i := 1) (j := 8) (Ni := some 96) (Nj := some 15) #[true, true, true, false, false, false, false, false, false, false, false] #[true, false, true, false, false, false, false, false, true, false, false] rfl rfl rfl rfl (two_of HT_.out (by kernel_rfl)) (by decide) (by decide) (fun K hK => ?_) (fun K hK => ?_)
              ·skip
               refine goes_ Tryd.func20 (by kernel_rfl) rfl #[.agg #[.int .i64 a0_0, .slice A0_1 l0_1.length c0_1]] (by rfl) rfl rfl ma_ ?_
               with_reducible refine (laws_toWhole.calls kj107 a0_0 _ _ l0_1 t292 t293 _ ?side1 ?side2 A171.out).mono ?_
               (case side1 => repeat (first | exact (Kd.C_below HR0_1.out HB.out) | (with_reducible refine Kd.C_alloc ?_ _) | (with_reducible refine Kd.C_drewN ?_ _) | (with_reducible refine Kd.C_drew ?_)))
               (case side2 => exact HC0_1.out)
               rintro e w185 ⟨v294, rfl, ho0, hb⟩
               refine ⟨_, rfl, ?_⟩
               have n0_ := am_ (Kd.R_elder' (kr_ HO_257001) (Kd.R_base ho0) hb); have n1_ := am_ (Kd.R_elder' (kr_ HO_262001) (Kd.R_base ho0) hb); have n2_ := am_ (Kd.R_elder' (kr_ HO_267001) (Kd.R_base ho0) hb); have n3_ := am_ (Kd.R_elder' (kr_ HO_273001) (Kd.R_base ho0) hb); have n4_ := am_ (Kd.R_lower (Kd.R_new' (Kd.R_new' (Kd.R_new' (Kd.R_new' ho0 (Kd.R_lt (kr_ HO_257001))) (Kd.R_lt (kr_ HO_262001))) (Kd.R_lt (kr_ HO_267001))) (Kd.R_lt (kr_ HO_273001))) (below_size (bl_ HB))); have n5_ := am_ (blk_below (bk_ BK239) hb); have n6_ := am_ (blk_below (bk_ BK240) hb); have n7_ := am_ (blk_below (bk_ BK256) hb); have n8_ := am_ (blk_below (bk_ BK261) hb); have n9_ := am_ (blk_below (bk_ BK266) hb); have n10_ := am_ (blk_below (bk_ BK272) hb); have n11_ := am_ (below_step (bl_ HB) hb); clear HO_257001 HO_262001 HO_267001 HO_273001 BK239 BK240 BK256 BK261 BK266 BK272 HB; have HO_257001 := n0_; have HO_262001 := n1_; have HO_267001 := n2_; have HO_273001 := n3_; have HO295 := n4_; have BK239 := n5_; have BK240 := n6_; have BK256 := n7_; have BK261 := n8_; have BK266 := n9_; have BK272 := n10_; have HB := n11_; clear n0_ n1_ n2_ n3_ n4_ n5_ n6_ n7_ n8_ n9_ n10_ n11_; (try clear hb); (try clear hb2); (try clear hk); (try clear hi); (try clear ho0)
               refine hK.out _ _ ⟨(blk_cell BK239.out 0).trans rfl, (blk_cell BK239.out 1).trans rfl, (blk_cell BK240.out 0).trans rfl, (blk_cell BK240.out 1).trans rfl⟩ (fun hHeld => ?_)
               clear hK K
               refine norm_ (a' := ?_) ?_ ?_
               rotate_left
               ·show Act.put _ (some 96) _ = _
                exact nm_
               refine two_ (i := 3) (j := 8) (Ni := some 98) (Nj := some 15) #[true, true, true, true, false, false, false, false, false, false, false] #[true, true, true, false, false, false, false, false, true, false, false] rfl rfl rfl rfl (two_of HT_.out (by kernel_rfl)) (by decide) (by decide) (fun K hK => ?_) (fun K hK => ?_)
               ·skip
                refine goes_ Tryd.func20 (by kernel_rfl) rfl #[.agg #[.int .i64 a1_0, .slice A1_1 l1_1.length c1_1]] (by rfl) rfl rfl ma_ ?_
                with_reducible refine (laws_toWhole.calls kj107 a1_0 _ _ l1_1 t296 t297 _ ?side1 ?side2 A172.out).mono ?_
                (case side1 => repeat (first | exact (Kd.C_below HR1_1.out HB.out) | (with_reducible refine Kd.C_alloc ?_ _) | (with_reducible refine Kd.C_drewN ?_ _) | (with_reducible refine Kd.C_drew ?_)))
                (case side2 => exact HC1_1.out)
                rintro e w186 ⟨v298, rfl, ho0, hb⟩
                refine ⟨_, rfl, ?_⟩
                have n0_ := am_ (Kd.R_elder' (kr_ HO_257001) (Kd.R_base ho0) hb); have n1_ := am_ (Kd.R_elder' (kr_ HO_262001) (Kd.R_base ho0) hb); have n2_ := am_ (Kd.R_elder' (kr_ HO_267001) (Kd.R_base ho0) hb); have n3_ := am_ (Kd.R_elder' (kr_ HO_273001) (Kd.R_base ho0) hb); have n4_ := am_ (Kd.R_elder' (kr_ HO295) (Kd.R_base ho0) hb); have n5_ := am_ (Kd.R_lower (Kd.R_new' (Kd.R_new' (Kd.R_new' (Kd.R_new' (Kd.R_new' ho0 (Kd.R_lt (kr_ HO_257001))) (Kd.R_lt (kr_ HO_262001))) (Kd.R_lt (kr_ HO_267001))) (Kd.R_lt (kr_ HO_273001))) (Kd.R_lt (kr_ HO295))) (below_size (bl_ HB))); have n6_ := am_ (blk_below (bk_ BK239) hb); have n7_ := am_ (blk_below (bk_ BK240) hb); have n8_ := am_ (blk_below (bk_ BK256) hb); have n9_ := am_ (blk_below (bk_ BK261) hb); have n10_ := am_ (blk_below (bk_ BK266) hb); have n11_ := am_ (blk_below (bk_ BK272) hb); have n12_ := am_ (below_step (bl_ HB) hb); clear HO_257001 HO_262001 HO_267001 HO_273001 HO295 BK239 BK240 BK256 BK261 BK266 BK272 HB; have HO_257001 := n0_; have HO_262001 := n1_; have HO_267001 := n2_; have HO_273001 := n3_; have HO295 := n4_; have HO299 := n5_; have BK239 := n6_; have BK240 := n7_; have BK256 := n8_; have BK261 := n9_; have BK266 := n10_; have BK272 := n11_; have HB := n12_; clear n0_ n1_ n2_ n3_ n4_ n5_ n6_ n7_ n8_ n9_ n10_ n11_ n12_; (try clear hb); (try clear hb2); (try clear hk); (try clear hi); (try clear ho0)
                obtain ⟨Ao187, co187, eo187⟩ := Kd.R_slice HO295.out
                (first | subst eo187 | (injection eo187 with f1_ f2_ f3_; have f4_ := f1_.symm; have f5_ := f3_.symm; clear f1_ f2_ f3_; subst f4_; subst f5_))
                obtain ⟨Ao188, co188, eo188⟩ := Kd.R_slice HO299.out
                (first | subst eo188 | (injection eo188 with f1_ f2_ f3_; have f4_ := f1_.symm; have f5_ := f3_.symm; clear f1_ f2_ f3_; subst f4_; subst f5_))
                refine hK.out _ _ ⟨(blk_cell BK239.out 0).trans rfl, (blk_cell BK239.out 1).trans rfl, (blk_cell BK240.out 0).trans rfl, (blk_cell BK240.out 1).trans rfl⟩ (fun hHeld => ?_)
                clear hK K
                refine norm_ (a' := ?_) ?_ ?_
                rotate_left
                ·show Act.put _ (some 98) _ = _
                 exact nm_
                refine two_ (i := 4) (j := 8) (Ni := some 99) (Nj := some 15) #[true, true, true, true, true, false, false, false, false, false, false] #[true, true, true, true, false, false, false, false, true, false, false] rfl rfl rfl rfl (two_of HT_.out (by kernel_rfl)) (by decide) (by decide) (fun K hK => ?_) (fun K hK => ?_)
                ·skip
                 refine goes_ Tryd.func36 (by kernel_rfl) rfl #[.agg #[.int .i64 t292, .slice Ao187 t293.length co187], .agg #[.int .i64 t296, .slice Ao188 t297.length co188]] (by rfl) rfl rfl ma_ ?_
                 with_reducible refine (impl_AddWholes.calls t292 _ _ t293 t296 _ _ t297 t300 t301 t304 _ ?side1 ?side2 ?side3 ?side4 A173.out).mono ?_
                 (case side1 => repeat (first | exact (Kd.R_reads' HO295.out).2.2 | (with_reducible refine Kd.C_alloc ?_ _) | (with_reducible refine Kd.C_drewN ?_ _) | (with_reducible refine Kd.C_drew ?_)))
                 (case side2 => exact (Kd.R_reads' HO295.out).2.1)
                 (case side3 => repeat (first | exact (Kd.R_reads' HO299.out).2.2 | (with_reducible refine Kd.C_alloc ?_ _) | (with_reducible refine Kd.C_drewN ?_ _) | (with_reducible refine Kd.C_drew ?_)))
                 (case side4 => exact (Kd.R_reads' HO299.out).2.1)
                 rintro e w189 ⟨v302, rfl, ho0, hb⟩
                 refine ⟨_, rfl, ?_⟩
                 have n0_ := am_ (Kd.R_elder' (kr_ HO_257001) (Kd.R_base ho0) hb); have n1_ := am_ (Kd.R_elder' (kr_ HO_262001) (Kd.R_base ho0) hb); have n2_ := am_ (Kd.R_elder' (kr_ HO_267001) (Kd.R_base ho0) hb); have n3_ := am_ (Kd.R_elder' (kr_ HO_273001) (Kd.R_base ho0) hb); have n4_ := am_ (Kd.R_elder' (kr_ HO295) (Kd.R_base ho0) hb); have n5_ := am_ (Kd.R_elder' (kr_ HO299) (Kd.R_base ho0) hb); have n6_ := am_ (Kd.R_lower (Kd.R_new' (Kd.R_new' (Kd.R_new' (Kd.R_new' (Kd.R_new' (Kd.R_new' ho0 (Kd.R_lt (kr_ HO_257001))) (Kd.R_lt (kr_ HO_262001))) (Kd.R_lt (kr_ HO_267001))) (Kd.R_lt (kr_ HO_273001))) (Kd.R_lt (kr_ HO295))) (Kd.R_lt (kr_ HO299))) (below_size (bl_ HB))); have n7_ := am_ (blk_below (bk_ BK239) hb); have n8_ := am_ (blk_below (bk_ BK240) hb); have n9_ := am_ (blk_below (bk_ BK256) hb); have n10_ := am_ (blk_below (bk_ BK261) hb); have n11_ := am_ (blk_below (bk_ BK266) hb); have n12_ := am_ (blk_below (bk_ BK272) hb); have n13_ := am_ (below_step (bl_ HB) hb); clear HO_257001 HO_262001 HO_267001 HO_273001 HO295 HO299 BK239 BK240 BK256 BK261 BK266 BK272 HB; have HO_257001 := n0_; have HO_262001 := n1_; have HO_267001 := n2_; have HO_273001 := n3_; have HO295 := n4_; have HO299 := n5_; have HO303 := n6_; have BK239 := n7_; have BK240 := n8_; have BK256 := n9_; have BK261 := n10_; have BK266 := n11_; have BK272 := n12_; have HB := n13_; clear n0_ n1_ n2_ n3_ n4_ n5_ n6_ n7_ n8_ n9_ n10_ n11_ n12_ n13_; (try clear hb); (try clear hb2); (try clear hk); (try clear hi); (try clear ho0)
                 refine hK.out _ _ ⟨(blk_cell BK239.out 0).trans rfl, (blk_cell BK239.out 1).trans rfl, (blk_cell BK240.out 0).trans rfl, (blk_cell BK240.out 1).trans rfl⟩ (fun hHeld => ?_)
                 clear hK K
                 refine norm_ (a' := ?_) ?_ ?_
                 rotate_left
                 ·show Act.put _ (some 99) _ = _
                  exact nm_
                 refine pure_ (i := 5) (N := some 94) (v := ?_) (a' := ?_) #[true, true, true, true, true, true, false, false, false, false, false] rfl rfl (any_of HT_.out (by kernel_rfl)) (fun _ _ _ h => h) (Or.inl ⟨by rfl, ?_⟩) ?_ ?_
                 rotate_left
                 ·intro w'
                  go_simp
                  with_reducible rfl
                 rotate_left
                 ·exact nm_
                 refine pure_ (i := 6) (N := some 100) (v := ?_) (a' := ?_) #[true, true, true, true, true, true, true, false, false, false, false] rfl rfl (any_of HT_.out (by kernel_rfl)) (fun _ _ _ h => h) (Or.inl ⟨by rfl, ?_⟩) ?_ ?_
                 rotate_left
                 ·intro w'
                  go_simp
                  with_reducible rfl
                 rotate_left
                 ·exact nm_
                 refine pure_ (i := 7) (N := some 101) (v := ?_) (a' := ?_) #[true, true, true, true, true, true, true, true, false, false, false] rfl rfl (any_of HT_.out (by kernel_rfl)) (fun _ _ _ h => h) (Or.inl ⟨by rfl, ?_⟩) ?_ ?_
                 rotate_left
                 ·intro w'
                  go_simp
                  with_reducible rfl
                 rotate_left
                 ·exact nm_
                 refine one_ (i := 8) (N := some 15) #[true, true, true, true, true, true, true, true, true, false, false] rfl rfl (one_of HT_.out (by kernel_rfl)) (by decide) (fun K hK => ?_)
                 refine box_step ?hg (N := 15) ?hd (cs := #[.int .i64 0, .slice none 0 0]) (t := 28) ?hr ?_; (case hd => rfl); (case hg => rfl); (case hr => first | (go_simp; done) | (go_simp; rfl))
                 intro gb305 hg w190 hbox hb
                 have n0_ := am_ (Kd.R_below (kr_ HO_257001) hb); have n1_ := am_ (Kd.R_below (kr_ HO_262001) hb); have n2_ := am_ (Kd.R_below (kr_ HO_267001) hb); have n3_ := am_ (Kd.R_below (kr_ HO_273001) hb); have n4_ := am_ (Kd.R_below (kr_ HO295) hb); have n5_ := am_ (Kd.R_below (kr_ HO299) hb); have n6_ := am_ (Kd.R_below (kr_ HO303) hb); have n7_ := am_ (blk_below (bk_ BK239) hb); have n8_ := am_ (blk_below (bk_ BK240) hb); have n9_ := am_ (blk_below (bk_ BK256) hb); have n10_ := am_ (blk_below (bk_ BK261) hb); have n11_ := am_ (blk_below (bk_ BK266) hb); have n12_ := am_ (blk_below (bk_ BK272) hb); have n13_ := am_ (below_step (bl_ HB) hb); have n14_ := am_ (hbox); have n15_ := am_ (gs_ hg HB); have n16_ := am_ (gs_ hg HB); have n17_ := am_ (nl_ hg BK239); have n18_ := am_ (ng_ hg BK239); have n19_ := am_ (nl_ hg BK240); have n20_ := am_ (ng_ hg BK240); have n21_ := am_ (nl_ hg BK256); have n22_ := am_ (ng_ hg BK256); have n23_ := am_ (nl_ hg BK261); have n24_ := am_ (ng_ hg BK261); have n25_ := am_ (nl_ hg BK266); have n26_ := am_ (ng_ hg BK266); have n27_ := am_ (nl_ hg BK272); have n28_ := am_ (ng_ hg BK272); clear HO_257001 HO_262001 HO_267001 HO_273001 HO295 HO299 HO303 BK239 BK240 BK256 BK261 BK266 BK272 HB; have HO_257001 := n0_; have HO_262001 := n1_; have HO_267001 := n2_; have HO_273001 := n3_; have HO295 := n4_; have HO299 := n5_; have HO303 := n6_; have BK239 := n7_; have BK240 := n8_; have BK256 := n9_; have BK261 := n10_; have BK266 := n11_; have BK272 := n12_; have HB := n13_; have BK305 := n14_; have GW305 := n15_; have GE305 := n16_; have NB239_305 := n17_; have NB305_239 := n18_; have NB240_305 := n19_; have NB305_240 := n20_; have NB256_305 := n21_; have NB305_256 := n22_; have NB261_305 := n23_; have NB305_261 := n24_; have NB266_305 := n25_; have NB305_266 := n26_; have NB272_305 := n27_; have NB305_272 := n28_; clear n0_ n1_ n2_ n3_ n4_ n5_ n6_ n7_ n8_ n9_ n10_ n11_ n12_ n13_ n14_ n15_ n16_ n17_ n18_ n19_ n20_ n21_ n22_ n23_ n24_ n25_ n26_ n27_ n28_ hb hbox hg
                 refine hK.out _ _ ⟨(blk_cell BK239.out 0).trans rfl, (blk_cell BK239.out 1).trans rfl, (blk_cell BK240.out 0).trans rfl, (blk_cell BK240.out 1).trans rfl⟩ (fun hHeld => ?_)
                 clear hK K
                 refine norm_ (a' := ?_) ?_ ?_
                 rotate_left
                 ·show Act.put _ (some 15) _ = _
                  exact nm_
                 exact norm_ (by simp only [putAll, Act.put, List.setIfInBounds_toArray, List.set_cons_zero, List.set_cons_succ]) (hCont (.slice Ao187 t293.length co187, .slice Ao188 t297.length co188, v302, gb305) _ ⟨hHeld, (km_ HO295 (fun _ hk => ⟨hk.1.2, ⟨hk.2, ⟨hk.1.1.1.1.1.2, ⟨hk.1.1.1.1.2, ⟨hk.1.1.1.2, hk.1.1.2⟩⟩⟩⟩⟩)), (km_ HO299 (fun _ hk => ⟨hk.1.2, ⟨hk.2, ⟨hk.1.1.1.1.1.2, ⟨hk.1.1.1.1.2, ⟨hk.1.1.1.2, hk.1.1.2⟩⟩⟩⟩⟩)), (km_ HO303 (fun _ hk => ⟨hk.1.2, ⟨hk.2, ⟨hk.1.1.1.1.1.2, ⟨hk.1.1.1.1.2, ⟨hk.1.1.1.2, hk.1.1.2⟩⟩⟩⟩⟩)), (km_ HO_257001 (fun _ hk => ⟨hk.1.1.2, ⟨hk.1.2, ⟨hk.2, ⟨hk.1.1.1.1, ⟨hk.1.1.1.2.1, hk.1.1.1.2.2⟩⟩⟩⟩⟩)), (km_ HO_262001 (fun _ hk => ⟨hk.1.1.2, ⟨hk.1.2, ⟨hk.2, ⟨hk.1.1.1.1, ⟨hk.1.1.1.2.1, hk.1.1.1.2.2⟩⟩⟩⟩⟩)), (km_ HO_267001 (fun _ hk => ⟨hk.1.1.2, ⟨hk.1.2, ⟨hk.2, ⟨hk.1.1.1.1, ⟨hk.1.1.1.2.1, hk.1.1.1.2.2⟩⟩⟩⟩⟩)), (km_ HO_273001 (fun _ hk => ⟨hk.1.1.2, ⟨hk.1.2, ⟨hk.2, ⟨hk.1.1.1.1, ⟨hk.1.1.1.2.1, hk.1.1.1.2.2⟩⟩⟩⟩⟩)), (bk_ BK239), (bk_ BK240), (bk_ BK256), (bk_ BK261), (bk_ BK266), (bk_ BK272), (bk_ BK305), GW305.out, GE305.out, NB239_305.out, NB305_239.out, NB240_305.out, NB305_240.out, NB256_305.out, NB305_256.out, NB261_305.out, NB305_261.out, NB266_305.out, NB305_266.out, NB272_305.out, NB305_272.out, (bl_ HB)⟩)
                ·skip
                 refine box_step ?hg (N := 15) ?hd (cs := #[.int .i64 0, .slice none 0 0]) (t := 28) ?hr ?_; (case hd => rfl); (case hg => rfl); (case hr => first | (go_simp; done) | (go_simp; rfl))
                 intro gb305 hg w187 hbox hb
                 have n0_ := am_ (Kd.R_below (kr_ HO_257001) hb); have n1_ := am_ (Kd.R_below (kr_ HO_262001) hb); have n2_ := am_ (Kd.R_below (kr_ HO_267001) hb); have n3_ := am_ (Kd.R_below (kr_ HO_273001) hb); have n4_ := am_ (Kd.R_below (kr_ HO295) hb); have n5_ := am_ (Kd.R_below (kr_ HO299) hb); have n6_ := am_ (blk_below (bk_ BK239) hb); have n7_ := am_ (blk_below (bk_ BK240) hb); have n8_ := am_ (blk_below (bk_ BK256) hb); have n9_ := am_ (blk_below (bk_ BK261) hb); have n10_ := am_ (blk_below (bk_ BK266) hb); have n11_ := am_ (blk_below (bk_ BK272) hb); have n12_ := am_ (below_step (bl_ HB) hb); have n13_ := am_ (hbox); have n14_ := am_ (gs_ hg HB); have n15_ := am_ (gs_ hg HB); have n16_ := am_ (nl_ hg BK239); have n17_ := am_ (ng_ hg BK239); have n18_ := am_ (nl_ hg BK240); have n19_ := am_ (ng_ hg BK240); have n20_ := am_ (nl_ hg BK256); have n21_ := am_ (ng_ hg BK256); have n22_ := am_ (nl_ hg BK261); have n23_ := am_ (ng_ hg BK261); have n24_ := am_ (nl_ hg BK266); have n25_ := am_ (ng_ hg BK266); have n26_ := am_ (nl_ hg BK272); have n27_ := am_ (ng_ hg BK272); clear HO_257001 HO_262001 HO_267001 HO_273001 HO295 HO299 BK239 BK240 BK256 BK261 BK266 BK272 HB; have HO_257001 := n0_; have HO_262001 := n1_; have HO_267001 := n2_; have HO_273001 := n3_; have HO295 := n4_; have HO299 := n5_; have BK239 := n6_; have BK240 := n7_; have BK256 := n8_; have BK261 := n9_; have BK266 := n10_; have BK272 := n11_; have HB := n12_; have BK305 := n13_; have GW305 := n14_; have GE305 := n15_; have NB239_305 := n16_; have NB305_239 := n17_; have NB240_305 := n18_; have NB305_240 := n19_; have NB256_305 := n20_; have NB305_256 := n21_; have NB261_305 := n22_; have NB305_261 := n23_; have NB266_305 := n24_; have NB305_266 := n25_; have NB272_305 := n26_; have NB305_272 := n27_; clear n0_ n1_ n2_ n3_ n4_ n5_ n6_ n7_ n8_ n9_ n10_ n11_ n12_ n13_ n14_ n15_ n16_ n17_ n18_ n19_ n20_ n21_ n22_ n23_ n24_ n25_ n26_ n27_ hb hbox hg
                 obtain ⟨Ao188, co188, eo188⟩ := Kd.R_slice HO295.out
                 (first | subst eo188 | (injection eo188 with f1_ f2_ f3_; have f4_ := f1_.symm; have f5_ := f3_.symm; clear f1_ f2_ f3_; subst f4_; subst f5_))
                 obtain ⟨Ao189, co189, eo189⟩ := Kd.R_slice HO299.out
                 (first | subst eo189 | (injection eo189 with f1_ f2_ f3_; have f4_ := f1_.symm; have f5_ := f3_.symm; clear f1_ f2_ f3_; subst f4_; subst f5_))
                 refine hK.out _ _ ⟨(blk_cell BK239.out 0).trans rfl, (blk_cell BK239.out 1).trans rfl, (blk_cell BK240.out 0).trans rfl, (blk_cell BK240.out 1).trans rfl⟩ (fun hHeld => ?_)
                 clear hK K
                 refine norm_ (a' := ?_) ?_ ?_
                 rotate_left
                 ·show Act.put _ (some 15) _ = _
                  exact nm_
                 refine one_ (i := 4) (N := some 99) #[true, true, true, true, true, false, false, false, true, false, false] rfl rfl (one_of HT_.out (by kernel_rfl)) (by decide) (fun K hK => ?_)
                 refine goes_ Tryd.func36 (by kernel_rfl) rfl #[.agg #[.int .i64 t292, .slice Ao188 t293.length co188], .agg #[.int .i64 t296, .slice Ao189 t297.length co189]] (by rfl) rfl rfl ma_ ?_
                 with_reducible refine (impl_AddWholes.calls t292 _ _ t293 t296 _ _ t297 t300 t301 t304 _ ?side1 ?side2 ?side3 ?side4 A173.out).mono ?_
                 (case side1 => repeat (first | exact (Kd.R_reads' HO295.out).2.2 | (with_reducible refine Kd.C_alloc ?_ _) | (with_reducible refine Kd.C_drewN ?_ _) | (with_reducible refine Kd.C_drew ?_)))
                 (case side2 => exact (Kd.R_reads' HO295.out).2.1)
                 (case side3 => repeat (first | exact (Kd.R_reads' HO299.out).2.2 | (with_reducible refine Kd.C_alloc ?_ _) | (with_reducible refine Kd.C_drewN ?_ _) | (with_reducible refine Kd.C_drew ?_)))
                 (case side4 => exact (Kd.R_reads' HO299.out).2.1)
                 rintro e w190 ⟨v302, rfl, ho0, hb⟩
                 refine ⟨_, rfl, ?_⟩
                 have n0_ := am_ (Kd.R_elder' (kr_ HO_257001) (Kd.R_base ho0) hb); have n1_ := am_ (Kd.R_elder' (kr_ HO_262001) (Kd.R_base ho0) hb); have n2_ := am_ (Kd.R_elder' (kr_ HO_267001) (Kd.R_base ho0) hb); have n3_ := am_ (Kd.R_elder' (kr_ HO_273001) (Kd.R_base ho0) hb); have n4_ := am_ (Kd.R_elder' (kr_ HO295) (Kd.R_base ho0) hb); have n5_ := am_ (Kd.R_elder' (kr_ HO299) (Kd.R_base ho0) hb); have n6_ := am_ (Kd.R_lower (Kd.R_new' (Kd.R_new' (Kd.R_new' (Kd.R_new' (Kd.R_new' (Kd.R_new' ho0 (Kd.R_lt (kr_ HO_257001))) (Kd.R_lt (kr_ HO_262001))) (Kd.R_lt (kr_ HO_267001))) (Kd.R_lt (kr_ HO_273001))) (Kd.R_lt (kr_ HO295))) (Kd.R_lt (kr_ HO299))) (below_size (bl_ HB))); have n7_ := am_ (blk_below (bk_ BK239) hb); have n8_ := am_ (blk_below (bk_ BK240) hb); have n9_ := am_ (blk_below (bk_ BK256) hb); have n10_ := am_ (blk_below (bk_ BK261) hb); have n11_ := am_ (blk_below (bk_ BK266) hb); have n12_ := am_ (blk_below (bk_ BK272) hb); have n13_ := am_ (blk_below (bk_ BK305) hb); have n14_ := am_ (below_step (bl_ HB) hb); clear HO_257001 HO_262001 HO_267001 HO_273001 HO295 HO299 BK239 BK240 BK256 BK261 BK266 BK272 BK305 HB; have HO_257001 := n0_; have HO_262001 := n1_; have HO_267001 := n2_; have HO_273001 := n3_; have HO295 := n4_; have HO299 := n5_; have HO303 := n6_; have BK239 := n7_; have BK240 := n8_; have BK256 := n9_; have BK261 := n10_; have BK266 := n11_; have BK272 := n12_; have BK305 := n13_; have HB := n14_; clear n0_ n1_ n2_ n3_ n4_ n5_ n6_ n7_ n8_ n9_ n10_ n11_ n12_ n13_ n14_; (try clear hb); (try clear hb2); (try clear hk); (try clear hi); (try clear ho0)
                 refine hK.out _ _ ⟨(blk_cell BK239.out 0).trans rfl, (blk_cell BK239.out 1).trans rfl, (blk_cell BK240.out 0).trans rfl, (blk_cell BK240.out 1).trans rfl⟩ (fun hHeld => ?_)
                 clear hK K
                 refine norm_ (a' := ?_) ?_ ?_
                 rotate_left
                 ·show Act.put _ (some 99) _ = _
                  exact nm_
                 refine pure_ (i := 5) (N := some 94) (v := ?_) (a' := ?_) #[true, true, true, true, true, true, false, false, true, false, false] rfl rfl (any_of HT_.out (by kernel_rfl)) (fun _ _ _ h => h) (Or.inl ⟨by rfl, ?_⟩) ?_ ?_
                 rotate_left
                 ·intro w'
                  go_simp
                  with_reducible rfl
                 rotate_left
                 ·exact nm_
                 refine pure_ (i := 6) (N := some 100) (v := ?_) (a' := ?_) #[true, true, true, true, true, true, true, false, true, false, false] rfl rfl (any_of HT_.out (by kernel_rfl)) (fun _ _ _ h => h) (Or.inl ⟨by rfl, ?_⟩) ?_ ?_
                 rotate_left
                 ·intro w'
                  go_simp
                  with_reducible rfl
                 rotate_left
                 ·exact nm_
                 refine pure_ (i := 7) (N := some 101) (v := ?_) (a' := ?_) #[true, true, true, true, true, true, true, true, true, false, false] rfl rfl (any_of HT_.out (by kernel_rfl)) (fun _ _ _ h => h) (Or.inl ⟨by rfl, ?_⟩) ?_ ?_
                 rotate_left
                 ·intro w'
                  go_simp
                  with_reducible rfl
                 rotate_left
                 ·exact nm_
                 exact norm_ (by simp only [putAll, Act.put, List.setIfInBounds_toArray, List.set_cons_zero, List.set_cons_succ]) (hCont (.slice Ao188 t293.length co188, .slice Ao189 t297.length co189, v302, gb305) _ ⟨hHeld, (km_ HO295 (fun _ hk => ⟨hk.1.2, ⟨hk.2, ⟨hk.1.1.1.1.1.2, ⟨hk.1.1.1.1.2, ⟨hk.1.1.1.2, hk.1.1.2⟩⟩⟩⟩⟩)), (km_ HO299 (fun _ hk => ⟨hk.1.2, ⟨hk.2, ⟨hk.1.1.1.1.1.2, ⟨hk.1.1.1.1.2, ⟨hk.1.1.1.2, hk.1.1.2⟩⟩⟩⟩⟩)), (km_ HO303 (fun _ hk => ⟨hk.1.2, ⟨hk.2, ⟨hk.1.1.1.1.1.2, ⟨hk.1.1.1.1.2, ⟨hk.1.1.1.2, hk.1.1.2⟩⟩⟩⟩⟩)), (km_ HO_257001 (fun _ hk => ⟨hk.1.1.2, ⟨hk.1.2, ⟨hk.2, ⟨hk.1.1.1.1, ⟨hk.1.1.1.2.1, hk.1.1.1.2.2⟩⟩⟩⟩⟩)), (km_ HO_262001 (fun _ hk => ⟨hk.1.1.2, ⟨hk.1.2, ⟨hk.2, ⟨hk.1.1.1.1, ⟨hk.1.1.1.2.1, hk.1.1.1.2.2⟩⟩⟩⟩⟩)), (km_ HO_267001 (fun _ hk => ⟨hk.1.1.2, ⟨hk.1.2, ⟨hk.2, ⟨hk.1.1.1.1, ⟨hk.1.1.1.2.1, hk.1.1.1.2.2⟩⟩⟩⟩⟩)), (km_ HO_273001 (fun _ hk => ⟨hk.1.1.2, ⟨hk.1.2, ⟨hk.2, ⟨hk.1.1.1.1, ⟨hk.1.1.1.2.1, hk.1.1.1.2.2⟩⟩⟩⟩⟩)), (bk_ BK239), (bk_ BK240), (bk_ BK256), (bk_ BK261), (bk_ BK266), (bk_ BK272), (bk_ BK305), GW305.out, GE305.out, NB239_305.out, NB305_239.out, NB240_305.out, NB305_240.out, NB256_305.out, NB305_256.out, NB261_305.out, NB305_261.out, NB266_305.out, NB305_266.out, NB272_305.out, NB305_272.out, (bl_ HB)⟩)
               ·skip
                refine box_step ?hg (N := 15) ?hd (cs := #[.int .i64 0, .slice none 0 0]) (t := 28) ?hr ?_; (case hd => rfl); (case hg => rfl); (case hr => first | (go_simp; done) | (go_simp; rfl))
                intro gb305 hg w186 hbox hb
                have n0_ := am_ (Kd.R_below (kr_ HO_257001) hb); have n1_ := am_ (Kd.R_below (kr_ HO_262001) hb); have n2_ := am_ (Kd.R_below (kr_ HO_267001) hb); have n3_ := am_ (Kd.R_below (kr_ HO_273001) hb); have n4_ := am_ (Kd.R_below (kr_ HO295) hb); have n5_ := am_ (blk_below (bk_ BK239) hb); have n6_ := am_ (blk_below (bk_ BK240) hb); have n7_ := am_ (blk_below (bk_ BK256) hb); have n8_ := am_ (blk_below (bk_ BK261) hb); have n9_ := am_ (blk_below (bk_ BK266) hb); have n10_ := am_ (blk_below (bk_ BK272) hb); have n11_ := am_ (below_step (bl_ HB) hb); have n12_ := am_ (hbox); have n13_ := am_ (gs_ hg HB); have n14_ := am_ (gs_ hg HB); have n15_ := am_ (nl_ hg BK239); have n16_ := am_ (ng_ hg BK239); have n17_ := am_ (nl_ hg BK240); have n18_ := am_ (ng_ hg BK240); have n19_ := am_ (nl_ hg BK256); have n20_ := am_ (ng_ hg BK256); have n21_ := am_ (nl_ hg BK261); have n22_ := am_ (ng_ hg BK261); have n23_ := am_ (nl_ hg BK266); have n24_ := am_ (ng_ hg BK266); have n25_ := am_ (nl_ hg BK272); have n26_ := am_ (ng_ hg BK272); clear HO_257001 HO_262001 HO_267001 HO_273001 HO295 BK239 BK240 BK256 BK261 BK266 BK272 HB; have HO_257001 := n0_; have HO_262001 := n1_; have HO_267001 := n2_; have HO_273001 := n3_; have HO295 := n4_; have BK239 := n5_; have BK240 := n6_; have BK256 := n7_; have BK261 := n8_; have BK266 := n9_; have BK272 := n10_; have HB := n11_; have BK305 := n12_; have GW305 := n13_; have GE305 := n14_; have NB239_305 := n15_; have NB305_239 := n16_; have NB240_305 := n17_; have NB305_240 := n18_; have NB256_305 := n19_; have NB305_256 := n20_; have NB261_305 := n21_; have NB305_261 := n22_; have NB266_305 := n23_; have NB305_266 := n24_; have NB272_305 := n25_; have NB305_272 := n26_; clear n0_ n1_ n2_ n3_ n4_ n5_ n6_ n7_ n8_ n9_ n10_ n11_ n12_ n13_ n14_ n15_ n16_ n17_ n18_ n19_ n20_ n21_ n22_ n23_ n24_ n25_ n26_ hb hbox hg
                refine hK.out _ _ ⟨(blk_cell BK239.out 0).trans rfl, (blk_cell BK239.out 1).trans rfl, (blk_cell BK240.out 0).trans rfl, (blk_cell BK240.out 1).trans rfl⟩ (fun hHeld => ?_)
                clear hK K
                refine norm_ (a' := ?_) ?_ ?_
                rotate_left
                ·show Act.put _ (some 15) _ = _
                 exact nm_
                refine one_ (i := 3) (N := some 98) #[true, true, true, true, false, false, false, false, true, false, false] rfl rfl (one_of HT_.out (by kernel_rfl)) (by decide) (fun K hK => ?_)
                refine goes_ Tryd.func20 (by kernel_rfl) rfl #[.agg #[.int .i64 a1_0, .slice A1_1 l1_1.length c1_1]] (by rfl) rfl rfl ma_ ?_
                with_reducible refine (laws_toWhole.calls kj107 a1_0 _ _ l1_1 t296 t297 _ ?side1 ?side2 A172.out).mono ?_
                (case side1 => repeat (first | exact (Kd.C_below HR1_1.out HB.out) | (with_reducible refine Kd.C_alloc ?_ _) | (with_reducible refine Kd.C_drewN ?_ _) | (with_reducible refine Kd.C_drew ?_)))
                (case side2 => exact HC1_1.out)
                rintro e w187 ⟨v298, rfl, ho0, hb⟩
                refine ⟨_, rfl, ?_⟩
                have n0_ := am_ (Kd.R_elder' (kr_ HO_257001) (Kd.R_base ho0) hb); have n1_ := am_ (Kd.R_elder' (kr_ HO_262001) (Kd.R_base ho0) hb); have n2_ := am_ (Kd.R_elder' (kr_ HO_267001) (Kd.R_base ho0) hb); have n3_ := am_ (Kd.R_elder' (kr_ HO_273001) (Kd.R_base ho0) hb); have n4_ := am_ (Kd.R_elder' (kr_ HO295) (Kd.R_base ho0) hb); have n5_ := am_ (Kd.R_lower (Kd.R_new' (Kd.R_new' (Kd.R_new' (Kd.R_new' (Kd.R_new' ho0 (Kd.R_lt (kr_ HO_257001))) (Kd.R_lt (kr_ HO_262001))) (Kd.R_lt (kr_ HO_267001))) (Kd.R_lt (kr_ HO_273001))) (Kd.R_lt (kr_ HO295))) (below_size (bl_ HB))); have n6_ := am_ (blk_below (bk_ BK239) hb); have n7_ := am_ (blk_below (bk_ BK240) hb); have n8_ := am_ (blk_below (bk_ BK256) hb); have n9_ := am_ (blk_below (bk_ BK261) hb); have n10_ := am_ (blk_below (bk_ BK266) hb); have n11_ := am_ (blk_below (bk_ BK272) hb); have n12_ := am_ (blk_below (bk_ BK305) hb); have n13_ := am_ (below_step (bl_ HB) hb); clear HO_257001 HO_262001 HO_267001 HO_273001 HO295 BK239 BK240 BK256 BK261 BK266 BK272 BK305 HB; have HO_257001 := n0_; have HO_262001 := n1_; have HO_267001 := n2_; have HO_273001 := n3_; have HO295 := n4_; have HO299 := n5_; have BK239 := n6_; have BK240 := n7_; have BK256 := n8_; have BK261 := n9_; have BK266 := n10_; have BK272 := n11_; have BK305 := n12_; have HB := n13_; clear n0_ n1_ n2_ n3_ n4_ n5_ n6_ n7_ n8_ n9_ n10_ n11_ n12_ n13_; (try clear hb); (try clear hb2); (try clear hk); (try clear hi); (try clear ho0)
                obtain ⟨Ao188, co188, eo188⟩ := Kd.R_slice HO295.out
                (first | subst eo188 | (injection eo188 with f1_ f2_ f3_; have f4_ := f1_.symm; have f5_ := f3_.symm; clear f1_ f2_ f3_; subst f4_; subst f5_))
                obtain ⟨Ao189, co189, eo189⟩ := Kd.R_slice HO299.out
                (first | subst eo189 | (injection eo189 with f1_ f2_ f3_; have f4_ := f1_.symm; have f5_ := f3_.symm; clear f1_ f2_ f3_; subst f4_; subst f5_))
                refine hK.out _ _ ⟨(blk_cell BK239.out 0).trans rfl, (blk_cell BK239.out 1).trans rfl, (blk_cell BK240.out 0).trans rfl, (blk_cell BK240.out 1).trans rfl⟩ (fun hHeld => ?_)
                clear hK K
                refine norm_ (a' := ?_) ?_ ?_
                rotate_left
                ·show Act.put _ (some 98) _ = _
                 exact nm_
                refine one_ (i := 4) (N := some 99) #[true, true, true, true, true, false, false, false, true, false, false] rfl rfl (one_of HT_.out (by kernel_rfl)) (by decide) (fun K hK => ?_)
                refine goes_ Tryd.func36 (by kernel_rfl) rfl #[.agg #[.int .i64 t292, .slice Ao188 t293.length co188], .agg #[.int .i64 t296, .slice Ao189 t297.length co189]] (by rfl) rfl rfl ma_ ?_
                with_reducible refine (impl_AddWholes.calls t292 _ _ t293 t296 _ _ t297 t300 t301 t304 _ ?side1 ?side2 ?side3 ?side4 A173.out).mono ?_
                (case side1 => repeat (first | exact (Kd.R_reads' HO295.out).2.2 | (with_reducible refine Kd.C_alloc ?_ _) | (with_reducible refine Kd.C_drewN ?_ _) | (with_reducible refine Kd.C_drew ?_)))
                (case side2 => exact (Kd.R_reads' HO295.out).2.1)
                (case side3 => repeat (first | exact (Kd.R_reads' HO299.out).2.2 | (with_reducible refine Kd.C_alloc ?_ _) | (with_reducible refine Kd.C_drewN ?_ _) | (with_reducible refine Kd.C_drew ?_)))
                (case side4 => exact (Kd.R_reads' HO299.out).2.1)
                rintro e w190 ⟨v302, rfl, ho0, hb⟩
                refine ⟨_, rfl, ?_⟩
                have n0_ := am_ (Kd.R_elder' (kr_ HO_257001) (Kd.R_base ho0) hb); have n1_ := am_ (Kd.R_elder' (kr_ HO_262001) (Kd.R_base ho0) hb); have n2_ := am_ (Kd.R_elder' (kr_ HO_267001) (Kd.R_base ho0) hb); have n3_ := am_ (Kd.R_elder' (kr_ HO_273001) (Kd.R_base ho0) hb); have n4_ := am_ (Kd.R_elder' (kr_ HO295) (Kd.R_base ho0) hb); have n5_ := am_ (Kd.R_elder' (kr_ HO299) (Kd.R_base ho0) hb); have n6_ := am_ (Kd.R_lower (Kd.R_new' (Kd.R_new' (Kd.R_new' (Kd.R_new' (Kd.R_new' (Kd.R_new' ho0 (Kd.R_lt (kr_ HO_257001))) (Kd.R_lt (kr_ HO_262001))) (Kd.R_lt (kr_ HO_267001))) (Kd.R_lt (kr_ HO_273001))) (Kd.R_lt (kr_ HO295))) (Kd.R_lt (kr_ HO299))) (below_size (bl_ HB))); have n7_ := am_ (blk_below (bk_ BK239) hb); have n8_ := am_ (blk_below (bk_ BK240) hb); have n9_ := am_ (blk_below (bk_ BK256) hb); have n10_ := am_ (blk_below (bk_ BK261) hb); have n11_ := am_ (blk_below (bk_ BK266) hb); have n12_ := am_ (blk_below (bk_ BK272) hb); have n13_ := am_ (blk_below (bk_ BK305) hb); have n14_ := am_ (below_step (bl_ HB) hb); clear HO_257001 HO_262001 HO_267001 HO_273001 HO295 HO299 BK239 BK240 BK256 BK261 BK266 BK272 BK305 HB; have HO_257001 := n0_; have HO_262001 := n1_; have HO_267001 := n2_; have HO_273001 := n3_; have HO295 := n4_; have HO299 := n5_; have HO303 := n6_; have BK239 := n7_; have BK240 := n8_; have BK256 := n9_; have BK261 := n10_; have BK266 := n11_; have BK272 := n12_; have BK305 := n13_; have HB := n14_; clear n0_ n1_ n2_ n3_ n4_ n5_ n6_ n7_ n8_ n9_ n10_ n11_ n12_ n13_ n14_; (try clear hb); (try clear hb2); (try clear hk); (try clear hi); (try clear ho0)
                refine hK.out _ _ ⟨(blk_cell BK239.out 0).trans rfl, (blk_cell BK239.out 1).trans rfl, (blk_cell BK240.out 0).trans rfl, (blk_cell BK240.out 1).trans rfl⟩ (fun hHeld => ?_)
                clear hK K
                refine norm_ (a' := ?_) ?_ ?_
                rotate_left
                ·show Act.put _ (some 99) _ = _
                 exact nm_
                refine pure_ (i := 5) (N := some 94) (v := ?_) (a' := ?_) #[true, true, true, true, true, true, false, false, true, false, false] rfl rfl (any_of HT_.out (by kernel_rfl)) (fun _ _ _ h => h) (Or.inl ⟨by rfl, ?_⟩) ?_ ?_
                rotate_left
                ·intro w'
                 go_simp
                 with_reducible rfl
                rotate_left
                ·exact nm_
                refine pure_ (i := 6) (N := some 100) (v := ?_) (a' := ?_) #[true, true, true, true, true, true, true, false, true, false, false] rfl rfl (any_of HT_.out (by kernel_rfl)) (fun _ _ _ h => h) (Or.inl ⟨by rfl, ?_⟩) ?_ ?_
                rotate_left
                ·intro w'
                 go_simp
                 with_reducible rfl
                rotate_left
                ·exact nm_
                refine pure_ (i := 7) (N := some 101) (v := ?_) (a' := ?_) #[true, true, true, true, true, true, true, true, true, false, false] rfl rfl (any_of HT_.out (by kernel_rfl)) (fun _ _ _ h => h) (Or.inl ⟨by rfl, ?_⟩) ?_ ?_
                rotate_left
                ·intro w'
                 go_simp
                 with_reducible rfl
                rotate_left
                ·exact nm_
                exact norm_ (by simp only [putAll, Act.put, List.setIfInBounds_toArray, List.set_cons_zero, List.set_cons_succ]) (hCont (.slice Ao188 t293.length co188, .slice Ao189 t297.length co189, v302, gb305) _ ⟨hHeld, (km_ HO295 (fun _ hk => ⟨hk.1.2, ⟨hk.2, ⟨hk.1.1.1.1.1.2, ⟨hk.1.1.1.1.2, ⟨hk.1.1.1.2, hk.1.1.2⟩⟩⟩⟩⟩)), (km_ HO299 (fun _ hk => ⟨hk.1.2, ⟨hk.2, ⟨hk.1.1.1.1.1.2, ⟨hk.1.1.1.1.2, ⟨hk.1.1.1.2, hk.1.1.2⟩⟩⟩⟩⟩)), (km_ HO303 (fun _ hk => ⟨hk.1.2, ⟨hk.2, ⟨hk.1.1.1.1.1.2, ⟨hk.1.1.1.1.2, ⟨hk.1.1.1.2, hk.1.1.2⟩⟩⟩⟩⟩)), (km_ HO_257001 (fun _ hk => ⟨hk.1.1.2, ⟨hk.1.2, ⟨hk.2, ⟨hk.1.1.1.1, ⟨hk.1.1.1.2.1, hk.1.1.1.2.2⟩⟩⟩⟩⟩)), (km_ HO_262001 (fun _ hk => ⟨hk.1.1.2, ⟨hk.1.2, ⟨hk.2, ⟨hk.1.1.1.1, ⟨hk.1.1.1.2.1, hk.1.1.1.2.2⟩⟩⟩⟩⟩)), (km_ HO_267001 (fun _ hk => ⟨hk.1.1.2, ⟨hk.1.2, ⟨hk.2, ⟨hk.1.1.1.1, ⟨hk.1.1.1.2.1, hk.1.1.1.2.2⟩⟩⟩⟩⟩)), (km_ HO_273001 (fun _ hk => ⟨hk.1.1.2, ⟨hk.1.2, ⟨hk.2, ⟨hk.1.1.1.1, ⟨hk.1.1.1.2.1, hk.1.1.1.2.2⟩⟩⟩⟩⟩)), (bk_ BK239), (bk_ BK240), (bk_ BK256), (bk_ BK261), (bk_ BK266), (bk_ BK272), (bk_ BK305), GW305.out, GE305.out, NB239_305.out, NB305_239.out, NB240_305.out, NB305_240.out, NB256_305.out, NB305_256.out, NB261_305.out, NB305_261.out, NB266_305.out, NB305_266.out, NB272_305.out, NB305_272.out, (bl_ HB)⟩)
              ·skip
               refine box_step ?hg (N := 15) ?hd (cs := #[.int .i64 0, .slice none 0 0]) (t := 28) ?hr ?_; (case hd => rfl); (case hg => rfl); (case hr => first | (go_simp; done) | (go_simp; rfl))
               intro gb305 hg w185 hbox hb
               have n0_ := am_ (Kd.R_below (kr_ HO_257001) hb); have n1_ := am_ (Kd.R_below (kr_ HO_262001) hb); have n2_ := am_ (Kd.R_below (kr_ HO_267001) hb); have n3_ := am_ (Kd.R_below (kr_ HO_273001) hb); have n4_ := am_ (blk_below (bk_ BK239) hb); have n5_ := am_ (blk_below (bk_ BK240) hb); have n6_ := am_ (blk_below (bk_ BK256) hb); have n7_ := am_ (blk_below (bk_ BK261) hb); have n8_ := am_ (blk_below (bk_ BK266) hb); have n9_ := am_ (blk_below (bk_ BK272) hb); have n10_ := am_ (below_step (bl_ HB) hb); have n11_ := am_ (hbox); have n12_ := am_ (gs_ hg HB); have n13_ := am_ (gs_ hg HB); have n14_ := am_ (nl_ hg BK239); have n15_ := am_ (ng_ hg BK239); have n16_ := am_ (nl_ hg BK240); have n17_ := am_ (ng_ hg BK240); have n18_ := am_ (nl_ hg BK256); have n19_ := am_ (ng_ hg BK256); have n20_ := am_ (nl_ hg BK261); have n21_ := am_ (ng_ hg BK261); have n22_ := am_ (nl_ hg BK266); have n23_ := am_ (ng_ hg BK266); have n24_ := am_ (nl_ hg BK272); have n25_ := am_ (ng_ hg BK272); clear HO_257001 HO_262001 HO_267001 HO_273001 BK239 BK240 BK256 BK261 BK266 BK272 HB; have HO_257001 := n0_; have HO_262001 := n1_; have HO_267001 := n2_; have HO_273001 := n3_; have BK239 := n4_; have BK240 := n5_; have BK256 := n6_; have BK261 := n7_; have BK266 := n8_; have BK272 := n9_; have HB := n10_; have BK305 := n11_; have GW305 := n12_; have GE305 := n13_; have NB239_305 := n14_; have NB305_239 := n15_; have NB240_305 := n16_; have NB305_240 := n17_; have NB256_305 := n18_; have NB305_256 := n19_; have NB261_305 := n20_; have NB305_261 := n21_; have NB266_305 := n22_; have NB305_266 := n23_; have NB272_305 := n24_; have NB305_272 := n25_; clear n0_ n1_ n2_ n3_ n4_ n5_ n6_ n7_ n8_ n9_ n10_ n11_ n12_ n13_ n14_ n15_ n16_ n17_ n18_ n19_ n20_ n21_ n22_ n23_ n24_ n25_ hb hbox hg
               refine hK.out _ _ ⟨(blk_cell BK239.out 0).trans rfl, (blk_cell BK239.out 1).trans rfl, (blk_cell BK240.out 0).trans rfl, (blk_cell BK240.out 1).trans rfl⟩ (fun hHeld => ?_)
               clear hK K
               refine norm_ (a' := ?_) ?_ ?_
               rotate_left
               ·show Act.put _ (some 15) _ = _
                exact nm_
               refine one_ (i := 1) (N := some 96) #[true, true, true, false, false, false, false, false, true, false, false] rfl rfl (one_of HT_.out (by kernel_rfl)) (by decide) (fun K hK => ?_)
               refine goes_ Tryd.func20 (by kernel_rfl) rfl #[.agg #[.int .i64 a0_0, .slice A0_1 l0_1.length c0_1]] (by rfl) rfl rfl ma_ ?_
               with_reducible refine (laws_toWhole.calls kj107 a0_0 _ _ l0_1 t292 t293 _ ?side1 ?side2 A171.out).mono ?_
               (case side1 => repeat (first | exact (Kd.C_below HR0_1.out HB.out) | (with_reducible refine Kd.C_alloc ?_ _) | (with_reducible refine Kd.C_drewN ?_ _) | (with_reducible refine Kd.C_drew ?_)))
               (case side2 => exact HC0_1.out)
               rintro e w186 ⟨v294, rfl, ho0, hb⟩
               refine ⟨_, rfl, ?_⟩
               have n0_ := am_ (Kd.R_elder' (kr_ HO_257001) (Kd.R_base ho0) hb); have n1_ := am_ (Kd.R_elder' (kr_ HO_262001) (Kd.R_base ho0) hb); have n2_ := am_ (Kd.R_elder' (kr_ HO_267001) (Kd.R_base ho0) hb); have n3_ := am_ (Kd.R_elder' (kr_ HO_273001) (Kd.R_base ho0) hb); have n4_ := am_ (Kd.R_lower (Kd.R_new' (Kd.R_new' (Kd.R_new' (Kd.R_new' ho0 (Kd.R_lt (kr_ HO_257001))) (Kd.R_lt (kr_ HO_262001))) (Kd.R_lt (kr_ HO_267001))) (Kd.R_lt (kr_ HO_273001))) (below_size (bl_ HB))); have n5_ := am_ (blk_below (bk_ BK239) hb); have n6_ := am_ (blk_below (bk_ BK240) hb); have n7_ := am_ (blk_below (bk_ BK256) hb); have n8_ := am_ (blk_below (bk_ BK261) hb); have n9_ := am_ (blk_below (bk_ BK266) hb); have n10_ := am_ (blk_below (bk_ BK272) hb); have n11_ := am_ (blk_below (bk_ BK305) hb); have n12_ := am_ (below_step (bl_ HB) hb); clear HO_257001 HO_262001 HO_267001 HO_273001 BK239 BK240 BK256 BK261 BK266 BK272 BK305 HB; have HO_257001 := n0_; have HO_262001 := n1_; have HO_267001 := n2_; have HO_273001 := n3_; have HO295 := n4_; have BK239 := n5_; have BK240 := n6_; have BK256 := n7_; have BK261 := n8_; have BK266 := n9_; have BK272 := n10_; have BK305 := n11_; have HB := n12_; clear n0_ n1_ n2_ n3_ n4_ n5_ n6_ n7_ n8_ n9_ n10_ n11_ n12_; (try clear hb); (try clear hb2); (try clear hk); (try clear hi); (try clear ho0)
               refine hK.out _ _ ⟨(blk_cell BK239.out 0).trans rfl, (blk_cell BK239.out 1).trans rfl, (blk_cell BK240.out 0).trans rfl, (blk_cell BK240.out 1).trans rfl⟩ (fun hHeld => ?_)
               clear hK K
               refine norm_ (a' := ?_) ?_ ?_
               rotate_left
               ·show Act.put _ (some 96) _ = _
                exact nm_
               refine one_ (i := 3) (N := some 98) #[true, true, true, true, false, false, false, false, true, false, false] rfl rfl (one_of HT_.out (by kernel_rfl)) (by decide) (fun K hK => ?_)
               refine goes_ Tryd.func20 (by kernel_rfl) rfl #[.agg #[.int .i64 a1_0, .slice A1_1 l1_1.length c1_1]] (by rfl) rfl rfl ma_ ?_
               with_reducible refine (laws_toWhole.calls kj107 a1_0 _ _ l1_1 t296 t297 _ ?side1 ?side2 A172.out).mono ?_
               (case side1 => repeat (first | exact (Kd.C_below HR1_1.out HB.out) | (with_reducible refine Kd.C_alloc ?_ _) | (with_reducible refine Kd.C_drewN ?_ _) | (with_reducible refine Kd.C_drew ?_)))
               (case side2 => exact HC1_1.out)
               rintro e w187 ⟨v298, rfl, ho0, hb⟩
               refine ⟨_, rfl, ?_⟩
               have n0_ := am_ (Kd.R_elder' (kr_ HO_257001) (Kd.R_base ho0) hb); have n1_ := am_ (Kd.R_elder' (kr_ HO_262001) (Kd.R_base ho0) hb); have n2_ := am_ (Kd.R_elder' (kr_ HO_267001) (Kd.R_base ho0) hb); have n3_ := am_ (Kd.R_elder' (kr_ HO_273001) (Kd.R_base ho0) hb); have n4_ := am_ (Kd.R_elder' (kr_ HO295) (Kd.R_base ho0) hb); have n5_ := am_ (Kd.R_lower (Kd.R_new' (Kd.R_new' (Kd.R_new' (Kd.R_new' (Kd.R_new' ho0 (Kd.R_lt (kr_ HO_257001))) (Kd.R_lt (kr_ HO_262001))) (Kd.R_lt (kr_ HO_267001))) (Kd.R_lt (kr_ HO_273001))) (Kd.R_lt (kr_ HO295))) (below_size (bl_ HB))); have n6_ := am_ (blk_below (bk_ BK239) hb); have n7_ := am_ (blk_below (bk_ BK240) hb); have n8_ := am_ (blk_below (bk_ BK256) hb); have n9_ := am_ (blk_below (bk_ BK261) hb); have n10_ := am_ (blk_below (bk_ BK266) hb); have n11_ := am_ (blk_below (bk_ BK272) hb); have n12_ := am_ (blk_below (bk_ BK305) hb); have n13_ := am_ (below_step (bl_ HB) hb); clear HO_257001 HO_262001 HO_267001 HO_273001 HO295 BK239 BK240 BK256 BK261 BK266 BK272 BK305 HB; have HO_257001 := n0_; have HO_262001 := n1_; have HO_267001 := n2_; have HO_273001 := n3_; have HO295 := n4_; have HO299 := n5_; have BK239 := n6_; have BK240 := n7_; have BK256 := n8_; have BK261 := n9_; have BK266 := n10_; have BK272 := n11_; have BK305 := n12_; have HB := n13_; clear n0_ n1_ n2_ n3_ n4_ n5_ n6_ n7_ n8_ n9_ n10_ n11_ n12_ n13_; (try clear hb); (try clear hb2); (try clear hk); (try clear hi); (try clear ho0)
               obtain ⟨Ao188, co188, eo188⟩ := Kd.R_slice HO295.out
               (first | subst eo188 | (injection eo188 with f1_ f2_ f3_; have f4_ := f1_.symm; have f5_ := f3_.symm; clear f1_ f2_ f3_; subst f4_; subst f5_))
               obtain ⟨Ao189, co189, eo189⟩ := Kd.R_slice HO299.out
               (first | subst eo189 | (injection eo189 with f1_ f2_ f3_; have f4_ := f1_.symm; have f5_ := f3_.symm; clear f1_ f2_ f3_; subst f4_; subst f5_))
               refine hK.out _ _ ⟨(blk_cell BK239.out 0).trans rfl, (blk_cell BK239.out 1).trans rfl, (blk_cell BK240.out 0).trans rfl, (blk_cell BK240.out 1).trans rfl⟩ (fun hHeld => ?_)
               clear hK K
               refine norm_ (a' := ?_) ?_ ?_
               rotate_left
               ·show Act.put _ (some 98) _ = _
                exact nm_
               refine one_ (i := 4) (N := some 99) #[true, true, true, true, true, false, false, false, true, false, false] rfl rfl (one_of HT_.out (by kernel_rfl)) (by decide) (fun K hK => ?_)
               refine goes_ Tryd.func36 (by kernel_rfl) rfl #[.agg #[.int .i64 t292, .slice Ao188 t293.length co188], .agg #[.int .i64 t296, .slice Ao189 t297.length co189]] (by rfl) rfl rfl ma_ ?_
               with_reducible refine (impl_AddWholes.calls t292 _ _ t293 t296 _ _ t297 t300 t301 t304 _ ?side1 ?side2 ?side3 ?side4 A173.out).mono ?_
               (case side1 => repeat (first | exact (Kd.R_reads' HO295.out).2.2 | (with_reducible refine Kd.C_alloc ?_ _) | (with_reducible refine Kd.C_drewN ?_ _) | (with_reducible refine Kd.C_drew ?_)))
               (case side2 => exact (Kd.R_reads' HO295.out).2.1)
               (case side3 => repeat (first | exact (Kd.R_reads' HO299.out).2.2 | (with_reducible refine Kd.C_alloc ?_ _) | (with_reducible refine Kd.C_drewN ?_ _) | (with_reducible refine Kd.C_drew ?_)))
               (case side4 => exact (Kd.R_reads' HO299.out).2.1)
               rintro e w190 ⟨v302, rfl, ho0, hb⟩
               refine ⟨_, rfl, ?_⟩
               have n0_ := am_ (Kd.R_elder' (kr_ HO_257001) (Kd.R_base ho0) hb); have n1_ := am_ (Kd.R_elder' (kr_ HO_262001) (Kd.R_base ho0) hb); have n2_ := am_ (Kd.R_elder' (kr_ HO_267001) (Kd.R_base ho0) hb); have n3_ := am_ (Kd.R_elder' (kr_ HO_273001) (Kd.R_base ho0) hb); have n4_ := am_ (Kd.R_elder' (kr_ HO295) (Kd.R_base ho0) hb); have n5_ := am_ (Kd.R_elder' (kr_ HO299) (Kd.R_base ho0) hb); have n6_ := am_ (Kd.R_lower (Kd.R_new' (Kd.R_new' (Kd.R_new' (Kd.R_new' (Kd.R_new' (Kd.R_new' ho0 (Kd.R_lt (kr_ HO_257001))) (Kd.R_lt (kr_ HO_262001))) (Kd.R_lt (kr_ HO_267001))) (Kd.R_lt (kr_ HO_273001))) (Kd.R_lt (kr_ HO295))) (Kd.R_lt (kr_ HO299))) (below_size (bl_ HB))); have n7_ := am_ (blk_below (bk_ BK239) hb); have n8_ := am_ (blk_below (bk_ BK240) hb); have n9_ := am_ (blk_below (bk_ BK256) hb); have n10_ := am_ (blk_below (bk_ BK261) hb); have n11_ := am_ (blk_below (bk_ BK266) hb); have n12_ := am_ (blk_below (bk_ BK272) hb); have n13_ := am_ (blk_below (bk_ BK305) hb); have n14_ := am_ (below_step (bl_ HB) hb); clear HO_257001 HO_262001 HO_267001 HO_273001 HO295 HO299 BK239 BK240 BK256 BK261 BK266 BK272 BK305 HB; have HO_257001 := n0_; have HO_262001 := n1_; have HO_267001 := n2_; have HO_273001 := n3_; have HO295 := n4_; have HO299 := n5_; have HO303 := n6_; have BK239 := n7_; have BK240 := n8_; have BK256 := n9_; have BK261 := n10_; have BK266 := n11_; have BK272 := n12_; have BK305 := n13_; have HB := n14_; clear n0_ n1_ n2_ n3_ n4_ n5_ n6_ n7_ n8_ n9_ n10_ n11_ n12_ n13_ n14_; (try clear hb); (try clear hb2); (try clear hk); (try clear hi); (try clear ho0)
               refine hK.out _ _ ⟨(blk_cell BK239.out 0).trans rfl, (blk_cell BK239.out 1).trans rfl, (blk_cell BK240.out 0).trans rfl, (blk_cell BK240.out 1).trans rfl⟩ (fun hHeld => ?_)
               clear hK K
               refine norm_ (a' := ?_) ?_ ?_
               rotate_left
               ·show Act.put _ (some 99) _ = _
                exact nm_
               refine pure_ (i := 5) (N := some 94) (v := ?_) (a' := ?_) #[true, true, true, true, true, true, false, false, true, false, false] rfl rfl (any_of HT_.out (by kernel_rfl)) (fun _ _ _ h => h) (Or.inl ⟨by rfl, ?_⟩) ?_ ?_
               rotate_left
               ·intro w'
                go_simp
                with_reducible rfl
               rotate_left
               ·exact nm_
               refine pure_ (i := 6) (N := some 100) (v := ?_) (a' := ?_) #[true, true, true, true, true, true, true, false, true, false, false] rfl rfl (any_of HT_.out (by kernel_rfl)) (fun _ _ _ h => h) (Or.inl ⟨by rfl, ?_⟩) ?_ ?_
               rotate_left
               ·intro w'
                go_simp
                with_reducible rfl
               rotate_left
               ·exact nm_
               refine pure_ (i := 7) (N := some 101) (v := ?_) (a' := ?_) #[true, true, true, true, true, true, true, true, true, false, false] rfl rfl (any_of HT_.out (by kernel_rfl)) (fun _ _ _ h => h) (Or.inl ⟨by rfl, ?_⟩) ?_ ?_
               rotate_left
               ·intro w'
                go_simp
                with_reducible rfl
               rotate_left
               ·exact nm_
               exact norm_ (by simp only [putAll, Act.put, List.setIfInBounds_toArray, List.set_cons_zero, List.set_cons_succ]) (hCont (.slice Ao188 t293.length co188, .slice Ao189 t297.length co189, v302, gb305) _ ⟨hHeld, (km_ HO295 (fun _ hk => ⟨hk.1.2, ⟨hk.2, ⟨hk.1.1.1.1.1.2, ⟨hk.1.1.1.1.2, ⟨hk.1.1.1.2, hk.1.1.2⟩⟩⟩⟩⟩)), (km_ HO299 (fun _ hk => ⟨hk.1.2, ⟨hk.2, ⟨hk.1.1.1.1.1.2, ⟨hk.1.1.1.1.2, ⟨hk.1.1.1.2, hk.1.1.2⟩⟩⟩⟩⟩)), (km_ HO303 (fun _ hk => ⟨hk.1.2, ⟨hk.2, ⟨hk.1.1.1.1.1.2, ⟨hk.1.1.1.1.2, ⟨hk.1.1.1.2, hk.1.1.2⟩⟩⟩⟩⟩)), (km_ HO_257001 (fun _ hk => ⟨hk.1.1.2, ⟨hk.1.2, ⟨hk.2, ⟨hk.1.1.1.1, ⟨hk.1.1.1.2.1, hk.1.1.1.2.2⟩⟩⟩⟩⟩)), (km_ HO_262001 (fun _ hk => ⟨hk.1.1.2, ⟨hk.1.2, ⟨hk.2, ⟨hk.1.1.1.1, ⟨hk.1.1.1.2.1, hk.1.1.1.2.2⟩⟩⟩⟩⟩)), (km_ HO_267001 (fun _ hk => ⟨hk.1.1.2, ⟨hk.1.2, ⟨hk.2, ⟨hk.1.1.1.1, ⟨hk.1.1.1.2.1, hk.1.1.1.2.2⟩⟩⟩⟩⟩)), (km_ HO_273001 (fun _ hk => ⟨hk.1.1.2, ⟨hk.1.2, ⟨hk.2, ⟨hk.1.1.1.1, ⟨hk.1.1.1.2.1, hk.1.1.1.2.2⟩⟩⟩⟩⟩)), (bk_ BK239), (bk_ BK240), (bk_ BK256), (bk_ BK261), (bk_ BK266), (bk_ BK272), (bk_ BK305), GW305.out, GE305.out, NB239_305.out, NB305_239.out, NB240_305.out, NB305_240.out, NB256_305.out, NB305_256.out, NB261_305.out, NB305_261.out, NB266_305.out, NB305_266.out, NB272_305.out, NB305_272.out, (bl_ HB)⟩)
             rintro ⟨v294, v298, v302, gb305⟩ w191 ⟨hS_, h0_, h1_, h2_, h3_, h4_, h5_, h6_, h7_, h8_, h9_, h10_, h11_, h12_, h13_, h14_, h15_, h16_, h17_, h18_, h19_, h20_, h21_, h22_, h23_, h24_, h25_, h26_, h27_, h28_⟩
             have n0_ : Aside0 (Kd.R (Kd.int .i64) 2 w191 w.heap.size (fun k_ => some k_ ≠ (v298 : Value).ownBlock ∧ some k_ ≠ (v302 : Value).ownBlock ∧ some k_ ≠ (.slice Ao42 t252.length co42 : Value).ownBlock ∧ some k_ ≠ (.slice Ao52 t285.length co52 : Value).ownBlock ∧ some k_ ≠ (.slice Ao62 t287.length co62 : Value).ownBlock ∧ some k_ ≠ (.slice Ao72 t268.length co72 : Value).ownBlock) v294 t293) := ⟨h0_⟩
             have n1_ : Aside0 (Kd.R (Kd.int .i64) 2 w191 w.heap.size (fun k_ => some k_ ≠ (v294 : Value).ownBlock ∧ some k_ ≠ (v302 : Value).ownBlock ∧ some k_ ≠ (.slice Ao42 t252.length co42 : Value).ownBlock ∧ some k_ ≠ (.slice Ao52 t285.length co52 : Value).ownBlock ∧ some k_ ≠ (.slice Ao62 t287.length co62 : Value).ownBlock ∧ some k_ ≠ (.slice Ao72 t268.length co72 : Value).ownBlock) v298 t297) := ⟨h1_⟩
             have n2_ : Aside0 (Kd.R (Kd.int .i64) 2 w191 w.heap.size (fun k_ => some k_ ≠ (v294 : Value).ownBlock ∧ some k_ ≠ (v298 : Value).ownBlock ∧ some k_ ≠ (.slice Ao42 t252.length co42 : Value).ownBlock ∧ some k_ ≠ (.slice Ao52 t285.length co52 : Value).ownBlock ∧ some k_ ≠ (.slice Ao62 t287.length co62 : Value).ownBlock ∧ some k_ ≠ (.slice Ao72 t268.length co72 : Value).ownBlock) v302 t301) := ⟨h2_⟩
             have n3_ : Aside0 (Kd.R (Kd.int .i64) 2 w191 w.heap.size (fun k_ => some k_ ≠ (v294 : Value).ownBlock ∧ some k_ ≠ (v298 : Value).ownBlock ∧ some k_ ≠ (v302 : Value).ownBlock ∧ some k_ ≠ (.slice Ao52 t285.length co52 : Value).ownBlock ∧ some k_ ≠ (.slice Ao62 t287.length co62 : Value).ownBlock ∧ some k_ ≠ (.slice Ao72 t268.length co72 : Value).ownBlock) (.slice Ao42 t252.length co42) t252) := ⟨h3_⟩
             have n4_ : Aside0 (Kd.R (Kd.int .i64) 2 w191 w.heap.size (fun k_ => some k_ ≠ (v294 : Value).ownBlock ∧ some k_ ≠ (v298 : Value).ownBlock ∧ some k_ ≠ (v302 : Value).ownBlock ∧ some k_ ≠ (.slice Ao42 t252.length co42 : Value).ownBlock ∧ some k_ ≠ (.slice Ao62 t287.length co62 : Value).ownBlock ∧ some k_ ≠ (.slice Ao72 t268.length co72 : Value).ownBlock) (.slice Ao52 t285.length co52) t285) := ⟨h4_⟩
             have n5_ : Aside0 (Kd.R (Kd.int .i64) 2 w191 w.heap.size (fun k_ => some k_ ≠ (v294 : Value).ownBlock ∧ some k_ ≠ (v298 : Value).ownBlock ∧ some k_ ≠ (v302 : Value).ownBlock ∧ some k_ ≠ (.slice Ao42 t252.length co42 : Value).ownBlock ∧ some k_ ≠ (.slice Ao52 t285.length co52 : Value).ownBlock ∧ some k_ ≠ (.slice Ao72 t268.length co72 : Value).ownBlock) (.slice Ao62 t287.length co62) t287) := ⟨h5_⟩
             have n6_ : Aside0 (Kd.R (Kd.int .i64) 2 w191 w.heap.size (fun k_ => some k_ ≠ (v294 : Value).ownBlock ∧ some k_ ≠ (v298 : Value).ownBlock ∧ some k_ ≠ (v302 : Value).ownBlock ∧ some k_ ≠ (.slice Ao42 t252.length co42 : Value).ownBlock ∧ some k_ ≠ (.slice Ao52 t285.length co52 : Value).ownBlock ∧ some k_ ≠ (.slice Ao62 t287.length co62 : Value).ownBlock) (.slice Ao72 t268.length co72) t290) := ⟨h6_⟩
             have n7_ : Aside0 (w191.heap[gb239]? = some (.cells #[.int .i64 a0_0, .slice A0_1 l0_1.length c0_1] 24 (0, 0))) := ⟨h7_⟩
             have n8_ : Aside0 (w191.heap[gb240]? = some (.cells #[.int .i64 a1_0, .slice A1_1 l1_1.length c1_1] 24 (0, 0))) := ⟨h8_⟩
             have n9_ : Aside0 (w191.heap[gb256]? = some (.cells #[.int .i64 t251, .slice Ao42 t252.length co42] 28 (0, 0))) := ⟨h9_⟩
             have n10_ : Aside0 (w191.heap[gb261]? = some (.cells #[.int .i64 t257, .slice Ao52 t285.length co52] 28 (0, 0))) := ⟨h10_⟩
             have n11_ : Aside0 (w191.heap[gb266]? = some (.cells #[.int .i64 t262, .slice Ao62 t287.length co62] 28 (0, 0))) := ⟨h11_⟩
             have n12_ : Aside0 (w191.heap[gb272]? = some (.cells #[.int .i64 t267, .slice Ao72 t268.length co72] 28 (0, 0))) := ⟨h12_⟩
             have n13_ : Aside0 (w191.heap[gb305]? = some (.cells #[.int .i64 0, .slice none 0 0] 28 (0, 0))) := ⟨h13_⟩
             have n14_ : Aside0 (w.heap.size ≤ gb305) := ⟨h14_⟩
             have n15_ : Aside0 (w.heap.size ≤ gb305) := ⟨h15_⟩
             have n16_ : Aside0 (gb239 ≠ gb305) := ⟨h16_⟩
             have n17_ : Aside0 (gb305 ≠ gb239) := ⟨h17_⟩
             have n18_ : Aside0 (gb240 ≠ gb305) := ⟨h18_⟩
             have n19_ : Aside0 (gb305 ≠ gb240) := ⟨h19_⟩
             have n20_ : Aside0 (gb256 ≠ gb305) := ⟨h20_⟩
             have n21_ : Aside0 (gb305 ≠ gb256) := ⟨h21_⟩
             have n22_ : Aside0 (gb261 ≠ gb305) := ⟨h22_⟩
             have n23_ : Aside0 (gb305 ≠ gb261) := ⟨h23_⟩
             have n24_ : Aside0 (gb266 ≠ gb305) := ⟨h24_⟩
             have n25_ : Aside0 (gb305 ≠ gb266) := ⟨h25_⟩
             have n26_ : Aside0 (gb272 ≠ gb305) := ⟨h26_⟩
             have n27_ : Aside0 (gb305 ≠ gb272) := ⟨h27_⟩
             have n28_ : Aside0 (Below w.heap.size w w191) := ⟨h28_⟩
             clear HO_257001 HO_262001 HO_267001 HO_273001 BK239 BK240 BK256 BK261 BK266 BK272 HB h0_ h1_ h2_ h3_ h4_ h5_ h6_ h7_ h8_ h9_ h10_ h11_ h12_ h13_ h14_ h15_ h16_ h17_ h18_ h19_ h20_ h21_ h22_ h23_ h24_ h25_ h26_ h27_ h28_; have HO295 := n0_; have HO299 := n1_; have HO303 := n2_; have HO_257001 := n3_; have HO_262001 := n4_; have HO_267001 := n5_; have HO_273001 := n6_; have BK239 := n7_; have BK240 := n8_; have BK256 := n9_; have BK261 := n10_; have BK266 := n11_; have BK272 := n12_; have BK305 := n13_; have GW305 := n14_; have GE305 := n15_; have NB239_305 := n16_; have NB305_239 := n17_; have NB240_305 := n18_; have NB305_240 := n19_; have NB256_305 := n20_; have NB305_256 := n21_; have NB261_305 := n22_; have NB305_261 := n23_; have NB266_305 := n24_; have NB305_266 := n25_; have NB272_305 := n26_; have NB305_272 := n27_; have HB := n28_; clear n0_ n1_ n2_ n3_ n4_ n5_ n6_ n7_ n8_ n9_ n10_ n11_ n12_ n13_ n14_ n15_ n16_ n17_ n18_ n19_ n20_ n21_ n22_ n23_ n24_ n25_ n26_ n27_ n28_
             have hHeld : w191.cell? ⟨gb239, 0, none⟩ = some (.int .i64 a0_0) ∧ w191.cell? ⟨gb239, 1, none⟩ = some (.slice A0_1 l0_1.length c0_1) ∧ w191.cell? ⟨gb240, 0, none⟩ = some (.int .i64 a1_0) ∧ w191.cell? ⟨gb240, 1, none⟩ = some (.slice A1_1 l1_1.length c1_1) := hS_
             obtain ⟨Ao193, co193, eo193⟩ := Kd.R_slice HO303.out
             (first | subst eo193 | (injection eo193 with f1_ f2_ f3_; have f4_ := f1_.symm; have f5_ := f3_.symm; clear f1_ f2_ f3_; subst f4_; subst f5_))
             refine norm_ (a' := ?_) ?_ ?_
             rotate_left
             ·simp only [putAll, Act.put, List.setIfInBounds_toArray, List.set_cons_zero, List.set_cons_succ]
              rfl
             refine one_ (i := 9) (N := none) #[true, true, true, true, true, true, true, true, true, true, false] rfl rfl (one_of HT_.out (by kernel_rfl)) (by decide) (fun K hK => ?_)
             have hs192 : w191.cell? ⟨gb305, 0, none⟩ = some (.int .i64 0) := (blk_cell BK305.out 0).trans rfl
             have hfs192 := blk_frozen BK305.out 0; have hns192_0 := NB239_305.out; have hns192_1 := NB240_305.out; have hns192_2 := NB256_305.out; have hns192_3 := NB261_305.out; have hns192_4 := NB266_305.out; have hns192_5 := NB272_305.out; have hms192_0 := NB305_239.out; have hms192_1 := NB305_240.out; have hms192_2 := NB305_256.out; have hms192_3 := NB305_261.out; have hms192_4 := NB305_266.out; have hms192_5 := NB305_272.out
             have hs194 : w191.cell? ⟨gb305, 1, none⟩ = some (.slice none 0 0) := (blk_cell BK305.out 1).trans rfl
             have hfs194 := blk_frozen BK305.out 1; have hns194_0 := NB239_305.out; have hns194_1 := NB240_305.out; have hns194_2 := NB256_305.out; have hns194_3 := NB261_305.out; have hns194_4 := NB266_305.out; have hns194_5 := NB272_305.out; have hms194_0 := NB305_239.out; have hms194_1 := NB305_240.out; have hms194_2 := NB305_256.out; have hms194_3 := NB305_261.out; have hms194_4 := NB305_266.out; have hms194_5 := NB305_272.out
             refine skip_ (w1 := ?_) (by rfl) rfl ?_ ?_
             rotate_left
             ·go_simp
              rfl
             refine hK.out _ _ ⟨((cell_far (p := ⟨gb305, _, none⟩) NB239_305.out _).trans (((cell_far (p := ⟨gb305, _, none⟩) NB239_305.out _).trans (hHeld.1)))), ((cell_far (p := ⟨gb305, _, none⟩) NB239_305.out _).trans (((cell_far (p := ⟨gb305, _, none⟩) NB239_305.out _).trans (hHeld.2.1)))), ((cell_far (p := ⟨gb305, _, none⟩) NB240_305.out _).trans (((cell_far (p := ⟨gb305, _, none⟩) NB240_305.out _).trans (hHeld.2.2.1)))), ((cell_far (p := ⟨gb305, _, none⟩) NB240_305.out _).trans (((cell_far (p := ⟨gb305, _, none⟩) NB240_305.out _).trans (hHeld.2.2.2))))⟩ (fun hHeld => ?_)
             clear hK K
             refine pure_ (i := 10) (N := some 16) (v := ?_) (a' := ?_) #[true, true, true, true, true, true, true, true, true, true, true] rfl rfl (any_of HT_.out (by kernel_rfl)) (fun _ _ _ h => h) (Or.inl ⟨by rfl, ?_⟩) ?_ ?_
             rotate_left
             ·intro w'
              go_simp
              with_reducible rfl
             rotate_left
             ·exact nm_
             refine done_ (done_of HT_.out (by kernel_rfl)) ?_
             go_upto_region 32 with (fail)
             go_cut [110] (fun v110 wc => ∃ (kq : Nat) (x110_173 : Bool), v110 = .bool x110_173 ∧ Aside0 (laws_FnExactAddWholes.j2 kq t289 x110_173 t267 t290 = some r) ∧ Aside0 (kq ≤ kj107) ∧ Aside0 (Kd.R (Kd.int .i64) 2 wc w.heap.size (fun k_ => some k_ ≠ ((.slice Ao52 t285.length co52) : Value).ownBlock ∧ some k_ ≠ ((.slice Ao62 t287.length co62) : Value).ownBlock ∧ some k_ ≠ ((.slice Ao72 t268.length co72) : Value).ownBlock ∧ some k_ ≠ ((.slice Ao193 t301.length co193) : Value).ownBlock) (.slice Ao42 t252.length co42) t252) ∧ Aside0 (Kd.R (Kd.int .i64) 2 wc w.heap.size (fun k_ => some k_ ≠ ((.slice Ao42 t252.length co42) : Value).ownBlock ∧ some k_ ≠ ((.slice Ao62 t287.length co62) : Value).ownBlock ∧ some k_ ≠ ((.slice Ao72 t268.length co72) : Value).ownBlock ∧ some k_ ≠ ((.slice Ao193 t301.length co193) : Value).ownBlock) (.slice Ao52 t285.length co52) t285) ∧ Aside0 (Kd.R (Kd.int .i64) 2 wc w.heap.size (fun k_ => some k_ ≠ ((.slice Ao42 t252.length co42) : Value).ownBlock ∧ some k_ ≠ ((.slice Ao52 t285.length co52) : Value).ownBlock ∧ some k_ ≠ ((.slice Ao72 t268.length co72) : Value).ownBlock ∧ some k_ ≠ ((.slice Ao193 t301.length co193) : Value).ownBlock) (.slice Ao62 t287.length co62) t287) ∧ Aside0 (Kd.R (Kd.int .i64) 2 wc w.heap.size (fun k_ => some k_ ≠ ((.slice Ao42 t252.length co42) : Value).ownBlock ∧ some k_ ≠ ((.slice Ao52 t285.length co52) : Value).ownBlock ∧ some k_ ≠ ((.slice Ao62 t287.length co62) : Value).ownBlock ∧ some k_ ≠ ((.slice Ao193 t301.length co193) : Value).ownBlock) (.slice Ao72 t268.length co72) t290) ∧ Aside0 (Kd.R (Kd.int .i64) 2 wc w.heap.size (fun k_ => some k_ ≠ ((.slice Ao42 t252.length co42) : Value).ownBlock ∧ some k_ ≠ ((.slice Ao52 t285.length co52) : Value).ownBlock ∧ some k_ ≠ ((.slice Ao62 t287.length co62) : Value).ownBlock ∧ some k_ ≠ ((.slice Ao72 t268.length co72) : Value).ownBlock) (.slice Ao193 t301.length co193) t301) ∧ Aside0 (wc.heap[gb239]? = some (.cells #[.int .i64 a0_0, (.slice A0_1 l0_1.length c0_1)] 24 (0, 0))) ∧ Aside0 (wc.heap[gb240]? = some (.cells #[.int .i64 a1_0, (.slice A1_1 l1_1.length c1_1)] 24 (0, 0))) ∧ Aside0 (wc.heap[gb256]? = some (.cells #[.int .i64 t251, (.slice Ao42 t252.length co42)] 28 (0, 0))) ∧ Aside0 (wc.heap[gb261]? = some (.cells #[.int .i64 t257, (.slice Ao52 t285.length co52)] 28 (0, 0))) ∧ Aside0 (wc.heap[gb266]? = some (.cells #[.int .i64 t262, (.slice Ao62 t287.length co62)] 28 (0, 0))) ∧ Aside0 (wc.heap[gb272]? = some (.cells #[.int .i64 t267, (.slice Ao72 t268.length co72)] 28 (0, 0))) ∧ Aside0 (wc.heap[gb305]? = some (.cells #[.int .i64 t300, (.slice Ao193 t301.length co193)] 28 (0, 0))) ∧ Aside0 (Below w.heap.size w wc))
             case first =>
              have H := HC174.out; clear HC174
              replace H := Option.bind_eq_some_iff.mp H
              obtain ⟨t306, A1950, H⟩ := H
              replace H : (if t306 = true then (laws_FnExactAddWholes.j2 kj107 t289 (t304 != t255) t267 t290) else (laws_FnExactAddWholes.j2 kj107 t289 true t267 t290)) = some r := H
              have A195 := Aside0.mk A1950; clear A1950
              by_cases c196 : t306 = true
              ·subst c196
               have H1 : (laws_FnExactAddWholes.j2 kj107 t289 (t304 != t255) t267 t290) = some r := by rw [if_pos rfl] at H; exact H
               clear H; have H := H1; clear H1
               have H' := Aside0.mk H
               clear H; have hnb197 := NB305_239.out; have hnc197 := NB239_305.out; have hnb198 := NB305_240.out; have hnc198 := NB240_305.out; have hnb199 := NB305_256.out; have hnc199 := NB256_305.out; have hnb200 := NB305_261.out; have hnc200 := NB261_305.out; have hnb201 := NB305_266.out; have hnc201 := NB266_305.out; have hnb202 := NB305_272.out; have hnc202 := NB272_305.out
               have hcz203_0 : w191.cell? ⟨gb305, 0, none⟩ = some (.int .i64 0) := (blk_cell BK305.out 0).trans rfl
               have hcz203_1 : w191.cell? ⟨gb305, 1, none⟩ = some (.slice none 0 0) := (blk_cell BK305.out 1).trans rfl
               have hfz203_0 := blk_frozen BK305.out 0; have hfz203_1 := blk_frozen BK305.out 1; have hnb204 := NB256_239.out; have hnc204 := NB239_256.out; have hnb205 := NB256_240.out; have hnc205 := NB240_256.out; have hnb206 := NB256_261.out; have hnc206 := NB261_256.out; have hnb207 := NB256_266.out; have hnc207 := NB266_256.out; have hnb208 := NB256_272.out; have hnc208 := NB272_256.out
               have hcz209_0 : w191.cell? ⟨gb256, 0, none⟩ = some (.int .i64 t251) := (blk_cell BK256.out 0).trans rfl
               have hcz209_1 : w191.cell? ⟨gb256, 1, none⟩ = some (.slice Ao42 t252.length co42) := (blk_cell BK256.out 1).trans rfl
               have hfz209_0 := blk_frozen BK256.out 0; have hfz209_1 := blk_frozen BK256.out 1
               go_wp2_with (first | ((with_reducible refine gate_callee (f := 22) rfl ?_); refine goesL_ (some 104) rfl rfl Tryd.func22 (by kernel_rfl) rfl #[.agg #[.int .i64 t300, .slice Ao193 t301.length co193], .agg #[.int .i64 t251, .slice Ao42 t252.length co42]] rfl ma_ ?_; (with_reducible refine (laws_eqWhole.calls kj107 t300 _ _ t301 t251 _ _ t252 true _ ?side1 ?side2 ?side3 ?side4 A195.out).mono ?_); (case side1 => refine (Kd.R_reads' (e := 2) (base := w.heap.size) (ok := fun k_ => (some k_ ≠ (v294 : Value).ownBlock ∧ (some k_ ≠ (v298 : Value).ownBlock ∧ (some k_ ≠ (.slice Ao42 t252.length co42 : Value).ownBlock ∧ (some k_ ≠ (.slice Ao52 t285.length co52 : Value).ownBlock ∧ (some k_ ≠ (.slice Ao62 t287.length co62 : Value).ownBlock ∧ some k_ ≠ (.slice Ao72 t268.length co72 : Value).ownBlock)))))) (n := t301.length) (c := co193) ?_).2.2; exact (rg_ HO303 BK305)); (case side2 => exact (Kd.R_reads' HO303.out).2.1); (case side3 => refine (Kd.R_reads' (e := 2) (base := w.heap.size) (ok := fun k_ => (some k_ ≠ (v294 : Value).ownBlock ∧ (some k_ ≠ (v298 : Value).ownBlock ∧ (some k_ ≠ (.slice Ao193 t301.length co193 : Value).ownBlock ∧ (some k_ ≠ (.slice Ao52 t285.length co52 : Value).ownBlock ∧ (some k_ ≠ (.slice Ao62 t287.length co62 : Value).ownBlock ∧ some k_ ≠ (.slice Ao72 t268.length co72 : Value).ownBlock)))))) (n := t252.length) (c := co42) ?_).2.2; exact (rg_ HO_257001 BK305)); (case side4 => exact (Kd.R_reads' HO_257001.out).2.1); rintro e w210 ⟨rfl, hb⟩; refine ⟨_, rfl, ?_⟩; have n0_ := am_ (Kd.R_below (rg_ HO_257001 BK305) hb); have n1_ := am_ (Kd.R_below (rg_ HO_262001 BK305) hb); have n2_ := am_ (Kd.R_below (rg_ HO_267001 BK305) hb); have n3_ := am_ (Kd.R_below (rg_ HO_273001 BK305) hb); have n4_ := am_ (Kd.R_below (rg_ HO295 BK305) hb); have n5_ := am_ (Kd.R_below (rg_ HO299 BK305) hb); have n6_ := am_ (Kd.R_below (rg_ HO303 BK305) hb); have n7_ := am_ (blk_below (bk_ BK239) hb); have n8_ := am_ (blk_below (bk_ BK240) hb); have n9_ := am_ (blk_below (bk_ BK256) hb); have n10_ := am_ (blk_below (bk_ BK261) hb); have n11_ := am_ (blk_below (bk_ BK266) hb); have n12_ := am_ (blk_below (bk_ BK272) hb); have n13_ := am_ (blk_below (g := gb305) (o := .cells #[.int .i64 t300, .slice Ao193 t301.length co193] 28 (0, 0)) (by (with_reducible repeat (first | refine blk_drewN ?_ _ | refine blk_drew ?_ | refine blk_alloc ?_ _)); refine blk_put (cs := #[.int .i64 t300, .slice none 0 0]) ?_ 1 _ rfl; (with_reducible repeat (first | refine blk_drewN ?_ _ | refine blk_drew ?_ | refine blk_alloc ?_ _)); refine blk_put (cs := #[.int .i64 0, .slice none 0 0]) ?_ 0 _ rfl; (with_reducible repeat (first | refine blk_drewN ?_ _ | refine blk_drew ?_ | refine blk_alloc ?_ _)); exact BK305.out) hb); have n14_ := am_ (below_step (bl_ HB) hb); clear HO_257001; clear HO_262001; clear HO_267001; clear HO_273001; clear HO295; clear HO299; clear HO303; clear BK239; clear BK240; clear BK256; clear BK261; clear BK266; clear BK272; clear BK305; clear HB; have HO_257001 := n0_; have HO_262001 := n1_; have HO_267001 := n2_; have HO_273001 := n3_; have HO295 := n4_; have HO299 := n5_; have HO303 := n6_; have BK239 := n7_; have BK240 := n8_; have BK256 := n9_; have BK261 := n10_; have BK266 := n11_; have BK272 := n12_; have BK305 := n13_; have HB := n14_; clear n0_ n1_ n2_ n3_ n4_ n5_ n6_ n7_ n8_ n9_ n10_ n11_ n12_ n13_ n14_; (try clear hb); (try clear hb2); (try clear hk); (try clear hi)))
               go_meet
               case rel => exact ⟨_, ((t304 != t255)), (by first | rfl | (simp; done) | (simp [*]; done)), H', ⟨by have := HJ24.out; have := HJ107.out; first | omega | exact Nat.le_refl _⟩, ⟨by (try simp only [hl262001_107]); (try simp only [hl267001_107]); (with_reducible repeat (first | apply Kd.R_alloc | apply Kd.R_drewN | apply Kd.R_drew)); exact Kd.R_mono HO_257001.out (fun _ hk => ⟨hk.2.2.2.1, ⟨hk.2.2.2.2.1, ⟨hk.2.2.2.2.2, hk.2.2.1⟩⟩⟩)⟩, ⟨by (try simp only [hl262001_107]); (try simp only [hl267001_107]); (with_reducible repeat (first | apply Kd.R_alloc | apply Kd.R_drewN | apply Kd.R_drew)); exact Kd.R_mono HO_262001.out (fun _ hk => ⟨hk.2.2.2.1, ⟨hk.2.2.2.2.1, ⟨hk.2.2.2.2.2, hk.2.2.1⟩⟩⟩)⟩, ⟨by (try simp only [hl262001_107]); (try simp only [hl267001_107]); (with_reducible repeat (first | apply Kd.R_alloc | apply Kd.R_drewN | apply Kd.R_drew)); exact Kd.R_mono HO_267001.out (fun _ hk => ⟨hk.2.2.2.1, ⟨hk.2.2.2.2.1, ⟨hk.2.2.2.2.2, hk.2.2.1⟩⟩⟩)⟩, ⟨by (try simp only [hl262001_107]); (try simp only [hl267001_107]); (with_reducible repeat (first | apply Kd.R_alloc | apply Kd.R_drewN | apply Kd.R_drew)); exact Kd.R_mono HO_273001.out (fun _ hk => ⟨hk.2.2.2.1, ⟨hk.2.2.2.2.1, ⟨hk.2.2.2.2.2, hk.2.2.1⟩⟩⟩)⟩, ⟨by (try simp only [hl262001_107]); (try simp only [hl267001_107]); (with_reducible repeat (first | apply Kd.R_alloc | apply Kd.R_drewN | apply Kd.R_drew)); exact Kd.R_mono HO303.out (fun _ hk => ⟨hk.2.2.1, ⟨hk.2.2.2.1, ⟨hk.2.2.2.2.1, hk.2.2.2.2.2⟩⟩⟩)⟩, ⟨by (try simp only [hl262001_107]); (try simp only [hl267001_107]); (with_reducible repeat (first | refine blk_drewN ?_ _ | refine blk_drew ?_ | refine blk_alloc ?_ _)); exact BK239.out⟩, ⟨by (try simp only [hl262001_107]); (try simp only [hl267001_107]); (with_reducible repeat (first | refine blk_drewN ?_ _ | refine blk_drew ?_ | refine blk_alloc ?_ _)); exact BK240.out⟩, ⟨by (try simp only [hl262001_107]); (try simp only [hl267001_107]); (with_reducible repeat (first | refine blk_drewN ?_ _ | refine blk_drew ?_ | refine blk_alloc ?_ _)); exact BK256.out⟩, ⟨by (try simp only [hl262001_107]); (try simp only [hl267001_107]); (with_reducible repeat (first | refine blk_drewN ?_ _ | refine blk_drew ?_ | refine blk_alloc ?_ _)); exact BK261.out⟩, ⟨by (try simp only [hl262001_107]); (try simp only [hl267001_107]); (with_reducible repeat (first | refine blk_drewN ?_ _ | refine blk_drew ?_ | refine blk_alloc ?_ _)); exact BK266.out⟩, ⟨by (try simp only [hl262001_107]); (try simp only [hl267001_107]); (with_reducible repeat (first | refine blk_drewN ?_ _ | refine blk_drew ?_ | refine blk_alloc ?_ _)); exact BK272.out⟩, ⟨by (try simp only [hl262001_107]); (try simp only [hl267001_107]); (with_reducible repeat (first | refine blk_drewN ?_ _ | refine blk_drew ?_ | refine blk_alloc ?_ _)); exact BK305.out⟩, ⟨bl_ HB⟩⟩
              ·replace c196 := Bool.eq_false_iff.mpr c196
               subst c196
               have H1 : (laws_FnExactAddWholes.j2 kj107 t289 true t267 t290) = some r := by rw [if_neg (show ¬ (false = true) by decide)] at H; exact H
               clear H; have H := H1; clear H1
               have H' := Aside0.mk H
               clear H; have hnb211 := NB305_239.out; have hnc211 := NB239_305.out; have hnb212 := NB305_240.out; have hnc212 := NB240_305.out; have hnb213 := NB305_256.out; have hnc213 := NB256_305.out; have hnb214 := NB305_261.out; have hnc214 := NB261_305.out; have hnb215 := NB305_266.out; have hnc215 := NB266_305.out; have hnb216 := NB305_272.out; have hnc216 := NB272_305.out
               have hcz217_0 : w191.cell? ⟨gb305, 0, none⟩ = some (.int .i64 0) := (blk_cell BK305.out 0).trans rfl
               have hcz217_1 : w191.cell? ⟨gb305, 1, none⟩ = some (.slice none 0 0) := (blk_cell BK305.out 1).trans rfl
               have hfz217_0 := blk_frozen BK305.out 0; have hfz217_1 := blk_frozen BK305.out 1; have hnb218 := NB256_239.out; have hnc218 := NB239_256.out; have hnb219 := NB256_240.out; have hnc219 := NB240_256.out; have hnb220 := NB256_261.out; have hnc220 := NB261_256.out; have hnb221 := NB256_266.out; have hnc221 := NB266_256.out; have hnb222 := NB256_272.out; have hnc222 := NB272_256.out
               have hcz223_0 : w191.cell? ⟨gb256, 0, none⟩ = some (.int .i64 t251) := (blk_cell BK256.out 0).trans rfl
               have hcz223_1 : w191.cell? ⟨gb256, 1, none⟩ = some (.slice Ao42 t252.length co42) := (blk_cell BK256.out 1).trans rfl
               have hfz223_0 := blk_frozen BK256.out 0; have hfz223_1 := blk_frozen BK256.out 1
               go_wp2_with (first | ((with_reducible refine gate_callee (f := 22) rfl ?_); refine goesL_ (some 104) rfl rfl Tryd.func22 (by kernel_rfl) rfl #[.agg #[.int .i64 t300, .slice Ao193 t301.length co193], .agg #[.int .i64 t251, .slice Ao42 t252.length co42]] rfl ma_ ?_; (with_reducible refine (laws_eqWhole.calls kj107 t300 _ _ t301 t251 _ _ t252 false _ ?side1 ?side2 ?side3 ?side4 A195.out).mono ?_); (case side1 => refine (Kd.R_reads' (e := 2) (base := w.heap.size) (ok := fun k_ => (some k_ ≠ (v294 : Value).ownBlock ∧ (some k_ ≠ (v298 : Value).ownBlock ∧ (some k_ ≠ (.slice Ao42 t252.length co42 : Value).ownBlock ∧ (some k_ ≠ (.slice Ao52 t285.length co52 : Value).ownBlock ∧ (some k_ ≠ (.slice Ao62 t287.length co62 : Value).ownBlock ∧ some k_ ≠ (.slice Ao72 t268.length co72 : Value).ownBlock)))))) (n := t301.length) (c := co193) ?_).2.2; exact (rg_ HO303 BK305)); (case side2 => exact (Kd.R_reads' HO303.out).2.1); (case side3 => refine (Kd.R_reads' (e := 2) (base := w.heap.size) (ok := fun k_ => (some k_ ≠ (v294 : Value).ownBlock ∧ (some k_ ≠ (v298 : Value).ownBlock ∧ (some k_ ≠ (.slice Ao193 t301.length co193 : Value).ownBlock ∧ (some k_ ≠ (.slice Ao52 t285.length co52 : Value).ownBlock ∧ (some k_ ≠ (.slice Ao62 t287.length co62 : Value).ownBlock ∧ some k_ ≠ (.slice Ao72 t268.length co72 : Value).ownBlock)))))) (n := t252.length) (c := co42) ?_).2.2; exact (rg_ HO_257001 BK305)); (case side4 => exact (Kd.R_reads' HO_257001.out).2.1); rintro e w224 ⟨rfl, hb⟩; refine ⟨_, rfl, ?_⟩; have n0_ := am_ (Kd.R_below (rg_ HO_257001 BK305) hb); have n1_ := am_ (Kd.R_below (rg_ HO_262001 BK305) hb); have n2_ := am_ (Kd.R_below (rg_ HO_267001 BK305) hb); have n3_ := am_ (Kd.R_below (rg_ HO_273001 BK305) hb); have n4_ := am_ (Kd.R_below (rg_ HO295 BK305) hb); have n5_ := am_ (Kd.R_below (rg_ HO299 BK305) hb); have n6_ := am_ (Kd.R_below (rg_ HO303 BK305) hb); have n7_ := am_ (blk_below (bk_ BK239) hb); have n8_ := am_ (blk_below (bk_ BK240) hb); have n9_ := am_ (blk_below (bk_ BK256) hb); have n10_ := am_ (blk_below (bk_ BK261) hb); have n11_ := am_ (blk_below (bk_ BK266) hb); have n12_ := am_ (blk_below (bk_ BK272) hb); have n13_ := am_ (blk_below (g := gb305) (o := .cells #[.int .i64 t300, .slice Ao193 t301.length co193] 28 (0, 0)) (by (with_reducible repeat (first | refine blk_drewN ?_ _ | refine blk_drew ?_ | refine blk_alloc ?_ _)); refine blk_put (cs := #[.int .i64 t300, .slice none 0 0]) ?_ 1 _ rfl; (with_reducible repeat (first | refine blk_drewN ?_ _ | refine blk_drew ?_ | refine blk_alloc ?_ _)); refine blk_put (cs := #[.int .i64 0, .slice none 0 0]) ?_ 0 _ rfl; (with_reducible repeat (first | refine blk_drewN ?_ _ | refine blk_drew ?_ | refine blk_alloc ?_ _)); exact BK305.out) hb); have n14_ := am_ (below_step (bl_ HB) hb); clear HO_257001; clear HO_262001; clear HO_267001; clear HO_273001; clear HO295; clear HO299; clear HO303; clear BK239; clear BK240; clear BK256; clear BK261; clear BK266; clear BK272; clear BK305; clear HB; have HO_257001 := n0_; have HO_262001 := n1_; have HO_267001 := n2_; have HO_273001 := n3_; have HO295 := n4_; have HO299 := n5_; have HO303 := n6_; have BK239 := n7_; have BK240 := n8_; have BK256 := n9_; have BK261 := n10_; have BK266 := n11_; have BK272 := n12_; have BK305 := n13_; have HB := n14_; clear n0_ n1_ n2_ n3_ n4_ n5_ n6_ n7_ n8_ n9_ n10_ n11_ n12_ n13_ n14_; (try clear hb); (try clear hb2); (try clear hk); (try clear hi)))
               go_meet
               case rel => exact ⟨_, (true), (by first | rfl | (simp; done) | (simp [*]; done)), H', ⟨by have := HJ24.out; have := HJ107.out; first | omega | exact Nat.le_refl _⟩, ⟨by (try simp only [hl262001_107]); (try simp only [hl267001_107]); (with_reducible repeat (first | apply Kd.R_alloc | apply Kd.R_drewN | apply Kd.R_drew)); exact Kd.R_mono HO_257001.out (fun _ hk => ⟨hk.2.2.2.1, ⟨hk.2.2.2.2.1, ⟨hk.2.2.2.2.2, hk.2.2.1⟩⟩⟩)⟩, ⟨by (try simp only [hl262001_107]); (try simp only [hl267001_107]); (with_reducible repeat (first | apply Kd.R_alloc | apply Kd.R_drewN | apply Kd.R_drew)); exact Kd.R_mono HO_262001.out (fun _ hk => ⟨hk.2.2.2.1, ⟨hk.2.2.2.2.1, ⟨hk.2.2.2.2.2, hk.2.2.1⟩⟩⟩)⟩, ⟨by (try simp only [hl262001_107]); (try simp only [hl267001_107]); (with_reducible repeat (first | apply Kd.R_alloc | apply Kd.R_drewN | apply Kd.R_drew)); exact Kd.R_mono HO_267001.out (fun _ hk => ⟨hk.2.2.2.1, ⟨hk.2.2.2.2.1, ⟨hk.2.2.2.2.2, hk.2.2.1⟩⟩⟩)⟩, ⟨by (try simp only [hl262001_107]); (try simp only [hl267001_107]); (with_reducible repeat (first | apply Kd.R_alloc | apply Kd.R_drewN | apply Kd.R_drew)); exact Kd.R_mono HO_273001.out (fun _ hk => ⟨hk.2.2.2.1, ⟨hk.2.2.2.2.1, ⟨hk.2.2.2.2.2, hk.2.2.1⟩⟩⟩)⟩, ⟨by (try simp only [hl262001_107]); (try simp only [hl267001_107]); (with_reducible repeat (first | apply Kd.R_alloc | apply Kd.R_drewN | apply Kd.R_drew)); exact Kd.R_mono HO303.out (fun _ hk => ⟨hk.2.2.1, ⟨hk.2.2.2.1, ⟨hk.2.2.2.2.1, hk.2.2.2.2.2⟩⟩⟩)⟩, ⟨by (try simp only [hl262001_107]); (try simp only [hl267001_107]); (with_reducible repeat (first | refine blk_drewN ?_ _ | refine blk_drew ?_ | refine blk_alloc ?_ _)); exact BK239.out⟩, ⟨by (try simp only [hl262001_107]); (try simp only [hl267001_107]); (with_reducible repeat (first | refine blk_drewN ?_ _ | refine blk_drew ?_ | refine blk_alloc ?_ _)); exact BK240.out⟩, ⟨by (try simp only [hl262001_107]); (try simp only [hl267001_107]); (with_reducible repeat (first | refine blk_drewN ?_ _ | refine blk_drew ?_ | refine blk_alloc ?_ _)); exact BK256.out⟩, ⟨by (try simp only [hl262001_107]); (try simp only [hl267001_107]); (with_reducible repeat (first | refine blk_drewN ?_ _ | refine blk_drew ?_ | refine blk_alloc ?_ _)); exact BK261.out⟩, ⟨by (try simp only [hl262001_107]); (try simp only [hl267001_107]); (with_reducible repeat (first | refine blk_drewN ?_ _ | refine blk_drew ?_ | refine blk_alloc ?_ _)); exact BK266.out⟩, ⟨by (try simp only [hl262001_107]); (try simp only [hl267001_107]); (with_reducible repeat (first | refine blk_drewN ?_ _ | refine blk_drew ?_ | refine blk_alloc ?_ _)); exact BK272.out⟩, ⟨by (try simp only [hl262001_107]); (try simp only [hl267001_107]); (with_reducible repeat (first | refine blk_drewN ?_ _ | refine blk_drew ?_ | refine blk_alloc ?_ _)); exact BK305.out⟩, ⟨bl_ HB⟩⟩
             case rest =>
              clear HC174; try clear c1; try clear c2; try clear p2; try clear c3; try clear c19; try clear c20; try clear c21; try clear c22; try clear c36; try clear c196; try clear c197; try clear c198; try clear c199; try clear c200; try clear c201; try clear c202; try clear c204; try clear c205; try clear c206; try clear c207; try clear c208; try clear c211; try clear c212; try clear c213; try clear c214; try clear c215; try clear c216; try clear c218; try clear c219; try clear c220; try clear c221; try clear c222; try clear hcz203_0; try clear hcz203_1; try clear hcz209_0; try clear hcz209_1; try clear hcz217_0; try clear hcz217_1; try clear hcz223_0; try clear hcz223_1; try clear hfz203_0; try clear hfz203_1; try clear hfz209_0; try clear hfz209_1; try clear hfz217_0; try clear hfz217_1; try clear hfz223_0; try clear hfz223_1
              obtain ⟨kq, x110_173, rfl, HA, HJ173, HO_257001, HO_262001, HO_267001, HO_273001, HO_306001, BK239, BK240, BK256, BK261, BK266, BK272, BK305, HB⟩ := hcut
              have hl273001_173 := (Kd.R_reads' HO_273001.out).1
              rw [hl273001_173] at HO_273001
              (try simp only [hl273001_173])
              (try simp only [hl273001_173] at BK239)
              (try simp only [hl273001_173] at BK240)
              (try simp only [hl273001_173] at BK256)
              (try simp only [hl273001_173] at BK261)
              (try simp only [hl273001_173] at BK266)
              (try simp only [hl273001_173] at BK272)
              (try simp only [hl273001_173] at BK305)
              (try simp only [hl273001_173] at HO_257001)
              (try simp only [hl273001_173] at HO_262001)
              (try simp only [hl273001_173] at HO_267001)
              (try simp only [hl273001_173] at HO_306001)
              cases kq with
              | zero => exact absurd HA.out (by simp [laws_FnExactAddWholes.j2])
              | succ kj173 =>
               have H := HA.out; clear HA
               simp only [laws_FnExactAddWholes.j2] at H
               by_cases c225 : x110_173 = true
               ·subst c225
                have H1 : (some false) = some r := by rw [if_pos rfl] at H; exact H
                clear H; have H := H1; clear H1; obtain rfl := Option.some.inj H
                go_wp2
                go_ret
                exact ⟨by first | rfl | (simp [errW_none, errW_some] <;> rfl) | (simp [*, errW_none, errW_some] <;> rfl), bl_ HB⟩
               ·replace c225 := Bool.eq_false_iff.mpr c225
                subst c225
                have H1 : ((laws_heldWhole.f kj173 t267 t290 1).bind fun t307 => (if t307 < 0 then (some false) else (if t307 = t289 then (some true) else (some false)))) = some r := by rw [if_neg (show ¬ (false = true) by decide)] at H; exact H
                clear H; have H := H1; clear H1
                replace H := Option.bind_eq_some_iff.mp H
                obtain ⟨t307, A2260, H⟩ := H
                replace H : (if t307 < 0 then (some false) else (if t307 = t289 then (some true) else (some false))) = some r := H
                have A226 := Aside0.mk A2260; clear A2260
                by_cases c227 : t307 < 0
                ·rw [if_pos c227] at H
                 have c227b0 : decide (t307 < 0) = true := decide_eq_true c227
                 clear c227; obtain rfl := Option.some.inj H; have hnb228 := NB272_239.out; have hnc228 := NB239_272.out; have hnb229 := NB272_240.out; have hnc229 := NB240_272.out; have hnb230 := NB272_256.out; have hnc230 := NB256_272.out; have hnb231 := NB272_261.out; have hnc231 := NB261_272.out; have hnb232 := NB272_266.out; have hnc232 := NB266_272.out; have hnb233 := NB272_305.out; have hnc233 := NB305_272.out
                 have hcz234_0 : wc.cell? ⟨gb272, 0, none⟩ = some (.int .i64 t267) := (blk_cell BK272.out 0).trans rfl
                 have hcz234_1 : wc.cell? ⟨gb272, 1, none⟩ = some (.slice Ao72 t290.length co72) := (blk_cell BK272.out 1).trans rfl
                 have hfz234_0 := blk_frozen BK272.out 0; have hfz234_1 := blk_frozen BK272.out 1
                 go_wp2_with (first | ((with_reducible refine gate_callee (f := 26) rfl ?_); refine goesL_ (some 113) rfl rfl Tryd.func26 (by kernel_rfl) rfl #[.agg #[.int .i64 t267, .slice Ao72 t290.length co72], .int .i64 1] rfl ma_ ?_; (with_reducible refine (laws_heldWhole.calls kj173 t267 _ _ t290 1 t307 _ ?side1 ?side2 A226.out).mono ?_); (case side1 => repeat (first | exact (Kd.R_reads' HO_273001.out).2.2 | (with_reducible refine Kd.C_alloc ?_ _) | (with_reducible refine Kd.C_drewN ?_ _) | (with_reducible refine Kd.C_drew ?_))); (case side2 => exact (Kd.R_reads' HO_273001.out).2.1); rintro e w235 ⟨rfl, hb⟩; refine ⟨_, rfl, ?_⟩; have n0_ := am_ (Kd.R_below (kr_ HO_257001) hb); have n1_ := am_ (Kd.R_below (kr_ HO_262001) hb); have n2_ := am_ (Kd.R_below (kr_ HO_267001) hb); have n3_ := am_ (Kd.R_below (kr_ HO_273001) hb); have n4_ := am_ (Kd.R_below (kr_ HO_306001) hb); have n5_ := am_ (blk_below (bk_ BK239) hb); have n6_ := am_ (blk_below (bk_ BK240) hb); have n7_ := am_ (blk_below (bk_ BK256) hb); have n8_ := am_ (blk_below (bk_ BK261) hb); have n9_ := am_ (blk_below (bk_ BK266) hb); have n10_ := am_ (blk_below (bk_ BK272) hb); have n11_ := am_ (blk_below (bk_ BK305) hb); have n12_ := am_ (below_step (bl_ HB) hb); clear HO_257001; clear HO_262001; clear HO_267001; clear HO_273001; clear HO_306001; clear BK239; clear BK240; clear BK256; clear BK261; clear BK266; clear BK272; clear BK305; clear HB; have HO_257001 := n0_; have HO_262001 := n1_; have HO_267001 := n2_; have HO_273001 := n3_; have HO_306001 := n4_; have BK239 := n5_; have BK240 := n6_; have BK256 := n7_; have BK261 := n8_; have BK266 := n9_; have BK272 := n10_; have BK305 := n11_; have HB := n12_; clear n0_ n1_ n2_ n3_ n4_ n5_ n6_ n7_ n8_ n9_ n10_ n11_ n12_; (try clear hb); (try clear hb2); (try clear hk); (try clear hi)))
                 go_ret
                 exact ⟨by first | rfl | (simp [errW_none, errW_some] <;> rfl) | (simp [*, errW_none, errW_some] <;> rfl), bl_ HB⟩
                ·rw [if_neg c227] at H
                 have c227b0 : decide (t307 < 0) = false := decide_eq_false c227
                 clear c227
                 by_cases c236 : t307 = t289
                 ·rw [if_pos c236] at H
                  have c236b0 : (t307 == t289) = true := beq_iff_eq.mpr c236
                  have c236b1 : (t307 != t289) = false := bne_eq_false_iff_eq.mpr c236
                  clear c236; obtain rfl := Option.some.inj H; have hnb237 := NB272_239.out; have hnc237 := NB239_272.out; have hnb238 := NB272_240.out; have hnc238 := NB240_272.out; have hnb239 := NB272_256.out; have hnc239 := NB256_272.out; have hnb240 := NB272_261.out; have hnc240 := NB261_272.out; have hnb241 := NB272_266.out; have hnc241 := NB266_272.out; have hnb242 := NB272_305.out; have hnc242 := NB305_272.out
                  have hcz243_0 : wc.cell? ⟨gb272, 0, none⟩ = some (.int .i64 t267) := (blk_cell BK272.out 0).trans rfl
                  have hcz243_1 : wc.cell? ⟨gb272, 1, none⟩ = some (.slice Ao72 t290.length co72) := (blk_cell BK272.out 1).trans rfl
                  have hfz243_0 := blk_frozen BK272.out 0; have hfz243_1 := blk_frozen BK272.out 1
                  go_wp2_with (first | ((with_reducible refine gate_callee (f := 26) rfl ?_); refine goesL_ (some 113) rfl rfl Tryd.func26 (by kernel_rfl) rfl #[.agg #[.int .i64 t267, .slice Ao72 t290.length co72], .int .i64 1] rfl ma_ ?_; (with_reducible refine (laws_heldWhole.calls kj173 t267 _ _ t290 1 t307 _ ?side1 ?side2 A226.out).mono ?_); (case side1 => repeat (first | exact (Kd.R_reads' HO_273001.out).2.2 | (with_reducible refine Kd.C_alloc ?_ _) | (with_reducible refine Kd.C_drewN ?_ _) | (with_reducible refine Kd.C_drew ?_))); (case side2 => exact (Kd.R_reads' HO_273001.out).2.1); rintro e w244 ⟨rfl, hb⟩; refine ⟨_, rfl, ?_⟩; have n0_ := am_ (Kd.R_below (kr_ HO_257001) hb); have n1_ := am_ (Kd.R_below (kr_ HO_262001) hb); have n2_ := am_ (Kd.R_below (kr_ HO_267001) hb); have n3_ := am_ (Kd.R_below (kr_ HO_273001) hb); have n4_ := am_ (Kd.R_below (kr_ HO_306001) hb); have n5_ := am_ (blk_below (bk_ BK239) hb); have n6_ := am_ (blk_below (bk_ BK240) hb); have n7_ := am_ (blk_below (bk_ BK256) hb); have n8_ := am_ (blk_below (bk_ BK261) hb); have n9_ := am_ (blk_below (bk_ BK266) hb); have n10_ := am_ (blk_below (bk_ BK272) hb); have n11_ := am_ (blk_below (bk_ BK305) hb); have n12_ := am_ (below_step (bl_ HB) hb); clear HO_257001; clear HO_262001; clear HO_267001; clear HO_273001; clear HO_306001; clear BK239; clear BK240; clear BK256; clear BK261; clear BK266; clear BK272; clear BK305; clear HB; have HO_257001 := n0_; have HO_262001 := n1_; have HO_267001 := n2_; have HO_273001 := n3_; have HO_306001 := n4_; have BK239 := n5_; have BK240 := n6_; have BK256 := n7_; have BK261 := n8_; have BK266 := n9_; have BK272 := n10_; have BK305 := n11_; have HB := n12_; clear n0_ n1_ n2_ n3_ n4_ n5_ n6_ n7_ n8_ n9_ n10_ n11_ n12_; (try clear hb); (try clear hb2); (try clear hk); (try clear hi)))
                  go_ret
                  exact ⟨by first | rfl | (simp [errW_none, errW_some] <;> rfl) | (simp [*, errW_none, errW_some] <;> rfl), bl_ HB⟩
                 ·rw [if_neg c236] at H
                  have c236b0 : (t307 == t289) = false := beq_eq_false_iff_ne.mpr c236
                  have c236b1 : (t307 != t289) = true := bne_iff_ne.mpr c236
                  obtain rfl := Option.some.inj H; have hnb245 := NB272_239.out; have hnc245 := NB239_272.out; have hnb246 := NB272_240.out; have hnc246 := NB240_272.out; have hnb247 := NB272_256.out; have hnc247 := NB256_272.out; have hnb248 := NB272_261.out; have hnc248 := NB261_272.out; have hnb249 := NB272_266.out; have hnc249 := NB266_272.out; have hnb250 := NB272_305.out; have hnc250 := NB305_272.out
                  have hcz251_0 : wc.cell? ⟨gb272, 0, none⟩ = some (.int .i64 t267) := (blk_cell BK272.out 0).trans rfl
                  have hcz251_1 : wc.cell? ⟨gb272, 1, none⟩ = some (.slice Ao72 t290.length co72) := (blk_cell BK272.out 1).trans rfl
                  have hfz251_0 := blk_frozen BK272.out 0; have hfz251_1 := blk_frozen BK272.out 1
                  go_wp2_with (first | ((with_reducible refine gate_callee (f := 26) rfl ?_); refine goesL_ (some 113) rfl rfl Tryd.func26 (by kernel_rfl) rfl #[.agg #[.int .i64 t267, .slice Ao72 t290.length co72], .int .i64 1] rfl ma_ ?_; (with_reducible refine (laws_heldWhole.calls kj173 t267 _ _ t290 1 t307 _ ?side1 ?side2 A226.out).mono ?_); (case side1 => repeat (first | exact (Kd.R_reads' HO_273001.out).2.2 | (with_reducible refine Kd.C_alloc ?_ _) | (with_reducible refine Kd.C_drewN ?_ _) | (with_reducible refine Kd.C_drew ?_))); (case side2 => exact (Kd.R_reads' HO_273001.out).2.1); rintro e w252 ⟨rfl, hb⟩; refine ⟨_, rfl, ?_⟩; have n0_ := am_ (Kd.R_below (kr_ HO_257001) hb); have n1_ := am_ (Kd.R_below (kr_ HO_262001) hb); have n2_ := am_ (Kd.R_below (kr_ HO_267001) hb); have n3_ := am_ (Kd.R_below (kr_ HO_273001) hb); have n4_ := am_ (Kd.R_below (kr_ HO_306001) hb); have n5_ := am_ (blk_below (bk_ BK239) hb); have n6_ := am_ (blk_below (bk_ BK240) hb); have n7_ := am_ (blk_below (bk_ BK256) hb); have n8_ := am_ (blk_below (bk_ BK261) hb); have n9_ := am_ (blk_below (bk_ BK266) hb); have n10_ := am_ (blk_below (bk_ BK272) hb); have n11_ := am_ (blk_below (bk_ BK305) hb); have n12_ := am_ (below_step (bl_ HB) hb); clear HO_257001; clear HO_262001; clear HO_267001; clear HO_273001; clear HO_306001; clear BK239; clear BK240; clear BK256; clear BK261; clear BK266; clear BK272; clear BK305; clear HB; have HO_257001 := n0_; have HO_262001 := n1_; have HO_267001 := n2_; have HO_273001 := n3_; have HO_306001 := n4_; have BK239 := n5_; have BK240 := n6_; have BK256 := n7_; have BK261 := n8_; have BK266 := n9_; have BK272 := n10_; have BK305 := n11_; have HB := n12_; clear n0_ n1_ n2_ n3_ n4_ n5_ n6_ n7_ n8_ n9_ n10_ n11_ n12_; (try clear hb); (try clear hb2); (try clear hk); (try clear hi)))
                  go_ret
                  exact ⟨by first | rfl | (simp [errW_none, errW_some] <;> rfl) | (simp [*, errW_none, errW_some] <;> rfl), bl_ HB⟩
            ·rw [if_neg c170] at H
             have c170b0 : (t291 == t289) = false := beq_eq_false_iff_ne.mpr c170
             have c170b1 : (t291 != t289) = true := bne_iff_ne.mpr c170
             obtain rfl := Option.some.inj H; have hnb253 := NB272_239.out; have hnc253 := NB239_272.out; have hnb254 := NB272_240.out; have hnc254 := NB240_272.out; have hnb255 := NB272_256.out; have hnc255 := NB256_272.out; have hnb256 := NB272_261.out; have hnc256 := NB261_272.out; have hnb257 := NB272_266.out; have hnc257 := NB266_272.out
             have hcz258_0 : wc.cell? ⟨gb272, 0, none⟩ = some (.int .i64 t267) := (blk_cell BK272.out 0).trans rfl
             have hcz258_1 : wc.cell? ⟨gb272, 1, none⟩ = some (.slice Ao72 t268.length co72) := (blk_cell BK272.out 1).trans rfl
             have hfz258_0 := blk_frozen BK272.out 0; have hfz258_1 := blk_frozen BK272.out 1
             go_wp2_with (first | ((with_reducible refine gate_callee (f := 25) rfl ?_); refine goesL_ (some 85) rfl rfl Tryd.func25 (by kernel_rfl) rfl #[.agg #[.int .i64 t267, .slice Ao72 t268.length co72], .int .i64 1] rfl ma_ ?_; (with_reducible refine (laws_markWhole.calls kj107 t267 (fun k_ => some k_ = (.slice Ao72 t268.length co72 : Value).ownBlock) (.slice Ao72 t268.length co72) t268 1 t289 t290 w _ ?side1 ?side2 A158.out).mono ?_); (case side1 => repeat (first | (with_reducible first | exact HB.out | apply below_alloc | apply pw_below_drewN | apply below_drew1 | refine below_set ?_ GE239.out | refine below_set ?_ GE240.out | refine below_set ?_ GE256.out | refine below_set ?_ GE261.out | refine below_set ?_ GE266.out | refine below_set ?_ GE272.out) | exact HB.out)); (case side2 => exact Kd.R_tight rfl HO_273001.out); rintro e w259 ⟨rfl, hy0, hb, hkp⟩; refine ⟨_, rfl, ?_⟩; have n0_ := am_ (Kd.R_mono (ok' := fun k_ => some k_ ≠ (.slice Ao52 t285.length co52 : Value).ownBlock ∧ some k_ ≠ (.slice Ao62 t287.length co62 : Value).ownBlock ∧ some k_ ≠ (.slice Ao72 t268.length co72 : Value).ownBlock) (Kd.R_keptB (HO_257001.out) hkp (fun k_ hk_ hs_ => (hk_.2.2) hs_)) (fun k_ hk_ => ⟨hk_.1.1, hk_.1.2.1, hk_.1.2.2⟩)); have n1_ := am_ (Kd.R_mono (ok' := fun k_ => some k_ ≠ (.slice Ao42 t252.length co42 : Value).ownBlock ∧ some k_ ≠ (.slice Ao62 t287.length co62 : Value).ownBlock ∧ some k_ ≠ (.slice Ao72 t268.length co72 : Value).ownBlock) (Kd.R_keptB (HO_262001.out) hkp (fun k_ hk_ hs_ => (hk_.2.2) hs_)) (fun k_ hk_ => ⟨hk_.1.1, hk_.1.2.1, hk_.1.2.2⟩)); have n2_ := am_ (Kd.R_mono (ok' := fun k_ => some k_ ≠ (.slice Ao42 t252.length co42 : Value).ownBlock ∧ some k_ ≠ (.slice Ao52 t285.length co52 : Value).ownBlock ∧ some k_ ≠ (.slice Ao72 t268.length co72 : Value).ownBlock) (Kd.R_keptB (HO_267001.out) hkp (fun k_ hk_ hs_ => (hk_.2.2) hs_)) (fun k_ hk_ => ⟨hk_.1.1, hk_.1.2.1, hk_.1.2.2⟩)); have n3_ := am_ (Kd.R_reok rfl hy0 (fun k_ e_ => HO_273001.out.1 k_ e_)); have n4_ := am_ (blk_kept (bk_ BK239) hkp (fun hs_ => (fun e_ => (Kd.R_ne HO_273001.out BK239.out (by decide)) e_) hs_)); have n5_ := am_ (blk_kept (bk_ BK240) hkp (fun hs_ => (fun e_ => (Kd.R_ne HO_273001.out BK240.out (by decide)) e_) hs_)); have n6_ := am_ (blk_kept (bk_ BK256) hkp (fun hs_ => (fun e_ => (Kd.R_ne HO_273001.out BK256.out (by decide)) e_) hs_)); have n7_ := am_ (blk_kept (bk_ BK261) hkp (fun hs_ => (fun e_ => (Kd.R_ne HO_273001.out BK261.out (by decide)) e_) hs_)); have n8_ := am_ (blk_kept (bk_ BK266) hkp (fun hs_ => (fun e_ => (Kd.R_ne HO_273001.out BK266.out (by decide)) e_) hs_)); have n9_ := am_ (blk_kept (bk_ BK272) hkp (fun hs_ => (fun e_ => (Kd.R_ne HO_273001.out BK272.out (by decide)) e_) hs_)); have n10_ := am_ (hb); clear HO_257001; clear HO_262001; clear HO_267001; clear HO_273001; clear BK239; clear BK240; clear BK256; clear BK261; clear BK266; clear BK272; clear HB; have HO_257001 := n0_; have HO_262001 := n1_; have HO_267001 := n2_; have HO_273001 := n3_; have BK239 := n4_; have BK240 := n5_; have BK256 := n6_; have BK261 := n7_; have BK266 := n8_; have BK272 := n9_; have HB := n10_; clear n0_ n1_ n2_ n3_ n4_ n5_ n6_ n7_ n8_ n9_ n10_; (try clear hb); (try clear hkp); (try clear hy0); have hcz260_0 : w259.cell? ⟨gb272, 0, none⟩ = some (.int .i64 t267) := (blk_cell BK272.out 0).trans rfl; have hcz260_1 : w259.cell? ⟨gb272, 1, none⟩ = some (.slice Ao72 t268.length co72) := (blk_cell BK272.out 1).trans rfl; have hfz260_0 := blk_frozen BK272.out 0; have hfz260_1 := blk_frozen BK272.out 1) | ((with_reducible refine gate_callee (f := 26) rfl ?_); refine goesL_ (some 88) rfl rfl Tryd.func26 (by kernel_rfl) rfl #[.agg #[.int .i64 t267, .slice Ao72 t290.length co72], .int .i64 1] rfl (by (try simp only [List.map_toArray, List.map_cons, List.map_nil]); first | done | (rw [show t290.length = t268.length from (Kd.R_reads' HO_273001.out).1.symm] <;> rfl) | rfl | (simp only [List.length_drop, List.length_take]; rfl)) ?_; (with_reducible refine (laws_heldWhole.calls kj107 t267 _ _ t290 1 t291 _ ?side1 ?side2 A159.out).mono ?_); (case side1 => repeat (first | exact (Kd.R_reads' HO_273001.out).2.2 | (with_reducible refine Kd.C_alloc ?_ _) | (with_reducible refine Kd.C_drewN ?_ _) | (with_reducible refine Kd.C_drew ?_))); (case side2 => rw [show t290.length = t268.length from (Kd.R_reads' HO_273001.out).1.symm]; exact (Kd.R_reads' HO_273001.out).2.1); rintro e w261 ⟨rfl, hb⟩; refine ⟨_, rfl, ?_⟩; have n0_ := am_ (Kd.R_below (kr_ HO_257001) hb); have n1_ := am_ (Kd.R_below (kr_ HO_262001) hb); have n2_ := am_ (Kd.R_below (kr_ HO_267001) hb); have n3_ := am_ (Kd.R_below (kr_ HO_273001) hb); have n4_ := am_ (blk_below (bk_ BK239) hb); have n5_ := am_ (blk_below (bk_ BK240) hb); have n6_ := am_ (blk_below (bk_ BK256) hb); have n7_ := am_ (blk_below (bk_ BK261) hb); have n8_ := am_ (blk_below (bk_ BK266) hb); have n9_ := am_ (blk_below (bk_ BK272) hb); have n10_ := am_ (below_step (bl_ HB) hb); clear HO_257001; clear HO_262001; clear HO_267001; clear HO_273001; clear BK239; clear BK240; clear BK256; clear BK261; clear BK266; clear BK272; clear HB; have HO_257001 := n0_; have HO_262001 := n1_; have HO_267001 := n2_; have HO_273001 := n3_; have BK239 := n4_; have BK240 := n5_; have BK256 := n6_; have BK261 := n7_; have BK266 := n8_; have BK272 := n9_; have HB := n10_; clear n0_ n1_ n2_ n3_ n4_ n5_ n6_ n7_ n8_ n9_ n10_; (try clear hb); (try clear hb2); (try clear hk); (try clear hi)))
             go_ret
             exact ⟨by first | rfl | (simp [errW_none, errW_some] <;> rfl) | (simp [*, errW_none, errW_some] <;> rfl), bl_ HB⟩
       ·replace c105 := Bool.eq_false_iff.mpr c105
        subst c105
        have H1 : (some false) = some r := by rw [if_neg (show ¬ (false = true) by decide)] at H; exact H
        clear H; have H := H1; clear H1; obtain rfl := Option.some.inj H
        try go_wp2
        have n0_ := am_ (Kd.R_drew HO_257001.out); have n1_ := am_ (Kd.R_drew HO_262001.out); have n2_ := am_ (Kd.R_drew HO_267001.out); have n3_ := am_ (Kd.R_drew HO_273001.out); have n4_ := am_ (blk_drew BK239.out); have n5_ := am_ (blk_drew BK240.out); have n6_ := am_ (blk_drew BK256.out); have n7_ := am_ (blk_drew BK261.out); have n8_ := am_ (blk_drew BK266.out); have n9_ := am_ (blk_drew BK272.out); have n10_ := am_ (below_drew1 HB.out); clear HO_257001 HO_262001 HO_267001 HO_273001 BK239 BK240 BK256 BK261 BK266 BK272 HB; have HO_257001 := n0_; have HO_262001 := n1_; have HO_267001 := n2_; have HO_273001 := n3_; have BK239 := n4_; have BK240 := n5_; have BK256 := n6_; have BK261 := n7_; have BK266 := n8_; have BK272 := n9_; have HB := n10_; clear n0_ n1_ n2_ n3_ n4_ n5_ n6_ n7_ n8_ n9_ n10_
        refine start_ (n := 5) (S := fun w' => w'.cell? ⟨gb261, 0, none⟩ = some (.int .i64 t257) ∧ w'.cell? ⟨gb261, 1, none⟩ = some (.slice Ao52 t258.length co52) ∧ w'.cell? ⟨gb239, 0, none⟩ = some (.int .i64 a0_0) ∧ w'.cell? ⟨gb239, 1, none⟩ = some (.slice A0_1 l0_1.length c0_1)) (ds := []) #[false, false, false, false, false] (by kernel_rfl) rfl rfl ⟨(blk_cell BK261.out 0).trans rfl, (blk_cell BK261.out 1).trans rfl, (blk_cell BK239.out 0).trans rfl, (blk_cell BK239.out 1).trans rfl⟩ (fun hHeld => ?_)
        generalize wc.drew = w262 at HO_257001 HO_262001 HO_267001 HO_273001 BK239 BK240 BK256 BK261 BK266 BK272 HB hHeld ⊢
        refine take_ (i := 0) (N := some 54) (v := ?_) (a' := ?_) #[true, false, false, false, false] rfl rfl (by kernel_rfl) (fun _ _ _ h => h) (Or.inl ⟨by rfl, ?_⟩) hHeld ?_ ?_
        rotate_left
        ·rintro w' ⟨s0, s1, s2, s3⟩
         go_simp
         with_reducible rfl
        rotate_left
        ·exact nm_
        refine take_ (i := 1) (N := some 55) (v := ?_) (a' := ?_) #[true, true, false, false, false] rfl rfl (by kernel_rfl) (fun _ _ _ h => h) (Or.inl ⟨by rfl, ?_⟩) hHeld ?_ ?_
        rotate_left
        ·rintro w' ⟨s0, s1, s2, s3⟩
         go_simp
         with_reducible rfl
        rotate_left
        ·exact nm_
        refine one_ (i := 2) (N := some 56) #[true, true, true, false, false] rfl rfl (by kernel_rfl) (by decide) (fun K hK => ?_)
        refine goes_ Tryd.func20 (by kernel_rfl) rfl #[.agg #[.int .i64 a0_0, .slice A0_1 l0_1.length c0_1]] (by rfl) rfl rfl ma_ ?_
        with_reducible refine (laws_toWhole.calls kj24 a0_0 _ _ l0_1 t274 t275 _ ?side1 ?side2 A100.out).mono ?_
        (case side1 => repeat (first | exact (Kd.C_below HR0_1.out HB.out) | (with_reducible refine Kd.C_alloc ?_ _) | (with_reducible refine Kd.C_drewN ?_ _) | (with_reducible refine Kd.C_drew ?_)))
        (case side2 => exact HC0_1.out)
        rintro e w263 ⟨v276, rfl, ho0, hb⟩
        refine ⟨_, rfl, ?_⟩
        have n0_ := am_ (Kd.R_elder' (kr_ HO_257001) (Kd.R_base ho0) hb); have n1_ := am_ (Kd.R_elder' (kr_ HO_262001) (Kd.R_base ho0) hb); have n2_ := am_ (Kd.R_elder' (kr_ HO_267001) (Kd.R_base ho0) hb); have n3_ := am_ (Kd.R_elder' (kr_ HO_273001) (Kd.R_base ho0) hb); have n4_ := am_ (Kd.R_lower (Kd.R_new' (Kd.R_new' (Kd.R_new' (Kd.R_new' ho0 (Kd.R_lt (kr_ HO_257001))) (Kd.R_lt (kr_ HO_262001))) (Kd.R_lt (kr_ HO_267001))) (Kd.R_lt (kr_ HO_273001))) (below_size (bl_ HB))); have n5_ := am_ (blk_below (bk_ BK239) hb); have n6_ := am_ (blk_below (bk_ BK240) hb); have n7_ := am_ (blk_below (bk_ BK256) hb); have n8_ := am_ (blk_below (bk_ BK261) hb); have n9_ := am_ (blk_below (bk_ BK266) hb); have n10_ := am_ (blk_below (bk_ BK272) hb); have n11_ := am_ (below_step (bl_ HB) hb); clear HO_257001 HO_262001 HO_267001 HO_273001 BK239 BK240 BK256 BK261 BK266 BK272 HB; have HO_257001 := n0_; have HO_262001 := n1_; have HO_267001 := n2_; have HO_273001 := n3_; have HO277 := n4_; have BK239 := n5_; have BK240 := n6_; have BK256 := n7_; have BK261 := n8_; have BK266 := n9_; have BK272 := n10_; have HB := n11_; clear n0_ n1_ n2_ n3_ n4_ n5_ n6_ n7_ n8_ n9_ n10_ n11_; (try clear hb); (try clear hb2); (try clear hk); (try clear hi); (try clear ho0)
        obtain ⟨Ao264, co264, eo264⟩ := Kd.R_slice HO277.out
        (first | subst eo264 | (injection eo264 with f1_ f2_ f3_; have f4_ := f1_.symm; have f5_ := f3_.symm; clear f1_ f2_ f3_; subst f4_; subst f5_))
        refine hK.out _ _ ⟨(blk_cell BK261.out 0).trans rfl, (blk_cell BK261.out 1).trans rfl, (blk_cell BK239.out 0).trans rfl, (blk_cell BK239.out 1).trans rfl⟩ (fun hHeld => ?_)
        clear hK K
        refine norm_ (a' := ?_) ?_ ?_
        rotate_left
        ·show Act.put _ (some 56) _ = _
         exact nm_
        refine one_ (i := 3) (N := some 57) #[true, true, true, true, false] rfl rfl (by kernel_rfl) (by decide) (fun K hK => ?_)
        refine goes_ Tryd.func22 (by kernel_rfl) rfl #[.agg #[.int .i64 t257, .slice Ao52 t258.length co52], .agg #[.int .i64 t274, .slice Ao264 t275.length co264]] (by rfl) rfl rfl ma_ ?_
        with_reducible refine (laws_eqWhole.calls kj24 t257 _ _ t258 t274 _ _ t275 true _ ?side1 ?side2 ?side3 ?side4 A101.out).mono ?_
        (case side1 => repeat (first | exact (Kd.R_reads' HO_262001.out).2.2 | (with_reducible refine Kd.C_alloc ?_ _) | (with_reducible refine Kd.C_drewN ?_ _) | (with_reducible refine Kd.C_drew ?_)))
        (case side2 => exact (Kd.R_reads' HO_262001.out).2.1)
        (case side3 => repeat (first | exact (Kd.R_reads' HO277.out).2.2 | (with_reducible refine Kd.C_alloc ?_ _) | (with_reducible refine Kd.C_drewN ?_ _) | (with_reducible refine Kd.C_drew ?_)))
        (case side4 => exact (Kd.R_reads' HO277.out).2.1)
        rintro e w265 ⟨rfl, hb⟩
        refine ⟨_, rfl, ?_⟩
        have n0_ := am_ (Kd.R_below (kr_ HO_257001) hb); have n1_ := am_ (Kd.R_below (kr_ HO_262001) hb); have n2_ := am_ (Kd.R_below (kr_ HO_267001) hb); have n3_ := am_ (Kd.R_below (kr_ HO_273001) hb); have n4_ := am_ (Kd.R_below (kr_ HO277) hb); have n5_ := am_ (blk_below (bk_ BK239) hb); have n6_ := am_ (blk_below (bk_ BK240) hb); have n7_ := am_ (blk_below (bk_ BK256) hb); have n8_ := am_ (blk_below (bk_ BK261) hb); have n9_ := am_ (blk_below (bk_ BK266) hb); have n10_ := am_ (blk_below (bk_ BK272) hb); have n11_ := am_ (below_step (bl_ HB) hb); clear HO_257001 HO_262001 HO_267001 HO_273001 HO277 BK239 BK240 BK256 BK261 BK266 BK272 HB; have HO_257001 := n0_; have HO_262001 := n1_; have HO_267001 := n2_; have HO_273001 := n3_; have HO277 := n4_; have BK239 := n5_; have BK240 := n6_; have BK256 := n7_; have BK261 := n8_; have BK266 := n9_; have BK272 := n10_; have HB := n11_; clear n0_ n1_ n2_ n3_ n4_ n5_ n6_ n7_ n8_ n9_ n10_ n11_; (try clear hb); (try clear hb2); (try clear hk); (try clear hi)
        refine hK.out _ _ ⟨(blk_cell BK261.out 0).trans rfl, (blk_cell BK261.out 1).trans rfl, (blk_cell BK239.out 0).trans rfl, (blk_cell BK239.out 1).trans rfl⟩ (fun hHeld => ?_)
        clear hK K
        refine norm_ (a' := ?_) ?_ ?_
        rotate_left
        ·show Act.put _ (some 57) _ = _
         exact nm_
        refine pure_ (i := 4) (N := some 58) (v := ?_) (a' := ?_) #[true, true, true, true, true] rfl rfl (by kernel_rfl) (fun _ _ _ h => h) (Or.inl ⟨by rfl, ?_⟩) ?_ ?_
        rotate_left
        ·intro w'
         go_simp
         with_reducible rfl
        rotate_left
        ·exact nm_
        refine done_ (by kernel_rfl) ?_
        try go_wp2
        have n0_ := am_ (Kd.R_drew HO_257001.out); have n1_ := am_ (Kd.R_drew HO_262001.out); have n2_ := am_ (Kd.R_drew HO_267001.out); have n3_ := am_ (Kd.R_drew HO_273001.out); have n4_ := am_ (Kd.R_drew HO277.out); have n5_ := am_ (blk_drew BK239.out); have n6_ := am_ (blk_drew BK240.out); have n7_ := am_ (blk_drew BK256.out); have n8_ := am_ (blk_drew BK261.out); have n9_ := am_ (blk_drew BK266.out); have n10_ := am_ (blk_drew BK272.out); have n11_ := am_ (below_drew1 HB.out); clear HO_257001 HO_262001 HO_267001 HO_273001 HO277 BK239 BK240 BK256 BK261 BK266 BK272 HB; have HO_257001 := n0_; have HO_262001 := n1_; have HO_267001 := n2_; have HO_273001 := n3_; have HO277 := n4_; have BK239 := n5_; have BK240 := n6_; have BK256 := n7_; have BK261 := n8_; have BK266 := n9_; have BK272 := n10_; have HB := n11_; clear n0_ n1_ n2_ n3_ n4_ n5_ n6_ n7_ n8_ n9_ n10_ n11_
        refine start_ (n := 5) (S := fun w' => w'.cell? ⟨gb266, 0, none⟩ = some (.int .i64 t262) ∧ w'.cell? ⟨gb266, 1, none⟩ = some (.slice Ao62 t263.length co62) ∧ w'.cell? ⟨gb240, 0, none⟩ = some (.int .i64 a1_0) ∧ w'.cell? ⟨gb240, 1, none⟩ = some (.slice A1_1 l1_1.length c1_1)) (ds := []) #[false, false, false, false, false] (by kernel_rfl) rfl rfl ⟨(blk_cell BK266.out 0).trans rfl, (blk_cell BK266.out 1).trans rfl, (blk_cell BK240.out 0).trans rfl, (blk_cell BK240.out 1).trans rfl⟩ (fun hHeld => ?_)
        generalize w265.drew = w266 at HO_257001 HO_262001 HO_267001 HO_273001 HO277 BK239 BK240 BK256 BK261 BK266 BK272 HB hHeld ⊢
        refine take_ (i := 0) (N := some 59) (v := ?_) (a' := ?_) #[true, false, false, false, false] rfl rfl (by kernel_rfl) (fun _ _ _ h => h) (Or.inl ⟨by rfl, ?_⟩) hHeld ?_ ?_
        rotate_left
        ·rintro w' ⟨s0, s1, s2, s3⟩
         go_simp
         with_reducible rfl
        rotate_left
        ·exact nm_
        refine take_ (i := 1) (N := some 60) (v := ?_) (a' := ?_) #[true, true, false, false, false] rfl rfl (by kernel_rfl) (fun _ _ _ h => h) (Or.inl ⟨by rfl, ?_⟩) hHeld ?_ ?_
        rotate_left
        ·rintro w' ⟨s0, s1, s2, s3⟩
         go_simp
         with_reducible rfl
        rotate_left
        ·exact nm_
        refine one_ (i := 2) (N := some 61) #[true, true, true, false, false] rfl rfl (by kernel_rfl) (by decide) (fun K hK => ?_)
        refine goes_ Tryd.func20 (by kernel_rfl) rfl #[.agg #[.int .i64 a1_0, .slice A1_1 l1_1.length c1_1]] (by rfl) rfl rfl ma_ ?_
        with_reducible refine (laws_toWhole.calls kj24 a1_0 _ _ l1_1 t279 t280 _ ?side1 ?side2 A103.out).mono ?_
        (case side1 => repeat (first | exact (Kd.C_below HR1_1.out HB.out) | (with_reducible refine Kd.C_alloc ?_ _) | (with_reducible refine Kd.C_drewN ?_ _) | (with_reducible refine Kd.C_drew ?_)))
        (case side2 => exact HC1_1.out)
        rintro e w267 ⟨v281, rfl, ho0, hb⟩
        refine ⟨_, rfl, ?_⟩
        have n0_ := am_ (Kd.R_elder' (kr_ HO_257001) (Kd.R_base ho0) hb); have n1_ := am_ (Kd.R_elder' (kr_ HO_262001) (Kd.R_base ho0) hb); have n2_ := am_ (Kd.R_elder' (kr_ HO_267001) (Kd.R_base ho0) hb); have n3_ := am_ (Kd.R_elder' (kr_ HO_273001) (Kd.R_base ho0) hb); have n4_ := am_ (Kd.R_elder' (kr_ HO277) (Kd.R_base ho0) hb); have n5_ := am_ (Kd.R_lower (Kd.R_new' (Kd.R_new' (Kd.R_new' (Kd.R_new' (Kd.R_new' ho0 (Kd.R_lt (kr_ HO_257001))) (Kd.R_lt (kr_ HO_262001))) (Kd.R_lt (kr_ HO_267001))) (Kd.R_lt (kr_ HO_273001))) (Kd.R_lt (kr_ HO277))) (below_size (bl_ HB))); have n6_ := am_ (blk_below (bk_ BK239) hb); have n7_ := am_ (blk_below (bk_ BK240) hb); have n8_ := am_ (blk_below (bk_ BK256) hb); have n9_ := am_ (blk_below (bk_ BK261) hb); have n10_ := am_ (blk_below (bk_ BK266) hb); have n11_ := am_ (blk_below (bk_ BK272) hb); have n12_ := am_ (below_step (bl_ HB) hb); clear HO_257001 HO_262001 HO_267001 HO_273001 HO277 BK239 BK240 BK256 BK261 BK266 BK272 HB; have HO_257001 := n0_; have HO_262001 := n1_; have HO_267001 := n2_; have HO_273001 := n3_; have HO277 := n4_; have HO282 := n5_; have BK239 := n6_; have BK240 := n7_; have BK256 := n8_; have BK261 := n9_; have BK266 := n10_; have BK272 := n11_; have HB := n12_; clear n0_ n1_ n2_ n3_ n4_ n5_ n6_ n7_ n8_ n9_ n10_ n11_ n12_; (try clear hb); (try clear hb2); (try clear hk); (try clear hi); (try clear ho0)
        obtain ⟨Ao268, co268, eo268⟩ := Kd.R_slice HO282.out
        (first | subst eo268 | (injection eo268 with f1_ f2_ f3_; have f4_ := f1_.symm; have f5_ := f3_.symm; clear f1_ f2_ f3_; subst f4_; subst f5_))
        refine hK.out _ _ ⟨(blk_cell BK266.out 0).trans rfl, (blk_cell BK266.out 1).trans rfl, (blk_cell BK240.out 0).trans rfl, (blk_cell BK240.out 1).trans rfl⟩ (fun hHeld => ?_)
        clear hK K
        refine norm_ (a' := ?_) ?_ ?_
        rotate_left
        ·show Act.put _ (some 61) _ = _
         exact nm_
        refine one_ (i := 3) (N := some 62) #[true, true, true, true, false] rfl rfl (by kernel_rfl) (by decide) (fun K hK => ?_)
        refine goes_ Tryd.func22 (by kernel_rfl) rfl #[.agg #[.int .i64 t262, .slice Ao62 t263.length co62], .agg #[.int .i64 t279, .slice Ao268 t280.length co268]] (by rfl) rfl rfl ma_ ?_
        with_reducible refine (laws_eqWhole.calls kj24 t262 _ _ t263 t279 _ _ t280 false _ ?side1 ?side2 ?side3 ?side4 A104.out).mono ?_
        (case side1 => repeat (first | exact (Kd.R_reads' HO_267001.out).2.2 | (with_reducible refine Kd.C_alloc ?_ _) | (with_reducible refine Kd.C_drewN ?_ _) | (with_reducible refine Kd.C_drew ?_)))
        (case side2 => exact (Kd.R_reads' HO_267001.out).2.1)
        (case side3 => repeat (first | exact (Kd.R_reads' HO282.out).2.2 | (with_reducible refine Kd.C_alloc ?_ _) | (with_reducible refine Kd.C_drewN ?_ _) | (with_reducible refine Kd.C_drew ?_)))
        (case side4 => exact (Kd.R_reads' HO282.out).2.1)
        rintro e w269 ⟨rfl, hb⟩
        refine ⟨_, rfl, ?_⟩
        have n0_ := am_ (Kd.R_below (kr_ HO_257001) hb); have n1_ := am_ (Kd.R_below (kr_ HO_262001) hb); have n2_ := am_ (Kd.R_below (kr_ HO_267001) hb); have n3_ := am_ (Kd.R_below (kr_ HO_273001) hb); have n4_ := am_ (Kd.R_below (kr_ HO277) hb); have n5_ := am_ (Kd.R_below (kr_ HO282) hb); have n6_ := am_ (blk_below (bk_ BK239) hb); have n7_ := am_ (blk_below (bk_ BK240) hb); have n8_ := am_ (blk_below (bk_ BK256) hb); have n9_ := am_ (blk_below (bk_ BK261) hb); have n10_ := am_ (blk_below (bk_ BK266) hb); have n11_ := am_ (blk_below (bk_ BK272) hb); have n12_ := am_ (below_step (bl_ HB) hb); clear HO_257001 HO_262001 HO_267001 HO_273001 HO277 HO282 BK239 BK240 BK256 BK261 BK266 BK272 HB; have HO_257001 := n0_; have HO_262001 := n1_; have HO_267001 := n2_; have HO_273001 := n3_; have HO277 := n4_; have HO282 := n5_; have BK239 := n6_; have BK240 := n7_; have BK256 := n8_; have BK261 := n9_; have BK266 := n10_; have BK272 := n11_; have HB := n12_; clear n0_ n1_ n2_ n3_ n4_ n5_ n6_ n7_ n8_ n9_ n10_ n11_ n12_; (try clear hb); (try clear hb2); (try clear hk); (try clear hi)
        refine hK.out _ _ ⟨(blk_cell BK266.out 0).trans rfl, (blk_cell BK266.out 1).trans rfl, (blk_cell BK240.out 0).trans rfl, (blk_cell BK240.out 1).trans rfl⟩ (fun hHeld => ?_)
        clear hK K
        refine norm_ (a' := ?_) ?_ ?_
        rotate_left
        ·show Act.put _ (some 62) _ = _
         exact nm_
        refine pure_ (i := 4) (N := some 63) (v := ?_) (a' := ?_) #[true, true, true, true, true] rfl rfl (by kernel_rfl) (fun _ _ _ h => h) (Or.inl ⟨by rfl, ?_⟩) ?_ ?_
        rotate_left
        ·intro w'
         go_simp
         with_reducible rfl
        rotate_left
        ·exact nm_
        refine done_ (by kernel_rfl) ?_
        try go_wp2
        go_ret
        exact ⟨by first | rfl | (simp [errW_none, errW_some] <;> rfl) | (simp [*, errW_none, errW_some] <;> rfl), bl_ HB⟩
      ·replace c102 := Bool.eq_false_iff.mpr c102
       subst c102
       have H1 : (some false) = some r := by rw [if_neg (show ¬ (false = true) by decide)] at H; exact H
       clear H; have H := H1; clear H1; obtain rfl := Option.some.inj H
       try go_wp2
       have n0_ := am_ (Kd.R_drew HO_257001.out); have n1_ := am_ (Kd.R_drew HO_262001.out); have n2_ := am_ (Kd.R_drew HO_267001.out); have n3_ := am_ (Kd.R_drew HO_273001.out); have n4_ := am_ (blk_drew BK239.out); have n5_ := am_ (blk_drew BK240.out); have n6_ := am_ (blk_drew BK256.out); have n7_ := am_ (blk_drew BK261.out); have n8_ := am_ (blk_drew BK266.out); have n9_ := am_ (blk_drew BK272.out); have n10_ := am_ (below_drew1 HB.out); clear HO_257001 HO_262001 HO_267001 HO_273001 BK239 BK240 BK256 BK261 BK266 BK272 HB; have HO_257001 := n0_; have HO_262001 := n1_; have HO_267001 := n2_; have HO_273001 := n3_; have BK239 := n4_; have BK240 := n5_; have BK256 := n6_; have BK261 := n7_; have BK266 := n8_; have BK272 := n9_; have HB := n10_; clear n0_ n1_ n2_ n3_ n4_ n5_ n6_ n7_ n8_ n9_ n10_
       refine start_ (n := 5) (S := fun w' => w'.cell? ⟨gb261, 0, none⟩ = some (.int .i64 t257) ∧ w'.cell? ⟨gb261, 1, none⟩ = some (.slice Ao52 t258.length co52) ∧ w'.cell? ⟨gb239, 0, none⟩ = some (.int .i64 a0_0) ∧ w'.cell? ⟨gb239, 1, none⟩ = some (.slice A0_1 l0_1.length c0_1)) (ds := []) #[false, false, false, false, false] (by kernel_rfl) rfl rfl ⟨(blk_cell BK261.out 0).trans rfl, (blk_cell BK261.out 1).trans rfl, (blk_cell BK239.out 0).trans rfl, (blk_cell BK239.out 1).trans rfl⟩ (fun hHeld => ?_)
       generalize wc.drew = w270 at HO_257001 HO_262001 HO_267001 HO_273001 BK239 BK240 BK256 BK261 BK266 BK272 HB hHeld ⊢
       refine take_ (i := 0) (N := some 54) (v := ?_) (a' := ?_) #[true, false, false, false, false] rfl rfl (by kernel_rfl) (fun _ _ _ h => h) (Or.inl ⟨by rfl, ?_⟩) hHeld ?_ ?_
       rotate_left
       ·rintro w' ⟨s0, s1, s2, s3⟩
        go_simp
        with_reducible rfl
       rotate_left
       ·exact nm_
       refine take_ (i := 1) (N := some 55) (v := ?_) (a' := ?_) #[true, true, false, false, false] rfl rfl (by kernel_rfl) (fun _ _ _ h => h) (Or.inl ⟨by rfl, ?_⟩) hHeld ?_ ?_
       rotate_left
       ·rintro w' ⟨s0, s1, s2, s3⟩
        go_simp
        with_reducible rfl
       rotate_left
       ·exact nm_
       refine one_ (i := 2) (N := some 56) #[true, true, true, false, false] rfl rfl (by kernel_rfl) (by decide) (fun K hK => ?_)
       refine goes_ Tryd.func20 (by kernel_rfl) rfl #[.agg #[.int .i64 a0_0, .slice A0_1 l0_1.length c0_1]] (by rfl) rfl rfl ma_ ?_
       with_reducible refine (laws_toWhole.calls kj24 a0_0 _ _ l0_1 t274 t275 _ ?side1 ?side2 A100.out).mono ?_
       (case side1 => repeat (first | exact (Kd.C_below HR0_1.out HB.out) | (with_reducible refine Kd.C_alloc ?_ _) | (with_reducible refine Kd.C_drewN ?_ _) | (with_reducible refine Kd.C_drew ?_)))
       (case side2 => exact HC0_1.out)
       rintro e w271 ⟨v276, rfl, ho0, hb⟩
       refine ⟨_, rfl, ?_⟩
       have n0_ := am_ (Kd.R_elder' (kr_ HO_257001) (Kd.R_base ho0) hb); have n1_ := am_ (Kd.R_elder' (kr_ HO_262001) (Kd.R_base ho0) hb); have n2_ := am_ (Kd.R_elder' (kr_ HO_267001) (Kd.R_base ho0) hb); have n3_ := am_ (Kd.R_elder' (kr_ HO_273001) (Kd.R_base ho0) hb); have n4_ := am_ (Kd.R_lower (Kd.R_new' (Kd.R_new' (Kd.R_new' (Kd.R_new' ho0 (Kd.R_lt (kr_ HO_257001))) (Kd.R_lt (kr_ HO_262001))) (Kd.R_lt (kr_ HO_267001))) (Kd.R_lt (kr_ HO_273001))) (below_size (bl_ HB))); have n5_ := am_ (blk_below (bk_ BK239) hb); have n6_ := am_ (blk_below (bk_ BK240) hb); have n7_ := am_ (blk_below (bk_ BK256) hb); have n8_ := am_ (blk_below (bk_ BK261) hb); have n9_ := am_ (blk_below (bk_ BK266) hb); have n10_ := am_ (blk_below (bk_ BK272) hb); have n11_ := am_ (below_step (bl_ HB) hb); clear HO_257001 HO_262001 HO_267001 HO_273001 BK239 BK240 BK256 BK261 BK266 BK272 HB; have HO_257001 := n0_; have HO_262001 := n1_; have HO_267001 := n2_; have HO_273001 := n3_; have HO277 := n4_; have BK239 := n5_; have BK240 := n6_; have BK256 := n7_; have BK261 := n8_; have BK266 := n9_; have BK272 := n10_; have HB := n11_; clear n0_ n1_ n2_ n3_ n4_ n5_ n6_ n7_ n8_ n9_ n10_ n11_; (try clear hb); (try clear hb2); (try clear hk); (try clear hi); (try clear ho0)
       obtain ⟨Ao272, co272, eo272⟩ := Kd.R_slice HO277.out
       (first | subst eo272 | (injection eo272 with f1_ f2_ f3_; have f4_ := f1_.symm; have f5_ := f3_.symm; clear f1_ f2_ f3_; subst f4_; subst f5_))
       refine hK.out _ _ ⟨(blk_cell BK261.out 0).trans rfl, (blk_cell BK261.out 1).trans rfl, (blk_cell BK239.out 0).trans rfl, (blk_cell BK239.out 1).trans rfl⟩ (fun hHeld => ?_)
       clear hK K
       refine norm_ (a' := ?_) ?_ ?_
       rotate_left
       ·show Act.put _ (some 56) _ = _
        exact nm_
       refine one_ (i := 3) (N := some 57) #[true, true, true, true, false] rfl rfl (by kernel_rfl) (by decide) (fun K hK => ?_)
       refine goes_ Tryd.func22 (by kernel_rfl) rfl #[.agg #[.int .i64 t257, .slice Ao52 t258.length co52], .agg #[.int .i64 t274, .slice Ao272 t275.length co272]] (by rfl) rfl rfl ma_ ?_
       with_reducible refine (laws_eqWhole.calls kj24 t257 _ _ t258 t274 _ _ t275 false _ ?side1 ?side2 ?side3 ?side4 A101.out).mono ?_
       (case side1 => repeat (first | exact (Kd.R_reads' HO_262001.out).2.2 | (with_reducible refine Kd.C_alloc ?_ _) | (with_reducible refine Kd.C_drewN ?_ _) | (with_reducible refine Kd.C_drew ?_)))
       (case side2 => exact (Kd.R_reads' HO_262001.out).2.1)
       (case side3 => repeat (first | exact (Kd.R_reads' HO277.out).2.2 | (with_reducible refine Kd.C_alloc ?_ _) | (with_reducible refine Kd.C_drewN ?_ _) | (with_reducible refine Kd.C_drew ?_)))
       (case side4 => exact (Kd.R_reads' HO277.out).2.1)
       rintro e w273 ⟨rfl, hb⟩
       refine ⟨_, rfl, ?_⟩
       have n0_ := am_ (Kd.R_below (kr_ HO_257001) hb); have n1_ := am_ (Kd.R_below (kr_ HO_262001) hb); have n2_ := am_ (Kd.R_below (kr_ HO_267001) hb); have n3_ := am_ (Kd.R_below (kr_ HO_273001) hb); have n4_ := am_ (Kd.R_below (kr_ HO277) hb); have n5_ := am_ (blk_below (bk_ BK239) hb); have n6_ := am_ (blk_below (bk_ BK240) hb); have n7_ := am_ (blk_below (bk_ BK256) hb); have n8_ := am_ (blk_below (bk_ BK261) hb); have n9_ := am_ (blk_below (bk_ BK266) hb); have n10_ := am_ (blk_below (bk_ BK272) hb); have n11_ := am_ (below_step (bl_ HB) hb); clear HO_257001 HO_262001 HO_267001 HO_273001 HO277 BK239 BK240 BK256 BK261 BK266 BK272 HB; have HO_257001 := n0_; have HO_262001 := n1_; have HO_267001 := n2_; have HO_273001 := n3_; have HO277 := n4_; have BK239 := n5_; have BK240 := n6_; have BK256 := n7_; have BK261 := n8_; have BK266 := n9_; have BK272 := n10_; have HB := n11_; clear n0_ n1_ n2_ n3_ n4_ n5_ n6_ n7_ n8_ n9_ n10_ n11_; (try clear hb); (try clear hb2); (try clear hk); (try clear hi)
       refine hK.out _ _ ⟨(blk_cell BK261.out 0).trans rfl, (blk_cell BK261.out 1).trans rfl, (blk_cell BK239.out 0).trans rfl, (blk_cell BK239.out 1).trans rfl⟩ (fun hHeld => ?_)
       clear hK K
       refine norm_ (a' := ?_) ?_ ?_
       rotate_left
       ·show Act.put _ (some 57) _ = _
        exact nm_
       refine pure_ (i := 4) (N := some 58) (v := ?_) (a' := ?_) #[true, true, true, true, true] rfl rfl (by kernel_rfl) (fun _ _ _ h => h) (Or.inl ⟨by rfl, ?_⟩) ?_ ?_
       rotate_left
       ·intro w'
        go_simp
        with_reducible rfl
       rotate_left
       ·exact nm_
       refine done_ (by kernel_rfl) ?_
       try go_wp2
       go_ret
       exact ⟨by first | rfl | (simp [errW_none, errW_some] <;> rfl) | (simp [*, errW_none, errW_some] <;> rfl), bl_ HB⟩

end Go.Proofs.YtbmjakaoniegfaaDoor.X
