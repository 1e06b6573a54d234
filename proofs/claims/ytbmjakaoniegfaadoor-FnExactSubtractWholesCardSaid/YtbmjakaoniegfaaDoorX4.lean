/- Functions of the program as plain Lean functions, each with a proof that its call does what that function says. Printed by a program over the kit's print; conditions stand in each contract. -/
import Derived.Test.YtbmjakaoniegfaaDoorSq
import Derived.Test.YtbmjakaoniegfaaDoorBnd4
import Derived.Test.YtbmjakaoniegfaaDoorX0
import Derived.Test.YtbmjakaoniegfaaDoorX1
import Derived.Test.YtbmjakaoniegfaaDoorX3
namespace Go.Proofs.YtbmjakaoniegfaaDoor.X
open Go.RowKit Go.Proofs.YtbmjakaoniegfaaDoorW.PrintWords Go.Proofs.YtbmjakaoniegfaaDoorW.PrintLast Go.Proofs.YtbmjakaoniegfaaDoorW.PrintMore Go.Proofs.YtbmjakaoniegfaaDoor.Sq
attribute [local go_sem] max2_int min2_int max_two min_two max_three min_three max_four min_four   -- for this text's walks alone
set_option linter.unusedVariables false
set_option linter.unusedSimpArgs false

/-! ### laws_FnExactSubtractWholes: function 10 -/
mutual
def laws_FnExactSubtractWholes.j0 : Nat → Int → Int → Bool → Int → List Int → Int → List Int → Int → List Int → Int → List Int → Int → List Int → Int → List Int → Option (Bool)
  | 0, _, _, _, _, _, _, _, _, _, _, _, _, _, _, _ => none
  | k + 1, x7, x11, x53, x257000, x257001, x258000, x258001, x274000, x274001, x279000, x279001, x284000, x284001, x290000, x290001 => if x53 = true then (some false) else ((laws_toWhole.f k x257000 x257001).bind fun bt291 => ((laws_eqWhole.f k x279000 x279001 bt291.1 bt291.2).bind fun t295 => (if t295 = true then ((laws_toWhole.f k x258000 x258001).bind fun bt296 => ((laws_eqWhole.f k x284000 x284001 bt296.1 bt296.2).bind fun t300 => (if t300 = true then ((laws_markWhole.f k x279000 x279001 1).bind fun bt301 => ((laws_markWhole.f k x284000 x284001 bt301.1).bind fun bt303 => (if bt303.1 < 0 then (laws_FnExactSubtractWholes.j1 k x7 true x257000 x257001 x258000 x258001 x274000 x274001 x290000 x290001) else ((laws_eqWhole.f k x290000 x290001 x274000 x274001).bind fun t305 => (if t305 = true then (laws_FnExactSubtractWholes.j1 k x7 (x11 != x7) x257000 x257001 x258000 x258001 x274000 x274001 x290000 x290001) else (laws_FnExactSubtractWholes.j1 k x7 true x257000 x257001 x258000 x258001 x274000 x274001 x290000 x290001)))))) else (some false)))) else (some false))))
def laws_FnExactSubtractWholes.j1 : Nat → Int → Bool → Int → List Int → Int → List Int → Int → List Int → Int → List Int → Option (Bool)
  | 0, _, _, _, _, _, _, _, _, _, _ => none
  | k + 1, x7, x82, x257000, x257001, x258000, x258001, x274000, x274001, x290000, x290001 => if x82 = true then (some false) else ((laws_markWhole.f k x290000 x290001 1).bind fun bt306 => ((laws_heldWhole.f k x290000 bt306.2 1).bind fun t308 => (if t308 < 0 then (some false) else (if t308 = bt306.1 then ((laws_toWhole.f k x257000 x257001).bind fun bt309 => ((laws_toWhole.f k x258000 x258001).bind fun bt313 => ((impl_SubtractWholes.f bt309.1 bt309.2 bt313.1 bt313.2).bind fun bt317 => ((laws_eqWhole.f k bt317.1 bt317.2.1 x274000 x274001).bind fun t323 => (if t323 = true then (laws_FnExactSubtractWholes.j2 k bt306.1 (bt317.2.2 != x7) x290000 bt306.2) else (laws_FnExactSubtractWholes.j2 k bt306.1 true x290000 bt306.2)))))) else (some false)))))
def laws_FnExactSubtractWholes.j2 : Nat → Int → Bool → Int → List Int → Option (Bool)
  | 0, _, _, _, _ => none
  | k + 1, x13, x110, x290000, x290001 => if x110 = true then (some false) else ((laws_heldWhole.f k x290000 x290001 1).bind fun t324 => (if t324 < 0 then (some false) else (if t324 = x13 then (some true) else (some false))))
end
def laws_FnExactSubtractWholes.f (k : Nat) (a0_0 : Int) (l0_1 : List Int) (a1_0 : Int) (l1_1 : List Int) : Option (Bool) := (laws_szWhole.f a0_0 l0_1 1048576).bind fun t258 => (if t258 < 0 then (some true) else ((laws_szWhole.f a1_0 l1_1 t258).bind fun t259 => (if t259 < 0 then (some true) else ((laws_toWhole.f k a0_0 l0_1).bind fun bt260 => ((laws_toWhole.f k a1_0 l1_1).bind fun bt264 => ((spec_SubtractWholes.f k bt260.1 bt260.2 bt264.1 bt264.2).bind fun bt268 => ((laws_toWhole.f k a0_0 l0_1).bind fun bt274 => ((laws_toWhole.f k a1_0 l1_1).bind fun bt279 => ((impl_SubtractWholes.f bt274.1 bt274.2 bt279.1 bt279.2).bind fun bt284 => ((laws_eqWhole.f k bt284.1 bt284.2.1 bt268.1 bt268.2.1).bind fun t290 => (if t290 = true then (laws_FnExactSubtractWholes.j0 k bt268.2.2 bt284.2.2 (bt284.2.2 != bt268.2.2) a0_0 l0_1 a1_0 l1_1 bt268.1 bt268.2.1 bt274.1 bt274.2 bt279.1 bt279.2 bt284.1 bt284.2.1) else (laws_FnExactSubtractWholes.j0 k bt268.2.2 bt284.2.2 true a0_0 l0_1 a1_0 l1_1 bt268.1 bt268.2.1 bt274.1 bt274.2 bt279.1 bt279.2 bt284.1 bt284.2.1))))))))))))
theorem laws_FnExactSubtractWholes.mono_l : ∀ k, (∀ y0 y1 y2 y3 y4 y5 y6 y7 y8 y9 y10 y11 y12 y13 y14, LeO (laws_FnExactSubtractWholes.j0 k y0 y1 y2 y3 y4 y5 y6 y7 y8 y9 y10 y11 y12 y13 y14) (laws_FnExactSubtractWholes.j0 (k + 1) y0 y1 y2 y3 y4 y5 y6 y7 y8 y9 y10 y11 y12 y13 y14)) ∧ (∀ y0 y1 y2 y3 y4 y5 y6 y7 y8 y9, LeO (laws_FnExactSubtractWholes.j1 k y0 y1 y2 y3 y4 y5 y6 y7 y8 y9) (laws_FnExactSubtractWholes.j1 (k + 1) y0 y1 y2 y3 y4 y5 y6 y7 y8 y9)) ∧ (∀ y0 y1 y2 y3, LeO (laws_FnExactSubtractWholes.j2 k y0 y1 y2 y3) (laws_FnExactSubtractWholes.j2 (k + 1) y0 y1 y2 y3))
  | 0 => ⟨fun _ _ _ _ _ _ _ _ _ _ _ _ _ _ _ r h => by simp [laws_FnExactSubtractWholes.j0] at h, fun _ _ _ _ _ _ _ _ _ _ r h => by simp [laws_FnExactSubtractWholes.j1] at h, fun _ _ _ _ r h => by simp [laws_FnExactSubtractWholes.j2] at h⟩
  | k + 1 => by
    obtain ⟨ih0, ih1, ih2⟩ := laws_FnExactSubtractWholes.mono_l k
    refine ⟨?_, ?_, ?_⟩
    · intro y0 y1 y2 y3 y4 y5 y6 y7 y8 y9 y10 y11 y12 y13 y14
      unfold laws_FnExactSubtractWholes.j0
      repeat' first
      | (with_reducible exact ih0 _ _ _ _ _ _ _ _ _ _ _ _ _ _ _)
      | (with_reducible exact ih1 _ _ _ _ _ _ _ _ _ _)
      | (with_reducible exact ih2 _ _ _ _)
      | (with_reducible exact laws_eqWhole.mono _ _ _ _ _)
      | (with_reducible exact laws_heldWhole.mono _ _ _ _)
      | (with_reducible exact laws_markWhole.mono _ _ _ _)
      | (with_reducible exact laws_toWhole.mono _ _ _)
      | (with_reducible exact spec_SubtractWholes.mono _ _ _ _ _)
      | (with_reducible exact LeO.refl _)
      | (with_reducible exact LeO.none _)
      | (with_reducible refine LeO.ite ?_ ?_)
      | (with_reducible refine LeO.bind ?_ (fun _ => ?_))
      | exact ih0 _ _ _ _ _ _ _ _ _ _ _ _ _ _ _
      | exact ih1 _ _ _ _ _ _ _ _ _ _
      | exact ih2 _ _ _ _
      | exact laws_eqWhole.mono _ _ _ _ _
      | exact laws_heldWhole.mono _ _ _ _
      | exact laws_markWhole.mono _ _ _ _
      | exact laws_toWhole.mono _ _ _
      | exact spec_SubtractWholes.mono _ _ _ _ _
      | exact LeO.none _
      | refine LeO.ite ?_ ?_
      | refine LeO.bind ?_ (fun _ => ?_)
    · intro y0 y1 y2 y3 y4 y5 y6 y7 y8 y9
      unfold laws_FnExactSubtractWholes.j1
      repeat' first
      | (with_reducible exact ih0 _ _ _ _ _ _ _ _ _ _ _ _ _ _ _)
      | (with_reducible exact ih1 _ _ _ _ _ _ _ _ _ _)
      | (with_reducible exact ih2 _ _ _ _)
      | (with_reducible exact laws_eqWhole.mono _ _ _ _ _)
      | (with_reducible exact laws_heldWhole.mono _ _ _ _)
      | (with_reducible exact laws_markWhole.mono _ _ _ _)
      | (with_reducible exact laws_toWhole.mono _ _ _)
      | (with_reducible exact spec_SubtractWholes.mono _ _ _ _ _)
      | (with_reducible exact LeO.refl _)
      | (with_reducible exact LeO.none _)
      | (with_reducible refine LeO.ite ?_ ?_)
      | (with_reducible refine LeO.bind ?_ (fun _ => ?_))
      | exact ih0 _ _ _ _ _ _ _ _ _ _ _ _ _ _ _
      | exact ih1 _ _ _ _ _ _ _ _ _ _
      | exact ih2 _ _ _ _
      | exact laws_eqWhole.mono _ _ _ _ _
      | exact laws_heldWhole.mono _ _ _ _
      | exact laws_markWhole.mono _ _ _ _
      | exact laws_toWhole.mono _ _ _
      | exact spec_SubtractWholes.mono _ _ _ _ _
      | exact LeO.none _
      | refine LeO.ite ?_ ?_
      | refine LeO.bind ?_ (fun _ => ?_)
    · intro y0 y1 y2 y3
      unfold laws_FnExactSubtractWholes.j2
      repeat' first
      | (with_reducible exact ih0 _ _ _ _ _ _ _ _ _ _ _ _ _ _ _)
      | (with_reducible exact ih1 _ _ _ _ _ _ _ _ _ _)
      | (with_reducible exact ih2 _ _ _ _)
      | (with_reducible exact laws_eqWhole.mono _ _ _ _ _)
      | (with_reducible exact laws_heldWhole.mono _ _ _ _)
      | (with_reducible exact laws_markWhole.mono _ _ _ _)
      | (with_reducible exact laws_toWhole.mono _ _ _)
      | (with_reducible exact spec_SubtractWholes.mono _ _ _ _ _)
      | (with_reducible exact LeO.refl _)
      | (with_reducible exact LeO.none _)
      | (with_reducible refine LeO.ite ?_ ?_)
      | (with_reducible refine LeO.bind ?_ (fun _ => ?_))
      | exact ih0 _ _ _ _ _ _ _ _ _ _ _ _ _ _ _
      | exact ih1 _ _ _ _ _ _ _ _ _ _
      | exact ih2 _ _ _ _
      | exact laws_eqWhole.mono _ _ _ _ _
      | exact laws_heldWhole.mono _ _ _ _
      | exact laws_markWhole.mono _ _ _ _
      | exact laws_toWhole.mono _ _ _
      | exact spec_SubtractWholes.mono _ _ _ _ _
      | exact LeO.none _
      | refine LeO.ite ?_ ?_
      | refine LeO.bind ?_ (fun _ => ?_)
theorem laws_FnExactSubtractWholes.mono : ∀ a0 a1 a2 a3 k, LeO (laws_FnExactSubtractWholes.f k a0 a1 a2 a3) (laws_FnExactSubtractWholes.f (k + 1) a0 a1 a2 a3) := by
  intro a0 a1 a2 a3 k
  obtain ⟨ih0, ih1, ih2⟩ := laws_FnExactSubtractWholes.mono_l k
  unfold laws_FnExactSubtractWholes.f
  repeat' first
      | (with_reducible exact ih0 _ _ _ _ _ _ _ _ _ _ _ _ _ _ _)
      | (with_reducible exact ih1 _ _ _ _ _ _ _ _ _ _)
      | (with_reducible exact ih2 _ _ _ _)
      | (with_reducible exact laws_eqWhole.mono _ _ _ _ _)
      | (with_reducible exact laws_heldWhole.mono _ _ _ _)
      | (with_reducible exact laws_markWhole.mono _ _ _ _)
      | (with_reducible exact laws_toWhole.mono _ _ _)
      | (with_reducible exact spec_SubtractWholes.mono _ _ _ _ _)
      | (with_reducible exact LeO.refl _)
      | (with_reducible exact LeO.none _)
      | (with_reducible refine LeO.ite ?_ ?_)
      | (with_reducible refine LeO.bind ?_ (fun _ => ?_))
      | exact ih0 _ _ _ _ _ _ _ _ _ _ _ _ _ _ _
      | exact ih1 _ _ _ _ _ _ _ _ _ _
      | exact ih2 _ _ _ _
      | exact laws_eqWhole.mono _ _ _ _ _
      | exact laws_heldWhole.mono _ _ _ _
      | exact laws_markWhole.mono _ _ _ _
      | exact laws_toWhole.mono _ _ _
      | exact spec_SubtractWholes.mono _ _ _ _ _
      | exact LeO.none _
      | refine LeO.ite ?_ ?_
      | refine LeO.bind ?_ (fun _ => ?_)
def laws_FnExactSubtractWholes.T8 : Bool × List (List Nat × List Nat) := (true, [([], []), ([0], [0]), ([], []), ([2, 1], [2]), ([1, 3, 3], [1, 3]), ([4], [4]), ([5], [5]), ([5], [5]), ([], []), ([8, 6, 4, 0, 1, 2, 3, 4, 5, 6, 8], [6, 8]), ([7, 9, 0, 1, 2, 3, 4, 5, 6, 7, 8, 9], [7])])
def laws_FnExactSubtractWholes.B8 : List Nat := [0, 1, 0, 7, 15, 31, 63, 63, 0, 383, 1023]
theorem laws_FnExactSubtractWholes.tab8 : rtab .any (opsOf Tryd.f10 8) = laws_FnExactSubtractWholes.T8 := by kernel_rfl
theorem laws_FnExactSubtractWholes.bits8 : waitsOk laws_FnExactSubtractWholes.T8.2 laws_FnExactSubtractWholes.B8 = true := by kernel_rfl
def laws_FnExactSubtractWholes.T31 : Bool × List (List Nat × List Nat) := (true, [([], []), ([0], [0]), ([], []), ([2, 1], [2]), ([1, 3, 3], [1, 3]), ([4], [4]), ([5], [5]), ([5], [5]), ([], []), ([8, 6, 4, 0, 1, 2, 3, 4, 5, 6, 8], [6, 8]), ([7, 9, 0, 1, 2, 3, 4, 5, 6, 7, 8, 9], [7])])
def laws_FnExactSubtractWholes.B31 : List Nat := [0, 1, 0, 7, 15, 31, 63, 63, 0, 383, 1023]
theorem laws_FnExactSubtractWholes.tab31 : rtab .any (opsOf Tryd.f10 31) = laws_FnExactSubtractWholes.T31 := by kernel_rfl
theorem laws_FnExactSubtractWholes.bits31 : waitsOk laws_FnExactSubtractWholes.T31.2 laws_FnExactSubtractWholes.B31 = true := by kernel_rfl
set_option maxHeartbeats 8000000 in
set_option maxRecDepth 100000 in
theorem laws_FnExactSubtractWholes.calls (k : Nat) (a0_0 : Int) (A0_1 : Option Addr) (c0_1 : Nat) (l0_1 : List Int) (a1_0 : Int) (A1_1 : Option Addr) (c1_1 : Nat) (l1_1 : List Int) (r : Bool) (w : World) (hr0_1 : Kd.C (Kd.int .i64) w A0_1 l0_1.length l0_1) (hc0_1 : l0_1.length ≤ c0_1) (hr1_1 : Kd.C (Kd.int .i64) w A1_1 l1_1.length l1_1) (hc1_1 : l1_1.length ≤ c1_1) (h : laws_FnExactSubtractWholes.f k a0_0 l0_1 a1_0 l1_1 = some r) :
  Calls Tryd.prog 10 #[.agg #[.int .i64 a0_0, .slice A0_1 l0_1.length c0_1], .agg #[.int .i64 a1_0, .slice A1_1 l1_1.length c1_1]] w fun e w' => e = .returned (.bool r) ∧ Below w.heap.size w w' := by
 have hu24 := Tryd.underlying24; have hu28 := Tryd.underlying28; have HR0_1 := Aside0.mk hr0_1; have HC0_1 := Aside0.mk hc0_1; clear hr0_1 hc0_1; have HR1_1 := Aside0.mk hr1_1; have HC1_1 := Aside0.mk hc1_1; clear hr1_1 hc1_1; have HB := am_ (Below.refl w.heap.size w)
 have H : ((laws_szWhole.f a0_0 l0_1 1048576).bind fun t258 => (if t258 < 0 then (some true) else ((laws_szWhole.f a1_0 l1_1 t258).bind fun t259 => (if t259 < 0 then (some true) else ((laws_toWhole.f k a0_0 l0_1).bind fun bt260 => ((laws_toWhole.f k a1_0 l1_1).bind fun bt264 => ((spec_SubtractWholes.f k bt260.1 bt260.2 bt264.1 bt264.2).bind fun bt268 => ((laws_toWhole.f k a0_0 l0_1).bind fun bt274 => ((laws_toWhole.f k a1_0 l1_1).bind fun bt279 => ((impl_SubtractWholes.f bt274.1 bt274.2 bt279.1 bt279.2).bind fun bt284 => ((laws_eqWhole.f k bt284.1 bt284.2.1 bt268.1 bt268.2.1).bind fun t290 => (if t290 = true then (laws_FnExactSubtractWholes.j0 k bt268.2.2 bt284.2.2 (bt284.2.2 != bt268.2.2) a0_0 l0_1 a1_0 l1_1 bt268.1 bt268.2.1 bt274.1 bt274.2 bt279.1 bt279.2 bt284.1 bt284.2.1) else (laws_FnExactSubtractWholes.j0 k bt268.2.2 bt284.2.2 true a0_0 l0_1 a1_0 l1_1 bt268.1 bt268.2.1 bt274.1 bt274.2 bt279.1 bt279.2 bt284.1 bt284.2.1))))))))))))) = some r := h
 clear h
 replace H := Option.bind_eq_some_iff.mp H
 obtain ⟨t258, A30, H⟩ := H
 replace H : (if t258 < 0 then (some true) else ((laws_szWhole.f a1_0 l1_1 t258).bind fun t259 => (if t259 < 0 then (some true) else ((laws_toWhole.f k a0_0 l0_1).bind fun bt260 => ((laws_toWhole.f k a1_0 l1_1).bind fun bt264 => ((spec_SubtractWholes.f k bt260.1 bt260.2 bt264.1 bt264.2).bind fun bt268 => ((laws_toWhole.f k a0_0 l0_1).bind fun bt274 => ((laws_toWhole.f k a1_0 l1_1).bind fun bt279 => ((impl_SubtractWholes.f bt274.1 bt274.2 bt279.1 bt279.2).bind fun bt284 => ((laws_eqWhole.f k bt284.1 bt284.2.1 bt268.1 bt268.2.1).bind fun t290 => (if t290 = true then (laws_FnExactSubtractWholes.j0 k bt268.2.2 bt284.2.2 (bt284.2.2 != bt268.2.2) a0_0 l0_1 a1_0 l1_1 bt268.1 bt268.2.1 bt274.1 bt274.2 bt279.1 bt279.2 bt284.1 bt284.2.1) else (laws_FnExactSubtractWholes.j0 k bt268.2.2 bt284.2.2 true a0_0 l0_1 a1_0 l1_1 bt268.1 bt268.2.1 bt274.1 bt274.2 bt279.1 bt279.2 bt284.1 bt284.2.1)))))))))))) = some r := H
 have A3 := Aside0.mk A30; clear A30
 by_cases c4 : t258 < 0
 ·rw [if_pos c4] at H
  have c4b0 : decide (t258 < 0) = true := decide_eq_true c4
  clear c4; obtain rfl := Option.some.inj H
  go_enter Tryd.func10, Tryd.ntmps10
  go_wp2_with (first | ((with_reducible refine gate_dst (N := 2) rfl ?_); refine box_event ?hg (N := 2) ?hd (cs := #[.int .i64 a0_0, .slice A0_1 l0_1.length c0_1]) (t := 24) ?hr ?_; (case hd => rfl); (case hg => rfl); (case hr => first | (go_simp; done) | (go_simp; rfl)); intro gb256 hg w5 hbox hb; have n0_ := am_ (below_step (bl_ HB) hb); have n1_ := am_ (hbox); have n2_ := am_ (gs_ hg HB); have n3_ := am_ (gs_ hg HB); clear HB; have HB := n0_; have BK256 := n1_; have GW256 := n2_; have GE256 := n3_; clear n0_ n1_ n2_ n3_; clear hb hbox hg) | ((with_reducible refine gate_dst (N := 3) rfl ?_); refine box_event ?hg (N := 3) ?hd (cs := #[.int .i64 a1_0, .slice A1_1 l1_1.length c1_1]) (t := 24) ?hr ?_; (case hd => rfl); (case hg => rfl); (case hr => first | (go_simp; done) | (go_simp; rfl)); intro gb257 hg w6 hbox hb; have n0_ := am_ (blk_below (bk_ BK256) hb); have n1_ := am_ (below_step (bl_ HB) hb); have n2_ := am_ (hbox); have n3_ := am_ (gs_ hg HB); have n4_ := am_ (gs_ hg HB); have n5_ := am_ (nl_ hg BK256); have n6_ := am_ (ng_ hg BK256); clear BK256; clear HB; have BK256 := n0_; have HB := n1_; have BK257 := n2_; have GW257 := n3_; have GE257 := n4_; have NB256_257 := n5_; have NB257_256 := n6_; clear n0_ n1_ n2_ n3_ n4_ n5_ n6_; clear hb hbox hg; have hnb7 := NB256_257.out; have hnc7 := NB257_256.out; have hcz8_0 : w6.cell? ⟨gb256, 0, none⟩ = some (.int .i64 a0_0) := (blk_cell BK256.out 0).trans rfl; have hcz8_1 : w6.cell? ⟨gb256, 1, none⟩ = some (.slice A0_1 l0_1.length c0_1) := (blk_cell BK256.out 1).trans rfl; have hfz8_0 := blk_frozen BK256.out 0; have hfz8_1 := blk_frozen BK256.out 1) | ((with_reducible refine gate_callee (f := 18) rfl ?_); refine goesL_ (some 19) rfl rfl Tryd.func18 (by kernel_rfl) rfl #[.agg #[.int .i64 a0_0, .slice A0_1 l0_1.length c0_1], .int .i64 1048576] rfl ma_ ?_; (with_reducible refine (laws_szWhole.calls a0_0 _ _ l0_1 1048576 t258 _ ?side1 ?side2 A3.out).mono ?_); (case side1 => repeat (first | exact (Kd.C_below HR0_1.out HB.out) | (with_reducible refine Kd.C_alloc ?_ _) | (with_reducible refine Kd.C_drewN ?_ _) | (with_reducible refine Kd.C_drew ?_))); (case side2 => exact HC0_1.out); rintro e w9 ⟨rfl, hb⟩; refine ⟨_, rfl, ?_⟩; have n0_ := am_ (blk_below (bk_ BK256) hb); have n1_ := am_ (blk_below (bk_ BK257) hb); have n2_ := am_ (below_step (bl_ HB) hb); clear BK256; clear BK257; clear HB; have BK256 := n0_; have BK257 := n1_; have HB := n2_; clear n0_ n1_ n2_; (try clear hb); (try clear hb2); (try clear hk); (try clear hi)))
  go_ret
  exact ⟨by first | rfl | (simp [errW_none, errW_some] <;> rfl) | (simp [*, errW_none, errW_some] <;> rfl), bl_ HB⟩
 ·rw [if_neg c4] at H
  have c4b0 : decide (t258 < 0) = false := decide_eq_false c4
  clear c4
  replace H := Option.bind_eq_some_iff.mp H
  obtain ⟨t259, A100, H⟩ := H
  replace H : (if t259 < 0 then (some true) else ((laws_toWhole.f k a0_0 l0_1).bind fun bt260 => ((laws_toWhole.f k a1_0 l1_1).bind fun bt264 => ((spec_SubtractWholes.f k bt260.1 bt260.2 bt264.1 bt264.2).bind fun bt268 => ((laws_toWhole.f k a0_0 l0_1).bind fun bt274 => ((laws_toWhole.f k a1_0 l1_1).bind fun bt279 => ((impl_SubtractWholes.f bt274.1 bt274.2 bt279.1 bt279.2).bind fun bt284 => ((laws_eqWhole.f k bt284.1 bt284.2.1 bt268.1 bt268.2.1).bind fun t290 => (if t290 = true then (laws_FnExactSubtractWholes.j0 k bt268.2.2 bt284.2.2 (bt284.2.2 != bt268.2.2) a0_0 l0_1 a1_0 l1_1 bt268.1 bt268.2.1 bt274.1 bt274.2 bt279.1 bt279.2 bt284.1 bt284.2.1) else (laws_FnExactSubtractWholes.j0 k bt268.2.2 bt284.2.2 true a0_0 l0_1 a1_0 l1_1 bt268.1 bt268.2.1 bt274.1 bt274.2 bt279.1 bt279.2 bt284.1 bt284.2.1)))))))))) = some r := H
  have A10 := Aside0.mk A100; clear A100
  by_cases c11 : t259 < 0
  ·rw [if_pos c11] at H
   have c11b0 : decide (t259 < 0) = true := decide_eq_true c11
   clear c11; obtain rfl := Option.some.inj H
   go_enter Tryd.func10, Tryd.ntmps10
   go_wp2_with (first | ((with_reducible refine gate_dst (N := 2) rfl ?_); refine box_event ?hg (N := 2) ?hd (cs := #[.int .i64 a0_0, .slice A0_1 l0_1.length c0_1]) (t := 24) ?hr ?_; (case hd => rfl); (case hg => rfl); (case hr => first | (go_simp; done) | (go_simp; rfl)); intro gb256 hg w12 hbox hb; have n0_ := am_ (below_step (bl_ HB) hb); have n1_ := am_ (hbox); have n2_ := am_ (gs_ hg HB); have n3_ := am_ (gs_ hg HB); clear HB; have HB := n0_; have BK256 := n1_; have GW256 := n2_; have GE256 := n3_; clear n0_ n1_ n2_ n3_; clear hb hbox hg) | ((with_reducible refine gate_dst (N := 3) rfl ?_); refine box_event ?hg (N := 3) ?hd (cs := #[.int .i64 a1_0, .slice A1_1 l1_1.length c1_1]) (t := 24) ?hr ?_; (case hd => rfl); (case hg => rfl); (case hr => first | (go_simp; done) | (go_simp; rfl)); intro gb257 hg w13 hbox hb; have n0_ := am_ (blk_below (bk_ BK256) hb); have n1_ := am_ (below_step (bl_ HB) hb); have n2_ := am_ (hbox); have n3_ := am_ (gs_ hg HB); have n4_ := am_ (gs_ hg HB); have n5_ := am_ (nl_ hg BK256); have n6_ := am_ (ng_ hg BK256); clear BK256; clear HB; have BK256 := n0_; have HB := n1_; have BK257 := n2_; have GW257 := n3_; have GE257 := n4_; have NB256_257 := n5_; have NB257_256 := n6_; clear n0_ n1_ n2_ n3_ n4_ n5_ n6_; clear hb hbox hg; have hnb14 := NB256_257.out; have hnc14 := NB257_256.out; have hcz15_0 : w13.cell? ⟨gb256, 0, none⟩ = some (.int .i64 a0_0) := (blk_cell BK256.out 0).trans rfl; have hcz15_1 : w13.cell? ⟨gb256, 1, none⟩ = some (.slice A0_1 l0_1.length c0_1) := (blk_cell BK256.out 1).trans rfl; have hfz15_0 := blk_frozen BK256.out 0; have hfz15_1 := blk_frozen BK256.out 1) | ((with_reducible refine gate_callee (f := 18) rfl ?_); refine goesL_ (some 19) rfl rfl Tryd.func18 (by kernel_rfl) rfl #[.agg #[.int .i64 a0_0, .slice A0_1 l0_1.length c0_1], .int .i64 1048576] rfl ma_ ?_; (with_reducible refine (laws_szWhole.calls a0_0 _ _ l0_1 1048576 t258 _ ?side1 ?side2 A3.out).mono ?_); (case side1 => repeat (first | exact (Kd.C_below HR0_1.out HB.out) | (with_reducible refine Kd.C_alloc ?_ _) | (with_reducible refine Kd.C_drewN ?_ _) | (with_reducible refine Kd.C_drew ?_))); (case side2 => exact HC0_1.out); rintro e w16 ⟨rfl, hb⟩; refine ⟨_, rfl, ?_⟩; have n0_ := am_ (blk_below (bk_ BK256) hb); have n1_ := am_ (blk_below (bk_ BK257) hb); have n2_ := am_ (below_step (bl_ HB) hb); clear BK256; clear BK257; clear HB; have BK256 := n0_; have BK257 := n1_; have HB := n2_; clear n0_ n1_ n2_; (try clear hb); (try clear hb2); (try clear hk); (try clear hi); have hcz17_0 : w16.cell? ⟨gb257, 0, none⟩ = some (.int .i64 a1_0) := (blk_cell BK257.out 0).trans rfl; have hcz17_1 : w16.cell? ⟨gb257, 1, none⟩ = some (.slice A1_1 l1_1.length c1_1) := (blk_cell BK257.out 1).trans rfl; have hfz17_0 := blk_frozen BK257.out 0; have hfz17_1 := blk_frozen BK257.out 1) | ((with_reducible refine gate_callee (f := 18) rfl ?_); refine goesL_ (some 24) rfl rfl Tryd.func18 (by kernel_rfl) rfl #[.agg #[.int .i64 a1_0, .slice A1_1 l1_1.length c1_1], .int .i64 t258] rfl ma_ ?_; (with_reducible refine (laws_szWhole.calls a1_0 _ _ l1_1 t258 t259 _ ?side1 ?side2 A10.out).mono ?_); (case side1 => repeat (first | exact (Kd.C_below HR1_1.out HB.out) | (with_reducible refine Kd.C_alloc ?_ _) | (with_reducible refine Kd.C_drewN ?_ _) | (with_reducible refine Kd.C_drew ?_))); (case side2 => exact HC1_1.out); rintro e w18 ⟨rfl, hb⟩; refine ⟨_, rfl, ?_⟩; have n0_ := am_ (blk_below (bk_ BK256) hb); have n1_ := am_ (blk_below (bk_ BK257) hb); have n2_ := am_ (below_step (bl_ HB) hb); clear BK256; clear BK257; clear HB; have BK256 := n0_; have BK257 := n1_; have HB := n2_; clear n0_ n1_ n2_; (try clear hb); (try clear hb2); (try clear hk); (try clear hi)))
   go_ret
   exact ⟨by first | rfl | (simp [errW_none, errW_some] <;> rfl) | (simp [*, errW_none, errW_some] <;> rfl), bl_ HB⟩
  ·rw [if_neg c11] at H
   have c11b0 : decide (t259 < 0) = false := decide_eq_false c11
   clear c11
   replace H := Option.bind_eq_some_iff.mp H
   obtain ⟨⟨t260, t261⟩, A190, H⟩ := H
   replace H : ((laws_toWhole.f k a1_0 l1_1).bind fun bt264 => ((spec_SubtractWholes.f k t260 t261 bt264.1 bt264.2).bind fun bt268 => ((laws_toWhole.f k a0_0 l0_1).bind fun bt274 => ((laws_toWhole.f k a1_0 l1_1).bind fun bt279 => ((impl_SubtractWholes.f bt274.1 bt274.2 bt279.1 bt279.2).bind fun bt284 => ((laws_eqWhole.f k bt284.1 bt284.2.1 bt268.1 bt268.2.1).bind fun t290 => (if t290 = true then (laws_FnExactSubtractWholes.j0 k bt268.2.2 bt284.2.2 (bt284.2.2 != bt268.2.2) a0_0 l0_1 a1_0 l1_1 bt268.1 bt268.2.1 bt274.1 bt274.2 bt279.1 bt279.2 bt284.1 bt284.2.1) else (laws_FnExactSubtractWholes.j0 k bt268.2.2 bt284.2.2 true a0_0 l0_1 a1_0 l1_1 bt268.1 bt268.2.1 bt274.1 bt274.2 bt279.1 bt279.2 bt284.1 bt284.2.1)))))))) = some r := H
   have A19 := Aside0.mk A190; clear A190
   replace H := Option.bind_eq_some_iff.mp H
   obtain ⟨⟨t264, t265⟩, A200, H⟩ := H
   replace H : ((spec_SubtractWholes.f k t260 t261 t264 t265).bind fun bt268 => ((laws_toWhole.f k a0_0 l0_1).bind fun bt274 => ((laws_toWhole.f k a1_0 l1_1).bind fun bt279 => ((impl_SubtractWholes.f bt274.1 bt274.2 bt279.1 bt279.2).bind fun bt284 => ((laws_eqWhole.f k bt284.1 bt284.2.1 bt268.1 bt268.2.1).bind fun t290 => (if t290 = true then (laws_FnExactSubtractWholes.j0 k bt268.2.2 bt284.2.2 (bt284.2.2 != bt268.2.2) a0_0 l0_1 a1_0 l1_1 bt268.1 bt268.2.1 bt274.1 bt274.2 bt279.1 bt279.2 bt284.1 bt284.2.1) else (laws_FnExactSubtractWholes.j0 k bt268.2.2 bt284.2.2 true a0_0 l0_1 a1_0 l1_1 bt268.1 bt268.2.1 bt274.1 bt274.2 bt279.1 bt279.2 bt284.1 bt284.2.1))))))) = some r := H
   have A20 := Aside0.mk A200; clear A200
   replace H := Option.bind_eq_some_iff.mp H
   obtain ⟨⟨t268, t269, t272⟩, A210, H⟩ := H
   replace H : ((laws_toWhole.f k a0_0 l0_1).bind fun bt274 => ((laws_toWhole.f k a1_0 l1_1).bind fun bt279 => ((impl_SubtractWholes.f bt274.1 bt274.2 bt279.1 bt279.2).bind fun bt284 => ((laws_eqWhole.f k bt284.1 bt284.2.1 t268 t269).bind fun t290 => (if t290 = true then (laws_FnExactSubtractWholes.j0 k t272 bt284.2.2 (bt284.2.2 != t272) a0_0 l0_1 a1_0 l1_1 t268 t269 bt274.1 bt274.2 bt279.1 bt279.2 bt284.1 bt284.2.1) else (laws_FnExactSubtractWholes.j0 k t272 bt284.2.2 true a0_0 l0_1 a1_0 l1_1 t268 t269 bt274.1 bt274.2 bt279.1 bt279.2 bt284.1 bt284.2.1)))))) = some r := H
   have A21 := Aside0.mk A210; clear A210
   replace H := Option.bind_eq_some_iff.mp H
   obtain ⟨⟨t274, t275⟩, A220, H⟩ := H
   replace H : ((laws_toWhole.f k a1_0 l1_1).bind fun bt279 => ((impl_SubtractWholes.f t274 t275 bt279.1 bt279.2).bind fun bt284 => ((laws_eqWhole.f k bt284.1 bt284.2.1 t268 t269).bind fun t290 => (if t290 = true then (laws_FnExactSubtractWholes.j0 k t272 bt284.2.2 (bt284.2.2 != t272) a0_0 l0_1 a1_0 l1_1 t268 t269 t274 t275 bt279.1 bt279.2 bt284.1 bt284.2.1) else (laws_FnExactSubtractWholes.j0 k t272 bt284.2.2 true a0_0 l0_1 a1_0 l1_1 t268 t269 t274 t275 bt279.1 bt279.2 bt284.1 bt284.2.1))))) = some r := H
   have A22 := Aside0.mk A220; clear A220
   replace H := Option.bind_eq_some_iff.mp H
   obtain ⟨⟨t279, t280⟩, A230, H⟩ := H
   replace H : ((impl_SubtractWholes.f t274 t275 t279 t280).bind fun bt284 => ((laws_eqWhole.f k bt284.1 bt284.2.1 t268 t269).bind fun t290 => (if t290 = true then (laws_FnExactSubtractWholes.j0 k t272 bt284.2.2 (bt284.2.2 != t272) a0_0 l0_1 a1_0 l1_1 t268 t269 t274 t275 t279 t280 bt284.1 bt284.2.1) else (laws_FnExactSubtractWholes.j0 k t272 bt284.2.2 true a0_0 l0_1 a1_0 l1_1 t268 t269 t274 t275 t279 t280 bt284.1 bt284.2.1)))) = some r := H
   have A23 := Aside0.mk A230; clear A230
   replace H := Option.bind_eq_some_iff.mp H
   obtain ⟨⟨t284, t285, t288⟩, A240, H⟩ := H
   replace H : ((laws_eqWhole.f k t284 t285 t268 t269).bind fun t290 => (if t290 = true then (laws_FnExactSubtractWholes.j0 k t272 t288 (t288 != t272) a0_0 l0_1 a1_0 l1_1 t268 t269 t274 t275 t279 t280 t284 t285) else (laws_FnExactSubtractWholes.j0 k t272 t288 true a0_0 l0_1 a1_0 l1_1 t268 t269 t274 t275 t279 t280 t284 t285))) = some r := H
   have A24 := Aside0.mk A240; clear A240; have HC25 := Aside0.mk H; clear H
   go_enter Tryd.func10, Tryd.ntmps10
   try go_wp2_with (first | ((with_reducible refine gate_dst (N := 2) rfl ?_); refine box_event ?hg (N := 2) ?hd (cs := #[.int .i64 a0_0, .slice A0_1 l0_1.length c0_1]) (t := 24) ?hr ?_; (case hd => rfl); (case hg => rfl); (case hr => first | (go_simp; done) | (go_simp; rfl)); intro gb256 hg w26 hbox hb; have n0_ := am_ (below_step (bl_ HB) hb); have n1_ := am_ (hbox); have n2_ := am_ (gs_ hg HB); have n3_ := am_ (gs_ hg HB); clear HB; have HB := n0_; have BK256 := n1_; have GW256 := n2_; have GE256 := n3_; clear n0_ n1_ n2_ n3_; clear hb hbox hg) | ((with_reducible refine gate_dst (N := 3) rfl ?_); refine box_event ?hg (N := 3) ?hd (cs := #[.int .i64 a1_0, .slice A1_1 l1_1.length c1_1]) (t := 24) ?hr ?_; (case hd => rfl); (case hg => rfl); (case hr => first | (go_simp; done) | (go_simp; rfl)); intro gb257 hg w27 hbox hb; have n0_ := am_ (blk_below (bk_ BK256) hb); have n1_ := am_ (below_step (bl_ HB) hb); have n2_ := am_ (hbox); have n3_ := am_ (gs_ hg HB); have n4_ := am_ (gs_ hg HB); have n5_ := am_ (nl_ hg BK256); have n6_ := am_ (ng_ hg BK256); clear BK256; clear HB; have BK256 := n0_; have HB := n1_; have BK257 := n2_; have GW257 := n3_; have GE257 := n4_; have NB256_257 := n5_; have NB257_256 := n6_; clear n0_ n1_ n2_ n3_ n4_ n5_ n6_; clear hb hbox hg; have hnb28 := NB256_257.out; have hnc28 := NB257_256.out; have hcz29_0 : w27.cell? ⟨gb256, 0, none⟩ = some (.int .i64 a0_0) := (blk_cell BK256.out 0).trans rfl; have hcz29_1 : w27.cell? ⟨gb256, 1, none⟩ = some (.slice A0_1 l0_1.length c0_1) := (blk_cell BK256.out 1).trans rfl; have hfz29_0 := blk_frozen BK256.out 0; have hfz29_1 := blk_frozen BK256.out 1) | ((with_reducible refine gate_callee (f := 18) rfl ?_); refine goesL_ (some 19) rfl rfl Tryd.func18 (by kernel_rfl) rfl #[.agg #[.int .i64 a0_0, .slice A0_1 l0_1.length c0_1], .int .i64 1048576] rfl ma_ ?_; (with_reducible refine (laws_szWhole.calls a0_0 _ _ l0_1 1048576 t258 _ ?side1 ?side2 A3.out).mono ?_); (case side1 => repeat (first | exact (Kd.C_below HR0_1.out HB.out) | (with_reducible refine Kd.C_alloc ?_ _) | (with_reducible refine Kd.C_drewN ?_ _) | (with_reducible refine Kd.C_drew ?_))); (case side2 => exact HC0_1.out); rintro e w30 ⟨rfl, hb⟩; refine ⟨_, rfl, ?_⟩; have n0_ := am_ (blk_below (bk_ BK256) hb); have n1_ := am_ (blk_below (bk_ BK257) hb); have n2_ := am_ (below_step (bl_ HB) hb); clear BK256; clear BK257; clear HB; have BK256 := n0_; have BK257 := n1_; have HB := n2_; clear n0_ n1_ n2_; (try clear hb); (try clear hb2); (try clear hk); (try clear hi); have hcz31_0 : w30.cell? ⟨gb257, 0, none⟩ = some (.int .i64 a1_0) := (blk_cell BK257.out 0).trans rfl; have hcz31_1 : w30.cell? ⟨gb257, 1, none⟩ = some (.slice A1_1 l1_1.length c1_1) := (blk_cell BK257.out 1).trans rfl; have hfz31_0 := blk_frozen BK257.out 0; have hfz31_1 := blk_frozen BK257.out 1) | ((with_reducible refine gate_callee (f := 18) rfl ?_); refine goesL_ (some 24) rfl rfl Tryd.func18 (by kernel_rfl) rfl #[.agg #[.int .i64 a1_0, .slice A1_1 l1_1.length c1_1], .int .i64 t258] rfl ma_ ?_; (with_reducible refine (laws_szWhole.calls a1_0 _ _ l1_1 t258 t259 _ ?side1 ?side2 A10.out).mono ?_); (case side1 => repeat (first | exact (Kd.C_below HR1_1.out HB.out) | (with_reducible refine Kd.C_alloc ?_ _) | (with_reducible refine Kd.C_drewN ?_ _) | (with_reducible refine Kd.C_drew ?_))); (case side2 => exact HC1_1.out); rintro e w32 ⟨rfl, hb⟩; refine ⟨_, rfl, ?_⟩; have n0_ := am_ (blk_below (bk_ BK256) hb); have n1_ := am_ (blk_below (bk_ BK257) hb); have n2_ := am_ (below_step (bl_ HB) hb); clear BK256; clear BK257; clear HB; have BK256 := n0_; have BK257 := n1_; have HB := n2_; clear n0_ n1_ n2_; (try clear hb); (try clear hb2); (try clear hk); (try clear hi)))
   have n0_ := am_ (blk_drew BK256.out); have n1_ := am_ (blk_drew BK257.out); have n2_ := am_ (below_drew1 HB.out); clear BK256 BK257 HB; have BK256 := n0_; have BK257 := n1_; have HB := n2_; clear n0_ n1_ n2_
   refine start_ (n := 11) (S := fun w' => w'.cell? ⟨gb256, 0, none⟩ = some (.int .i64 a0_0) ∧ w'.cell? ⟨gb256, 1, none⟩ = some (.slice A0_1 l0_1.length c0_1) ∧ w'.cell? ⟨gb257, 0, none⟩ = some (.int .i64 a1_0) ∧ w'.cell? ⟨gb257, 1, none⟩ = some (.slice A1_1 l1_1.length c1_1)) (ds := []) #[false, false, false, false, false, false, false, false, false, false, false] (by kernel_rfl) rfl rfl ⟨(blk_cell BK256.out 0).trans rfl, (blk_cell BK256.out 1).trans rfl, (blk_cell BK257.out 0).trans rfl, (blk_cell BK257.out 1).trans rfl⟩ (fun hHeld => ?_); refine with_tabW laws_FnExactSubtractWholes.tab8 laws_FnExactSubtractWholes.bits8 (fun HT_ HW_ => ?_)
   generalize w32.drew = w33 at BK256 BK257 HB hHeld ⊢
   refine take_ (i := 0) (N := some 28) (v := ?_) (a' := ?_) #[true, false, false, false, false, false, false, false, false, false, false] rfl rfl (take_ofW HT_.out HW_.out (by kernel_rfl)) (fun _ _ _ h => h) (Or.inl ⟨by rfl, ?_⟩) hHeld ?_ ?_
   rotate_left
   ·rintro w' ⟨s0, s1, s2, s3⟩
    go_simp
    with_reducible rfl
   rotate_left
   ·exact nm_
   refine take_ (i := 2) (N := some 30) (v := ?_) (a' := ?_) #[true, false, true, false, false, false, false, false, false, false, false] rfl rfl (take_ofW HT_.out HW_.out (by kernel_rfl)) (fun _ _ _ h => h) (Or.inl ⟨by rfl, ?_⟩) hHeld ?_ ?_
   rotate_left
   ·rintro w' ⟨s0, s1, s2, s3⟩
    go_simp
    with_reducible rfl
   rotate_left
   ·exact nm_
   refine join_ (σ := Value × Value × Value × Nat) 2 #[true, true, true, true, true, true, true, true, true, false, false] (fun s_ => [(29, .agg #[.int .i64 t260, s_.1]), (31, .agg #[.int .i64 t264, s_.2.1]), (32, .tuple #[.agg #[.int .i64 t268, s_.2.2.1], .int .i64 t272]), (6, .pointer (some ⟨s_.2.2.2, 0, none⟩)), (27, .tuple #[.agg #[.int .i64 t268, s_.2.2.1], .int .i64 t272]), (33, .agg #[.int .i64 t268, s_.2.2.1]), (34, .int .i64 t272)]) (fun s_ w' => (w'.cell? ⟨gb256, 0, none⟩ = some (.int .i64 a0_0) ∧ w'.cell? ⟨gb256, 1, none⟩ = some (.slice A0_1 l0_1.length c0_1) ∧ w'.cell? ⟨gb257, 0, none⟩ = some (.int .i64 a1_0) ∧ w'.cell? ⟨gb257, 1, none⟩ = some (.slice A1_1 l1_1.length c1_1)) ∧ (Kd.R (Kd.int .i64) 2 w' w.heap.size (fun k_ => some k_ ≠ (s_.2.1 : Value).ownBlock ∧ some k_ ≠ (s_.2.2.1 : Value).ownBlock) s_.1 t261) ∧ (Kd.R (Kd.int .i64) 2 w' w.heap.size (fun k_ => some k_ ≠ (s_.1 : Value).ownBlock ∧ some k_ ≠ (s_.2.2.1 : Value).ownBlock) s_.2.1 t265) ∧ (Kd.R (Kd.int .i64) 2 w' w.heap.size (fun k_ => some k_ ≠ (s_.1 : Value).ownBlock ∧ some k_ ≠ (s_.2.1 : Value).ownBlock) s_.2.2.1 t269) ∧ (w'.heap[gb256]? = some (.cells #[.int .i64 a0_0, .slice A0_1 l0_1.length c0_1] 24 (0, 0))) ∧ (w'.heap[gb257]? = some (.cells #[.int .i64 a1_0, .slice A1_1 l1_1.length c1_1] 24 (0, 0))) ∧ (w'.heap[s_.2.2.2]? = some (.cells #[.int .i64 0, .slice none 0 0] 28 (0, 0))) ∧ (w.heap.size ≤ s_.2.2.2) ∧ (w.heap.size ≤ s_.2.2.2) ∧ (gb256 ≠ s_.2.2.2) ∧ (s_.2.2.2 ≠ gb256) ∧ (gb257 ≠ s_.2.2.2) ∧ (s_.2.2.2 ≠ gb257) ∧ (Below w.heap.size w w')) ?_ ?_
   rotate_left
   ·intro hCont
    refine two_ (i := 1) (j := 8) (Ni := some 29) (Nj := some 6) #[true, true, true, false, false, false, false, false, false, false, false] #[true, false, true, false, false, false, false, false, true, false, false] rfl rfl rfl rfl (two_of HT_.out (by kernel_rfl)) (by decide) (by decide) (fun K hK => ?_) (fun K hK => ?_)
    ·skip
     refine goes_ Tryd.func20 (by kernel_rfl) rfl #[.agg #[.int .i64 a0_0, .slice A0_1 l0_1.length c0_1]] (by rfl) rfl rfl ma_ ?_
     with_reducible refine (laws_toWhole.calls k a0_0 _ _ l0_1 t260 t261 _ ?side1 ?side2 A19.out).mono ?_
     (case side1 => repeat (first | exact (Kd.C_below HR0_1.out HB.out) | (with_reducible refine Kd.C_alloc ?_ _) | (with_reducible refine Kd.C_drewN ?_ _) | (with_reducible refine Kd.C_drew ?_)))
     (case side2 => exact HC0_1.out)
     rintro e w34 ⟨v262, rfl, ho0, hb⟩
     refine ⟨_, rfl, ?_⟩
     have n0_ := am_ (Kd.R_lower ho0 (below_size (bl_ HB))); have n1_ := am_ (blk_below (bk_ BK256) hb); have n2_ := am_ (blk_below (bk_ BK257) hb); have n3_ := am_ (below_step (bl_ HB) hb); clear BK256 BK257 HB; have HO263 := n0_; have BK256 := n1_; have BK257 := n2_; have HB := n3_; clear n0_ n1_ n2_ n3_; (try clear hb); (try clear hb2); (try clear hk); (try clear hi); (try clear ho0)
     refine hK.out _ _ ⟨(blk_cell BK256.out 0).trans rfl, (blk_cell BK256.out 1).trans rfl, (blk_cell BK257.out 0).trans rfl, (blk_cell BK257.out 1).trans rfl⟩ (fun hHeld => ?_)
     clear hK K
     refine norm_ (a' := ?_) ?_ ?_
     rotate_left
     ·show Act.put _ (some 29) _ = _
      exact nm_
     refine two_ (i := 3) (j := 8) (Ni := some 31) (Nj := some 6) #[true, true, true, true, false, false, false, false, false, false, false] #[true, true, true, false, false, false, false, false, true, false, false] rfl rfl rfl rfl (two_of HT_.out (by kernel_rfl)) (by decide) (by decide) (fun K hK => ?_) (fun K hK => ?_)
     ·skip
      refine goes_ Tryd.func20 (by kernel_rfl) rfl #[.agg #[.int .i64 a1_0, .slice A1_1 l1_1.length c1_1]] (by rfl) rfl rfl ma_ ?_
      with_reducible refine (laws_toWhole.calls k a1_0 _ _ l1_1 t264 t265 _ ?side1 ?side2 A20.out).mono ?_
      (case side1 => repeat (first | exact (Kd.C_below HR1_1.out HB.out) | (with_reducible refine Kd.C_alloc ?_ _) | (with_reducible refine Kd.C_drewN ?_ _) | (with_reducible refine Kd.C_drew ?_)))
      (case side2 => exact HC1_1.out)
      rintro e w35 ⟨v266, rfl, ho0, hb⟩
      refine ⟨_, rfl, ?_⟩
      have n0_ := am_ (Kd.R_elder' (kr_ HO263) (Kd.R_base ho0) hb); have n1_ := am_ (Kd.R_lower (Kd.R_new' ho0 (Kd.R_lt (kr_ HO263))) (below_size (bl_ HB))); have n2_ := am_ (blk_below (bk_ BK256) hb); have n3_ := am_ (blk_below (bk_ BK257) hb); have n4_ := am_ (below_step (bl_ HB) hb); clear HO263 BK256 BK257 HB; have HO263 := n0_; have HO267 := n1_; have BK256 := n2_; have BK257 := n3_; have HB := n4_; clear n0_ n1_ n2_ n3_ n4_; (try clear hb); (try clear hb2); (try clear hk); (try clear hi); (try clear ho0)
      obtain ⟨Ao36, co36, eo36⟩ := Kd.R_slice HO263.out
      (first | subst eo36 | (injection eo36 with f1_ f2_ f3_; have f4_ := f1_.symm; have f5_ := f3_.symm; clear f1_ f2_ f3_; subst f4_; subst f5_))
      obtain ⟨Ao37, co37, eo37⟩ := Kd.R_slice HO267.out
      (first | subst eo37 | (injection eo37 with f1_ f2_ f3_; have f4_ := f1_.symm; have f5_ := f3_.symm; clear f1_ f2_ f3_; subst f4_; subst f5_))
      refine hK.out _ _ ⟨(blk_cell BK256.out 0).trans rfl, (blk_cell BK256.out 1).trans rfl, (blk_cell BK257.out 0).trans rfl, (blk_cell BK257.out 1).trans rfl⟩ (fun hHeld => ?_)
      clear hK K
      refine norm_ (a' := ?_) ?_ ?_
      rotate_left
      ·show Act.put _ (some 31) _ = _
       exact nm_
      refine two_ (i := 4) (j := 8) (Ni := some 32) (Nj := some 6) #[true, true, true, true, true, false, false, false, false, false, false] #[true, true, true, true, false, false, false, false, true, false, false] rfl rfl rfl rfl (two_of HT_.out (by kernel_rfl)) (by decide) (by decide) (fun K hK => ?_) (fun K hK => ?_)
      ·skip
       refine goes_ Tryd.func37 (by kernel_rfl) rfl #[.agg #[.int .i64 t260, .slice Ao36 t261.length co36], .agg #[.int .i64 t264, .slice Ao37 t265.length co37]] (by rfl) rfl rfl ma_ ?_
       with_reducible refine (spec_SubtractWholes.calls k t260 _ _ t261 t264 _ _ t265 t268 t269 t272 _ ?side1 ?side2 ?side3 ?side4 A21.out).mono ?_
       (case side1 => repeat (first | exact (Kd.R_reads' HO263.out).2.2 | (with_reducible refine Kd.C_alloc ?_ _) | (with_reducible refine Kd.C_drewN ?_ _) | (with_reducible refine Kd.C_drew ?_)))
       (case side2 => exact (Kd.R_reads' HO263.out).2.1)
       (case side3 => repeat (first | exact (Kd.R_reads' HO267.out).2.2 | (with_reducible refine Kd.C_alloc ?_ _) | (with_reducible refine Kd.C_drewN ?_ _) | (with_reducible refine Kd.C_drew ?_)))
       (case side4 => exact (Kd.R_reads' HO267.out).2.1)
       rintro e w38 ⟨v270, rfl, ho0, hb⟩
       refine ⟨_, rfl, ?_⟩
       have n0_ := am_ (Kd.R_elder' (kr_ HO263) (Kd.R_base ho0) hb); have n1_ := am_ (Kd.R_elder' (kr_ HO267) (Kd.R_base ho0) hb); have n2_ := am_ (Kd.R_lower (Kd.R_new' (Kd.R_new' ho0 (Kd.R_lt (kr_ HO263))) (Kd.R_lt (kr_ HO267))) (below_size (bl_ HB))); have n3_ := am_ (blk_below (bk_ BK256) hb); have n4_ := am_ (blk_below (bk_ BK257) hb); have n5_ := am_ (below_step (bl_ HB) hb); clear HO263 HO267 BK256 BK257 HB; have HO263 := n0_; have HO267 := n1_; have HO271 := n2_; have BK256 := n3_; have BK257 := n4_; have HB := n5_; clear n0_ n1_ n2_ n3_ n4_ n5_; (try clear hb); (try clear hb2); (try clear hk); (try clear hi); (try clear ho0)
       refine hK.out _ _ ⟨(blk_cell BK256.out 0).trans rfl, (blk_cell BK256.out 1).trans rfl, (blk_cell BK257.out 0).trans rfl, (blk_cell BK257.out 1).trans rfl⟩ (fun hHeld => ?_)
       clear hK K
       refine norm_ (a' := ?_) ?_ ?_
       rotate_left
       ·show Act.put _ (some 32) _ = _
        exact nm_
       refine pure_ (i := 5) (N := some 27) (v := ?_) (a' := ?_) #[true, true, true, true, true, true, false, false, false, false, false] rfl rfl (any_of HT_.out (by kernel_rfl)) (fun _ _ _ h => h) (Or.inl ⟨by rfl, ?_⟩) ?_ ?_
       rotate_left
       ·intro w'
        go_simp
        with_reducible rfl
       rotate_left
       ·exact nm_
       refine pure_ (i := 6) (N := some 33) (v := ?_) (a' := ?_) #[true, true, true, true, true, true, true, false, false, false, false] rfl rfl (any_of HT_.out (by kernel_rfl)) (fun _ _ _ h => h) (Or.inl ⟨by rfl, ?_⟩) ?_ ?_
       rotate_left
       ·intro w'
        go_simp
        with_reducible rfl
       rotate_left
       ·exact nm_
       refine pure_ (i := 7) (N := some 34) (v := ?_) (a' := ?_) #[true, true, true, true, true, true, true, true, false, false, false] rfl rfl (any_of HT_.out (by kernel_rfl)) (fun _ _ _ h => h) (Or.inl ⟨by rfl, ?_⟩) ?_ ?_
       rotate_left
       ·intro w'
        go_simp
        with_reducible rfl
       rotate_left
       ·exact nm_
       refine one_ (i := 8) (N := some 6) #[true, true, true, true, true, true, true, true, true, false, false] rfl rfl (one_of HT_.out (by kernel_rfl)) (by decide) (fun K hK => ?_)
       refine box_step ?hg (N := 6) ?hd (cs := #[.int .i64 0, .slice none 0 0]) (t := 28) ?hr ?_; (case hd => rfl); (case hg => rfl); (case hr => first | (go_simp; done) | (go_simp; rfl))
       intro gb273 hg w39 hbox hb
       have n0_ := am_ (Kd.R_below (kr_ HO263) hb); have n1_ := am_ (Kd.R_below (kr_ HO267) hb); have n2_ := am_ (Kd.R_below (kr_ HO271) hb); have n3_ := am_ (blk_below (bk_ BK256) hb); have n4_ := am_ (blk_below (bk_ BK257) hb); have n5_ := am_ (below_step (bl_ HB) hb); have n6_ := am_ (hbox); have n7_ := am_ (gs_ hg HB); have n8_ := am_ (gs_ hg HB); have n9_ := am_ (nl_ hg BK256); have n10_ := am_ (ng_ hg BK256); have n11_ := am_ (nl_ hg BK257); have n12_ := am_ (ng_ hg BK257); clear HO263 HO267 HO271 BK256 BK257 HB; have HO263 := n0_; have HO267 := n1_; have HO271 := n2_; have BK256 := n3_; have BK257 := n4_; have HB := n5_; have BK273 := n6_; have GW273 := n7_; have GE273 := n8_; have NB256_273 := n9_; have NB273_256 := n10_; have NB257_273 := n11_; have NB273_257 := n12_; clear n0_ n1_ n2_ n3_ n4_ n5_ n6_ n7_ n8_ n9_ n10_ n11_ n12_ hb hbox hg
       refine hK.out _ _ ⟨(blk_cell BK256.out 0).trans rfl, (blk_cell BK256.out 1).trans rfl, (blk_cell BK257.out 0).trans rfl, (blk_cell BK257.out 1).trans rfl⟩ (fun hHeld => ?_)
       clear hK K
       refine norm_ (a' := ?_) ?_ ?_
       rotate_left
       ·show Act.put _ (some 6) _ = _
        exact nm_
       exact norm_ (by simp only [putAll, Act.put, List.setIfInBounds_toArray, List.set_cons_zero, List.set_cons_succ]) (hCont (.slice Ao36 t261.length co36, .slice Ao37 t265.length co37, v270, gb273) _ ⟨hHeld, (km_ HO263 (fun _ hk => ⟨hk.1.2, hk.2⟩)), (km_ HO267 (fun _ hk => ⟨hk.1.2, hk.2⟩)), (km_ HO271 (fun _ hk => ⟨hk.1.2, hk.2⟩)), (bk_ BK256), (bk_ BK257), (bk_ BK273), GW273.out, GE273.out, NB256_273.out, NB273_256.out, NB257_273.out, NB273_257.out, (bl_ HB)⟩)
      ·skip
       refine box_step ?hg (N := 6) ?hd (cs := #[.int .i64 0, .slice none 0 0]) (t := 28) ?hr ?_; (case hd => rfl); (case hg => rfl); (case hr => first | (go_simp; done) | (go_simp; rfl))
       intro gb273 hg w36 hbox hb
       have n0_ := am_ (Kd.R_below (kr_ HO263) hb); have n1_ := am_ (Kd.R_below (kr_ HO267) hb); have n2_ := am_ (blk_below (bk_ BK256) hb); have n3_ := am_ (blk_below (bk_ BK257) hb); have n4_ := am_ (below_step (bl_ HB) hb); have n5_ := am_ (hbox); have n6_ := am_ (gs_ hg HB); have n7_ := am_ (gs_ hg HB); have n8_ := am_ (nl_ hg BK256); have n9_ := am_ (ng_ hg BK256); have n10_ := am_ (nl_ hg BK257); have n11_ := am_ (ng_ hg BK257); clear HO263 HO267 BK256 BK257 HB; have HO263 := n0_; have HO267 := n1_; have BK256 := n2_; have BK257 := n3_; have HB := n4_; have BK273 := n5_; have GW273 := n6_; have GE273 := n7_; have NB256_273 := n8_; have NB273_256 := n9_; have NB257_273 := n10_; have NB273_257 := n11_; clear n0_ n1_ n2_ n3_ n4_ n5_ n6_ n7_ n8_ n9_ n10_ n11_ hb hbox hg
       obtain ⟨Ao37, co37, eo37⟩ := Kd.R_slice HO263.out
       (first | subst eo37 | (injection eo37 with f1_ f2_ f3_; have f4_ := f1_.symm; have f5_ := f3_.symm; clear f1_ f2_ f3_; subst f4_; subst f5_))
       obtain ⟨Ao38, co38, eo38⟩ := Kd.R_slice HO267.out
       (first | subst eo38 | (injection eo38 with f1_ f2_ f3_; have f4_ := f1_.symm; have f5_ := f3_.symm; clear f1_ f2_ f3_; subst f4_; subst f5_))
       refine hK.out _ _ ⟨(blk_cell BK256.out 0).trans rfl, (blk_cell BK256.out 1).trans rfl, (blk_cell BK257.out 0).trans rfl, (blk_cell BK257.out 1).trans rfl⟩ (fun hHeld => ?_)
       clear hK K
       refine norm_ (a' := ?_) ?_ ?_
       rotate_left
       ·show Act.put _ (some 6) _ = _
        exact nm_
       refine one_ (i := 4) (N := some 32) #[true, true, true, true, true, false, false, false, true, false, false] rfl rfl (one_of HT_.out (by kernel_rfl)) (by decide) (fun K hK => ?_)
       refine goes_ Tryd.func37 (by kernel_rfl) rfl #[.agg #[.int .i64 t260, .slice Ao37 t261.length co37], .agg #[.int .i64 t264, .slice Ao38 t265.length co38]] (by rfl) rfl rfl ma_ ?_
       with_reducible refine (spec_SubtractWholes.calls k t260 _ _ t261 t264 _ _ t265 t268 t269 t272 _ ?side1 ?side2 ?side3 ?side4 A21.out).mono ?_
       (case side1 => repeat (first | exact (Kd.R_reads' HO263.out).2.2 | (with_reducible refine Kd.C_alloc ?_ _) | (with_reducible refine Kd.C_drewN ?_ _) | (with_reducible refine Kd.C_drew ?_)))
       (case side2 => exact (Kd.R_reads' HO263.out).2.1)
       (case side3 => repeat (first | exact (Kd.R_reads' HO267.out).2.2 | (with_reducible refine Kd.C_alloc ?_ _) | (with_reducible refine Kd.C_drewN ?_ _) | (with_reducible refine Kd.C_drew ?_)))
       (case side4 => exact (Kd.R_reads' HO267.out).2.1)
       rintro e w39 ⟨v270, rfl, ho0, hb⟩
       refine ⟨_, rfl, ?_⟩
       have n0_ := am_ (Kd.R_elder' (kr_ HO263) (Kd.R_base ho0) hb); have n1_ := am_ (Kd.R_elder' (kr_ HO267) (Kd.R_base ho0) hb); have n2_ := am_ (Kd.R_lower (Kd.R_new' (Kd.R_new' ho0 (Kd.R_lt (kr_ HO263))) (Kd.R_lt (kr_ HO267))) (below_size (bl_ HB))); have n3_ := am_ (blk_below (bk_ BK256) hb); have n4_ := am_ (blk_below (bk_ BK257) hb); have n5_ := am_ (blk_below (bk_ BK273) hb); have n6_ := am_ (below_step (bl_ HB) hb); clear HO263 HO267 BK256 BK257 BK273 HB; have HO263 := n0_; have HO267 := n1_; have HO271 := n2_; have BK256 := n3_; have BK257 := n4_; have BK273 := n5_; have HB := n6_; clear n0_ n1_ n2_ n3_ n4_ n5_ n6_; (try clear hb); (try clear hb2); (try clear hk); (try clear hi); (try clear ho0)
       refine hK.out _ _ ⟨(blk_cell BK256.out 0).trans rfl, (blk_cell BK256.out 1).trans rfl, (blk_cell BK257.out 0).trans rfl, (blk_cell BK257.out 1).trans rfl⟩ (fun hHeld => ?_)
       clear hK K
       refine norm_ (a' := ?_) ?_ ?_
       rotate_left
       ·show Act.put _ (some 32) _ = _
        exact nm_
       refine pure_ (i := 5) (N := some 27) (v := ?_) (a' := ?_) #[true, true, true, true, true, true, false, false, true, false, false] rfl rfl (any_of HT_.out (by kernel_rfl)) (fun _ _ _ h => h) (Or.inl ⟨by rfl, ?_⟩) ?_ ?_
       rotate_left
       ·intro w'
        go_simp
        with_reducible rfl
       rotate_left
       ·exact nm_
       refine pure_ (i := 6) (N := some 33) (v := ?_) (a' := ?_) #[true, true, true, true, true, true, true, false, true, false, false] rfl rfl (any_of HT_.out (by kernel_rfl)) (fun _ _ _ h => h) (Or.inl ⟨by rfl, ?_⟩) ?_ ?_
       rotate_left
       ·intro w'
        go_simp
        with_reducible rfl
       rotate_left
       ·exact nm_
       refine pure_ (i := 7) (N := some 34) (v := ?_) (a' := ?_) #[true, true, true, true, true, true, true, true, true, false, false] rfl rfl (any_of HT_.out (by kernel_rfl)) (fun _ _ _ h => h) (Or.inl ⟨by rfl, ?_⟩) ?_ ?_
       rotate_left
       ·intro w'
        go_simp
        with_reducible rfl
       rotate_left
       ·exact nm_
       exact norm_ (by simp only [putAll, Act.put, List.setIfInBounds_toArray, List.set_cons_zero, List.set_cons_succ]) (hCont (.slice Ao37 t261.length co37, .slice Ao38 t265.length co38, v270, gb273) _ ⟨hHeld, (km_ HO263 (fun _ hk => ⟨hk.1.2, hk.2⟩)), (km_ HO267 (fun _ hk => ⟨hk.1.2, hk.2⟩)), (km_ HO271 (fun _ hk => ⟨hk.1.2, hk.2⟩)), (bk_ BK256), (bk_ BK257), (bk_ BK273), GW273.out, GE273.out, NB256_273.out, NB273_256.out, NB257_273.out, NB273_257.out, (bl_ HB)⟩)
     ·skip
      refine box_step ?hg (N := 6) ?hd (cs := #[.int .i64 0, .slice none 0 0]) (t := 28) ?hr ?_; (case hd => rfl); (case hg => rfl); (case hr => first | (go_simp; done) | (go_simp; rfl))
      intro gb273 hg w35 hbox hb
      have n0_ := am_ (Kd.R_below (kr_ HO263) hb); have n1_ := am_ (blk_below (bk_ BK256) hb); have n2_ := am_ (blk_below (bk_ BK257) hb); have n3_ := am_ (below_step (bl_ HB) hb); have n4_ := am_ (hbox); have n5_ := am_ (gs_ hg HB); have n6_ := am_ (gs_ hg HB); have n7_ := am_ (nl_ hg BK256); have n8_ := am_ (ng_ hg BK256); have n9_ := am_ (nl_ hg BK257); have n10_ := am_ (ng_ hg BK257); clear HO263 BK256 BK257 HB; have HO263 := n0_; have BK256 := n1_; have BK257 := n2_; have HB := n3_; have BK273 := n4_; have GW273 := n5_; have GE273 := n6_; have NB256_273 := n7_; have NB273_256 := n8_; have NB257_273 := n9_; have NB273_257 := n10_; clear n0_ n1_ n2_ n3_ n4_ n5_ n6_ n7_ n8_ n9_ n10_ hb hbox hg
      refine hK.out _ _ ⟨(blk_cell BK256.out 0).trans rfl, (blk_cell BK256.out 1).trans rfl, (blk_cell BK257.out 0).trans rfl, (blk_cell BK257.out 1).trans rfl⟩ (fun hHeld => ?_)
      clear hK K
      refine norm_ (a' := ?_) ?_ ?_
      rotate_left
      ·show Act.put _ (some 6) _ = _
       exact nm_
      refine one_ (i := 3) (N := some 31) #[true, true, true, true, false, false, false, false, true, false, false] rfl rfl (one_of HT_.out (by kernel_rfl)) (by decide) (fun K hK => ?_)
      refine goes_ Tryd.func20 (by kernel_rfl) rfl #[.agg #[.int .i64 a1_0, .slice A1_1 l1_1.length c1_1]] (by rfl) rfl rfl ma_ ?_
      with_reducible refine (laws_toWhole.calls k a1_0 _ _ l1_1 t264 t265 _ ?side1 ?side2 A20.out).mono ?_
      (case side1 => repeat (first | exact (Kd.C_below HR1_1.out HB.out) | (with_reducible refine Kd.C_alloc ?_ _) | (with_reducible refine Kd.C_drewN ?_ _) | (with_reducible refine Kd.C_drew ?_)))
      (case side2 => exact HC1_1.out)
      rintro e w36 ⟨v266, rfl, ho0, hb⟩
      refine ⟨_, rfl, ?_⟩
      have n0_ := am_ (Kd.R_elder' (kr_ HO263) (Kd.R_base ho0) hb); have n1_ := am_ (Kd.R_lower (Kd.R_new' ho0 (Kd.R_lt (kr_ HO263))) (below_size (bl_ HB))); have n2_ := am_ (blk_below (bk_ BK256) hb); have n3_ := am_ (blk_below (bk_ BK257) hb); have n4_ := am_ (blk_below (bk_ BK273) hb); have n5_ := am_ (below_step (bl_ HB) hb); clear HO263 BK256 BK257 BK273 HB; have HO263 := n0_; have HO267 := n1_; have BK256 := n2_; have BK257 := n3_; have BK273 := n4_; have HB := n5_; clear n0_ n1_ n2_ n3_ n4_ n5_; (try clear hb); (try clear hb2); (try clear hk); (try clear hi); (try clear ho0)
      obtain ⟨Ao37, co37, eo37⟩ := Kd.R_slice HO263.out
      (first | subst eo37 | (injection eo37 with f1_ f2_ f3_; have f4_ := f1_.symm; have f5_ := f3_.symm; clear f1_ f2_ f3_; subst f4_; subst f5_))
      obtain ⟨Ao38, co38, eo38⟩ := Kd.R_slice HO267.out
      (first | subst eo38 | (injection eo38 with f1_ f2_ f3_; have f4_ := f1_.symm; have f5_ := f3_.symm; clear f1_ f2_ f3_; subst f4_; subst f5_))
      refine hK.out _ _ ⟨(blk_cell BK256.out 0).trans rfl, (blk_cell BK256.out 1).trans rfl, (blk_cell BK257.out 0).trans rfl, (blk_cell BK257.out 1).trans rfl⟩ (fun hHeld => ?_)
      clear hK K
      refine norm_ (a' := ?_) ?_ ?_
      rotate_left
      ·show Act.put _ (some 31) _ = _
       exact nm_
      refine one_ (i := 4) (N := some 32) #[true, true, true, true, true, false, false, false, true, false, false] rfl rfl (one_of HT_.out (by kernel_rfl)) (by decide) (fun K hK => ?_)
      refine goes_ Tryd.func37 (by kernel_rfl) rfl #[.agg #[.int .i64 t260, .slice Ao37 t261.length co37], .agg #[.int .i64 t264, .slice Ao38 t265.length co38]] (by rfl) rfl rfl ma_ ?_
      with_reducible refine (spec_SubtractWholes.calls k t260 _ _ t261 t264 _ _ t265 t268 t269 t272 _ ?side1 ?side2 ?side3 ?side4 A21.out).mono ?_
      (case side1 => repeat (first | exact (Kd.R_reads' HO263.out).2.2 | (with_reducible refine Kd.C_alloc ?_ _) | (with_reducible refine Kd.C_drewN ?_ _) | (with_reducible refine Kd.C_drew ?_)))
      (case side2 => exact (Kd.R_reads' HO263.out).2.1)
      (case side3 => repeat (first | exact (Kd.R_reads' HO267.out).2.2 | (with_reducible refine Kd.C_alloc ?_ _) | (with_reducible refine Kd.C_drewN ?_ _) | (with_reducible refine Kd.C_drew ?_)))
      (case side4 => exact (Kd.R_reads' HO267.out).2.1)
      rintro e w39 ⟨v270, rfl, ho0, hb⟩
      refine ⟨_, rfl, ?_⟩
      have n0_ := am_ (Kd.R_elder' (kr_ HO263) (Kd.R_base ho0) hb); have n1_ := am_ (Kd.R_elder' (kr_ HO267) (Kd.R_base ho0) hb); have n2_ := am_ (Kd.R_lower (Kd.R_new' (Kd.R_new' ho0 (Kd.R_lt (kr_ HO263))) (Kd.R_lt (kr_ HO267))) (below_size (bl_ HB))); have n3_ := am_ (blk_below (bk_ BK256) hb); have n4_ := am_ (blk_below (bk_ BK257) hb); have n5_ := am_ (blk_below (bk_ BK273) hb); have n6_ := am_ (below_step (bl_ HB) hb); clear HO263 HO267 BK256 BK257 BK273 HB; have HO263 := n0_; have HO267 := n1_; have HO271 := n2_; have BK256 := n3_; have BK257 := n4_; have BK273 := n5_; have HB := n6_; clear n0_ n1_ n2_ n3_ n4_ n5_ n6_; (try clear hb); (try clear hb2); (try clear hk); (try clear hi); (try clear ho0)
      refine hK.out _ _ ⟨(blk_cell BK256.out 0).trans rfl, (blk_cell BK256.out 1).trans rfl, (blk_cell BK257.out 0).trans rfl, (blk_cell BK257.out 1).trans rfl⟩ (fun hHeld => ?_)
      clear hK K
      refine norm_ (a' := ?_) ?_ ?_
      rotate_left
      ·show Act.put _ (some 32) _ = _
       exact nm_
      refine pure_ (i := 5) (N := some 27) (v := ?_) (a' := ?_) #[true, true, true, true, true, true, false, false, true, false, false] rfl rfl (any_of HT_.out (by kernel_rfl)) (fun _ _ _ h => h) (Or.inl ⟨by rfl, ?_⟩) ?_ ?_
      rotate_left
      ·intro w'
       go_simp
       with_reducible rfl
      rotate_left
      ·exact nm_
      refine pure_ (i := 6) (N := some 33) (v := ?_) (a' := ?_) #[true, true, true, true, true, true, true, false, true, false, false] rfl rfl (any_of HT_.out (by kernel_rfl)) (fun _ _ _ h => h) (Or.inl ⟨by rfl, ?_⟩) ?_ ?_
      rotate_left
      ·intro w'
       go_simp
       with_reducible rfl
      rotate_left
      ·exact nm_
      refine pure_ (i := 7) (N := some 34) (v := ?_) (a' := ?_) #[true, true, true, true, true, true, true, true, true, false, false] rfl rfl (any_of HT_.out (by kernel_rfl)) (fun _ _ _ h => h) (Or.inl ⟨by rfl, ?_⟩) ?_ ?_
      rotate_left
      ·intro w'
       go_simp
       with_reducible rfl
      rotate_left
      ·exact nm_
      exact norm_ (by simp only [putAll, Act.put, List.setIfInBounds_toArray, List.set_cons_zero, List.set_cons_succ]) (hCont (.slice Ao37 t261.length co37, .slice Ao38 t265.length co38, v270, gb273) _ ⟨hHeld, (km_ HO263 (fun _ hk => ⟨hk.1.2, hk.2⟩)), (km_ HO267 (fun _ hk => ⟨hk.1.2, hk.2⟩)), (km_ HO271 (fun _ hk => ⟨hk.1.2, hk.2⟩)), (bk_ BK256), (bk_ BK257), (bk_ BK273), GW273.out, GE273.out, NB256_273.out, NB273_256.out, NB257_273.out, NB273_257.out, (bl_ HB)⟩)
    ·skip
     refine box_step ?hg (N := 6) ?hd (cs := #[.int .i64 0, .slice none 0 0]) (t := 28) ?hr ?_; (case hd => rfl); (case hg => rfl); (case hr => first | (go_simp; done) | (go_simp; rfl))
     intro gb273 hg w34 hbox hb
     have n0_ := am_ (blk_below (bk_ BK256) hb); have n1_ := am_ (blk_below (bk_ BK257) hb); have n2_ := am_ (below_step (bl_ HB) hb); have n3_ := am_ (hbox); have n4_ := am_ (gs_ hg HB); have n5_ := am_ (gs_ hg HB); have n6_ := am_ (nl_ hg BK256); have n7_ := am_ (ng_ hg BK256); have n8_ := am_ (nl_ hg BK257); have n9_ := am_ (ng_ hg BK257); clear BK256 BK257 HB; have BK256 := n0_; have BK257 := n1_; have HB := n2_; have BK273 := n3_; have GW273 := n4_; have GE273 := n5_; have NB256_273 := n6_; have NB273_256 := n7_; have NB257_273 := n8_; have NB273_257 := n9_; clear n0_ n1_ n2_ n3_ n4_ n5_ n6_ n7_ n8_ n9_ hb hbox hg
     refine hK.out _ _ ⟨(blk_cell BK256.out 0).trans rfl, (blk_cell BK256.out 1).trans rfl, (blk_cell BK257.out 0).trans rfl, (blk_cell BK257.out 1).trans rfl⟩ (fun hHeld => ?_)
     clear hK K
     refine norm_ (a' := ?_) ?_ ?_
     rotate_left
     ·show Act.put _ (some 6) _ = _
      exact nm_
     refine one_ (i := 1) (N := some 29) #[true, true, true, false, false, false, false, false, true, false, false] rfl rfl (one_of HT_.out (by kernel_rfl)) (by decide) (fun K hK => ?_)
     refine goes_ Tryd.func20 (by kernel_rfl) rfl #[.agg #[.int .i64 a0_0, .slice A0_1 l0_1.length c0_1]] (by rfl) rfl rfl ma_ ?_
     with_reducible refine (laws_toWhole.calls k a0_0 _ _ l0_1 t260 t261 _ ?side1 ?side2 A19.out).mono ?_
     (case side1 => repeat (first | exact (Kd.C_below HR0_1.out HB.out) | (with_reducible refine Kd.C_alloc ?_ _) | (with_reducible refine Kd.C_drewN ?_ _) | (with_reducible refine Kd.C_drew ?_)))
     (case side2 => exact HC0_1.out)
     rintro e w35 ⟨v262, rfl, ho0, hb⟩
     refine ⟨_, rfl, ?_⟩
     have n0_ := am_ (Kd.R_lower ho0 (below_size (bl_ HB))); have n1_ := am_ (blk_below (bk_ BK256) hb); have n2_ := am_ (blk_below (bk_ BK257) hb); have n3_ := am_ (blk_below (bk_ BK273) hb); have n4_ := am_ (below_step (bl_ HB) hb); clear BK256 BK257 BK273 HB; have HO263 := n0_; have BK256 := n1_; have BK257 := n2_; have BK273 := n3_; have HB := n4_; clear n0_ n1_ n2_ n3_ n4_; (try clear hb); (try clear hb2); (try clear hk); (try clear hi); (try clear ho0)
     refine hK.out _ _ ⟨(blk_cell BK256.out 0).trans rfl, (blk_cell BK256.out 1).trans rfl, (blk_cell BK257.out 0).trans rfl, (blk_cell BK257.out 1).trans rfl⟩ (fun hHeld => ?_)
     clear hK K
     refine norm_ (a' := ?_) ?_ ?_
     rotate_left
     ·show Act.put _ (some 29) _ = _
      exact nm_
     refine one_ (i := 3) (N := some 31) #[true, true, true, true, false, false, false, false, true, false, false] rfl rfl (one_of HT_.out (by kernel_rfl)) (by decide) (fun K hK => ?_)
     refine goes_ Tryd.func20 (by kernel_rfl) rfl #[.agg #[.int .i64 a1_0, .slice A1_1 l1_1.length c1_1]] (by rfl) rfl rfl ma_ ?_
     with_reducible refine (laws_toWhole.calls k a1_0 _ _ l1_1 t264 t265 _ ?side1 ?side2 A20.out).mono ?_
     (case side1 => repeat (first | exact (Kd.C_below HR1_1.out HB.out) | (with_reducible refine Kd.C_alloc ?_ _) | (with_reducible refine Kd.C_drewN ?_ _) | (with_reducible refine Kd.C_drew ?_)))
     (case side2 => exact HC1_1.out)
     rintro e w36 ⟨v266, rfl, ho0, hb⟩
     refine ⟨_, rfl, ?_⟩
     have n0_ := am_ (Kd.R_elder' (kr_ HO263) (Kd.R_base ho0) hb); have n1_ := am_ (Kd.R_lower (Kd.R_new' ho0 (Kd.R_lt (kr_ HO263))) (below_size (bl_ HB))); have n2_ := am_ (blk_below (bk_ BK256) hb); have n3_ := am_ (blk_below (bk_ BK257) hb); have n4_ := am_ (blk_below (bk_ BK273) hb); have n5_ := am_ (below_step (bl_ HB) hb); clear HO263 BK256 BK257 BK273 HB; have HO263 := n0_; have HO267 := n1_; have BK256 := n2_; have BK257 := n3_; have BK273 := n4_; have HB := n5_; clear n0_ n1_ n2_ n3_ n4_ n5_; (try clear hb); (try clear hb2); (try clear hk); (try clear hi); (try clear ho0)
     obtain ⟨Ao37, co37, eo37⟩ := Kd.R_slice HO263.out
     (first | subst eo37 | (injection eo37 with f1_ f2_ f3_; have f4_ := f1_.symm; have f5_ := f3_.symm; clear f1_ f2_ f3_; subst f4_; subst f5_))
     obtain ⟨Ao38, co38, eo38⟩ := Kd.R_slice HO267.out
     (first | subst eo38 | (injection eo38 with f1_ f2_ f3_; have f4_ := f1_.symm; have f5_ := f3_.symm; clear f1_ f2_ f3_; subst f4_; subst f5_))
     refine hK.out _ _ ⟨(blk_cell BK256.out 0).trans rfl, (blk_cell BK256.out 1).trans rfl, (blk_cell BK257.out 0).trans rfl, (blk_cell BK257.out 1).trans rfl⟩ (fun hHeld => ?_)
     clear hK K
     refine norm_ (a' := ?_) ?_ ?_
     rotate_left
     ·show Act.put _ (some 31) _ = _
      exact nm_
     refine one_ (i := 4) (N := some 32) #[true, true, true, true, true, false, false, false, true, false, false] rfl rfl (one_of HT_.out (by kernel_rfl)) (by decide) (fun K hK => ?_)
     refine goes_ Tryd.func37 (by kernel_rfl) rfl #[.agg #[.int .i64 t260, .slice Ao37 t261.length co37], .agg #[.int .i64 t264, .slice Ao38 t265.length co38]] (by rfl) rfl rfl ma_ ?_
     with_reducible refine (spec_SubtractWholes.calls k t260 _ _ t261 t264 _ _ t265 t268 t269 t272 _ ?side1 ?side2 ?side3 ?side4 A21.out).mono ?_
     (case side1 => repeat (first | exact (Kd.R_reads' HO263.out).2.2 | (with_reducible refine Kd.C_alloc ?_ _) | (with_reducible refine Kd.C_drewN ?_ _) | (with_reducible refine Kd.C_drew ?_)))
     (case side2 => exact (Kd.R_reads' HO263.out).2.1)
     (case side3 => repeat (first | exact (Kd.R_reads' HO267.out).2.2 | (with_reducible refine Kd.C_alloc ?_ _) | (with_reducible refine Kd.C_drewN ?_ _) | (with_reducible refine Kd.C_drew ?_)))
     (case side4 => exact (Kd.R_reads' HO267.out).2.1)
     rintro e w39 ⟨v270, rfl, ho0, hb⟩
     refine ⟨_, rfl, ?_⟩
     have n0_ := am_ (Kd.R_elder' (kr_ HO263) (Kd.R_base ho0) hb); have n1_ := am_ (Kd.R_elder' (kr_ HO267) (Kd.R_base ho0) hb); have n2_ := am_ (Kd.R_lower (Kd.R_new' (Kd.R_new' ho0 (Kd.R_lt (kr_ HO263))) (Kd.R_lt (kr_ HO267))) (below_size (bl_ HB))); have n3_ := am_ (blk_below (bk_ BK256) hb); have n4_ := am_ (blk_below (bk_ BK257) hb); have n5_ := am_ (blk_below (bk_ BK273) hb); have n6_ := am_ (below_step (bl_ HB) hb); clear HO263 HO267 BK256 BK257 BK273 HB; have HO263 := n0_; have HO267 := n1_; have HO271 := n2_; have BK256 := n3_; have BK257 := n4_; have BK273 := n5_; have HB := n6_; clear n0_ n1_ n2_ n3_ n4_ n5_ n6_; (try clear hb); (try clear hb2); (try clear hk); (try clear hi); (try clear ho0)
     refine hK.out _ _ ⟨(blk_cell BK256.out 0).trans rfl, (blk_cell BK256.out 1).trans rfl, (blk_cell BK257.out 0).trans rfl, (blk_cell BK257.out 1).trans rfl⟩ (fun hHeld => ?_)
     clear hK K
     refine norm_ (a' := ?_) ?_ ?_
     rotate_left
     ·show Act.put _ (some 32) _ = _
      exact nm_
     refine pure_ (i := 5) (N := some 27) (v := ?_) (a' := ?_) #[true, true, true, true, true, true, false, false, true, false, false] rfl rfl (any_of HT_.out (by kernel_rfl)) (fun _ _ _ h => h) (Or.inl ⟨by rfl, ?_⟩) ?_ ?_
     rotate_left
     ·intro w'
      go_simp
      with_reducible rfl
     rotate_left
     ·exact nm_
     refine pure_ (i := 6) (N := some 33) (v := ?_) (a' := ?_) #[true, true, true, true, true, true, true, false, true, false, false] rfl rfl (any_of HT_.out (by kernel_rfl)) (fun _ _ _ h => h) (Or.inl ⟨by rfl, ?_⟩) ?_ ?_
     rotate_left
     ·intro w'
      go_simp
      with_reducible rfl
     rotate_left
     ·exact nm_
     refine pure_ (i := 7) (N := some 34) (v := ?_) (a' := ?_) #[true, true, true, true, true, true, true, true, true, false, false] rfl rfl (any_of HT_.out (by kernel_rfl)) (fun _ _ _ h => h) (Or.inl ⟨by rfl, ?_⟩) ?_ ?_
     rotate_left
     ·intro w'
      go_simp
      with_reducible rfl
     rotate_left
     ·exact nm_
     exact norm_ (by simp only [putAll, Act.put, List.setIfInBounds_toArray, List.set_cons_zero, List.set_cons_succ]) (hCont (.slice Ao37 t261.length co37, .slice Ao38 t265.length co38, v270, gb273) _ ⟨hHeld, (km_ HO263 (fun _ hk => ⟨hk.1.2, hk.2⟩)), (km_ HO267 (fun _ hk => ⟨hk.1.2, hk.2⟩)), (km_ HO271 (fun _ hk => ⟨hk.1.2, hk.2⟩)), (bk_ BK256), (bk_ BK257), (bk_ BK273), GW273.out, GE273.out, NB256_273.out, NB273_256.out, NB257_273.out, NB273_257.out, (bl_ HB)⟩)
   rintro ⟨v262, v266, v270, gb273⟩ w40 ⟨hS_, h0_, h1_, h2_, h3_, h4_, h5_, h6_, h7_, h8_, h9_, h10_, h11_, h12_⟩
   have n0_ : Aside0 (Kd.R (Kd.int .i64) 2 w40 w.heap.size (fun k_ => some k_ ≠ (v266 : Value).ownBlock ∧ some k_ ≠ (v270 : Value).ownBlock) v262 t261) := ⟨h0_⟩
   have n1_ : Aside0 (Kd.R (Kd.int .i64) 2 w40 w.heap.size (fun k_ => some k_ ≠ (v262 : Value).ownBlock ∧ some k_ ≠ (v270 : Value).ownBlock) v266 t265) := ⟨h1_⟩
   have n2_ : Aside0 (Kd.R (Kd.int .i64) 2 w40 w.heap.size (fun k_ => some k_ ≠ (v262 : Value).ownBlock ∧ some k_ ≠ (v266 : Value).ownBlock) v270 t269) := ⟨h2_⟩
   have n3_ : Aside0 (w40.heap[gb256]? = some (.cells #[.int .i64 a0_0, .slice A0_1 l0_1.length c0_1] 24 (0, 0))) := ⟨h3_⟩
   have n4_ : Aside0 (w40.heap[gb257]? = some (.cells #[.int .i64 a1_0, .slice A1_1 l1_1.length c1_1] 24 (0, 0))) := ⟨h4_⟩
   have n5_ : Aside0 (w40.heap[gb273]? = some (.cells #[.int .i64 0, .slice none 0 0] 28 (0, 0))) := ⟨h5_⟩
   have n6_ : Aside0 (w.heap.size ≤ gb273) := ⟨h6_⟩
   have n7_ : Aside0 (w.heap.size ≤ gb273) := ⟨h7_⟩
   have n8_ : Aside0 (gb256 ≠ gb273) := ⟨h8_⟩
   have n9_ : Aside0 (gb273 ≠ gb256) := ⟨h9_⟩
   have n10_ : Aside0 (gb257 ≠ gb273) := ⟨h10_⟩
   have n11_ : Aside0 (gb273 ≠ gb257) := ⟨h11_⟩
   have n12_ : Aside0 (Below w.heap.size w w40) := ⟨h12_⟩
   clear BK256 BK257 HB h0_ h1_ h2_ h3_ h4_ h5_ h6_ h7_ h8_ h9_ h10_ h11_ h12_; have HO263 := n0_; have HO267 := n1_; have HO271 := n2_; have BK256 := n3_; have BK257 := n4_; have BK273 := n5_; have GW273 := n6_; have GE273 := n7_; have NB256_273 := n8_; have NB273_256 := n9_; have NB257_273 := n10_; have NB273_257 := n11_; have HB := n12_; clear n0_ n1_ n2_ n3_ n4_ n5_ n6_ n7_ n8_ n9_ n10_ n11_ n12_
   have hHeld : w40.cell? ⟨gb256, 0, none⟩ = some (.int .i64 a0_0) ∧ w40.cell? ⟨gb256, 1, none⟩ = some (.slice A0_1 l0_1.length c0_1) ∧ w40.cell? ⟨gb257, 0, none⟩ = some (.int .i64 a1_0) ∧ w40.cell? ⟨gb257, 1, none⟩ = some (.slice A1_1 l1_1.length c1_1) := hS_
   obtain ⟨Ao42, co42, eo42⟩ := Kd.R_slice HO271.out
   (first | subst eo42 | (injection eo42 with f1_ f2_ f3_; have f4_ := f1_.symm; have f5_ := f3_.symm; clear f1_ f2_ f3_; subst f4_; subst f5_))
   refine norm_ (a' := ?_) ?_ ?_
   rotate_left
   ·simp only [putAll, Act.put, List.setIfInBounds_toArray, List.set_cons_zero, List.set_cons_succ]
    rfl
   refine one_ (i := 9) (N := none) #[true, true, true, true, true, true, true, true, true, true, false] rfl rfl (one_of HT_.out (by kernel_rfl)) (by decide) (fun K hK => ?_)
   have hs41 : w40.cell? ⟨gb273, 0, none⟩ = some (.int .i64 0) := (blk_cell BK273.out 0).trans rfl
   have hfs41 := blk_frozen BK273.out 0; have hns41_0 := NB256_273.out; have hns41_1 := NB257_273.out; have hms41_0 := NB273_256.out; have hms41_1 := NB273_257.out
   have hs43 : w40.cell? ⟨gb273, 1, none⟩ = some (.slice none 0 0) := (blk_cell BK273.out 1).trans rfl
   have hfs43 := blk_frozen BK273.out 1; have hns43_0 := NB256_273.out; have hns43_1 := NB257_273.out; have hms43_0 := NB273_256.out; have hms43_1 := NB273_257.out
   refine skip_ (w1 := ?_) (by rfl) rfl ?_ ?_
   rotate_left
   ·go_simp
    rfl
   refine hK.out _ _ ⟨((cell_far (p := ⟨gb273, _, none⟩) NB256_273.out _).trans (((cell_far (p := ⟨gb273, _, none⟩) NB256_273.out _).trans (hHeld.1)))), ((cell_far (p := ⟨gb273, _, none⟩) NB256_273.out _).trans (((cell_far (p := ⟨gb273, _, none⟩) NB256_273.out _).trans (hHeld.2.1)))), ((cell_far (p := ⟨gb273, _, none⟩) NB257_273.out _).trans (((cell_far (p := ⟨gb273, _, none⟩) NB257_273.out _).trans (hHeld.2.2.1)))), ((cell_far (p := ⟨gb273, _, none⟩) NB257_273.out _).trans (((cell_far (p := ⟨gb273, _, none⟩) NB257_273.out _).trans (hHeld.2.2.2))))⟩ (fun hHeld => ?_)
   clear hK K
   refine pure_ (i := 10) (N := some 7) (v := ?_) (a' := ?_) #[true, true, true, true, true, true, true, true, true, true, true] rfl rfl (any_of HT_.out (by kernel_rfl)) (fun _ _ _ h => h) (Or.inl ⟨by rfl, ?_⟩) ?_ ?_
   rotate_left
   ·intro w'
    go_simp
    with_reducible rfl
   rotate_left
   ·exact nm_
   refine done_ (done_of HT_.out (by kernel_rfl)) ?_
   have hnb44 := NB256_273.out; have hnc44 := NB273_256.out
   have hcz45_0 : w40.cell? ⟨gb256, 0, none⟩ = some (.int .i64 a0_0) := (blk_cell BK256.out 0).trans rfl
   have hcz45_1 : w40.cell? ⟨gb256, 1, none⟩ = some (.slice A0_1 l0_1.length c0_1) := (blk_cell BK256.out 1).trans rfl
   have hfz45_0 := blk_frozen BK256.out 0; have hfz45_1 := blk_frozen BK256.out 1
   go_upto_region 12 with (first | ((with_reducible refine gate_callee (f := 20) rfl ?_); refine goesL_ (some 36) rfl rfl Tryd.func20 (by kernel_rfl) rfl #[.agg #[.int .i64 a0_0, .slice A0_1 l0_1.length c0_1]] rfl ma_ ?_; (with_reducible refine (laws_toWhole.calls k a0_0 _ _ l0_1 t274 t275 _ ?side1 ?side2 A22.out).mono ?_); (case side1 => exact Kd.C_below HR0_1.out (bl_ HB)); (case side2 => exact HC0_1.out); rintro e w46 ⟨v276, rfl, ho0, hb⟩; refine ⟨_, rfl, ?_⟩; have n0_ := am_ (Kd.R_elder' (rg_ HO263 BK273) (Kd.R_base ho0) hb); have n1_ := am_ (Kd.R_elder' (rg_ HO267 BK273) (Kd.R_base ho0) hb); have n2_ := am_ (Kd.R_elder' (rg_ HO271 BK273) (Kd.R_base ho0) hb); have n3_ := am_ (Kd.R_lower (Kd.R_new' (Kd.R_new' (Kd.R_new' ho0 (Kd.R_lt (rg_ HO263 BK273))) (Kd.R_lt (rg_ HO267 BK273))) (Kd.R_lt (rg_ HO271 BK273))) (below_size (bl_ HB))); have n4_ := am_ (blk_below (bk_ BK256) hb); have n5_ := am_ (blk_below (bk_ BK257) hb); have n6_ := am_ (blk_below (g := gb273) (o := .cells #[.int .i64 t268, .slice Ao42 t269.length co42] 28 (0, 0)) (by (with_reducible repeat (first | refine blk_drewN ?_ _ | refine blk_drew ?_ | refine blk_alloc ?_ _)); refine blk_put (cs := #[.int .i64 t268, .slice none 0 0]) ?_ 1 _ rfl; (with_reducible repeat (first | refine blk_drewN ?_ _ | refine blk_drew ?_ | refine blk_alloc ?_ _)); refine blk_put (cs := #[.int .i64 0, .slice none 0 0]) ?_ 0 _ rfl; (with_reducible repeat (first | refine blk_drewN ?_ _ | refine blk_drew ?_ | refine blk_alloc ?_ _)); exact BK273.out) hb); have n7_ := am_ (below_step (bl_ HB) hb); clear HO263; clear HO267; clear HO271; clear BK256; clear BK257; clear BK273; clear HB; have HO263 := n0_; have HO267 := n1_; have HO271 := n2_; have HO277 := n3_; have BK256 := n4_; have BK257 := n5_; have BK273 := n6_; have HB := n7_; clear n0_ n1_ n2_ n3_ n4_ n5_ n6_ n7_; (try clear hb); (try clear hb2); (try clear hk); (try clear hi); (try clear ho0)) | ((with_reducible refine gate_dst (N := 8) rfl ?_); refine box_event ?hg (N := 8) ?hd (cs := #[.int .i64 0, .slice none 0 0]) (t := 28) ?hr ?_; (case hd => rfl); (case hg => rfl); (case hr => first | (go_simp; done) | (go_simp; rfl)); intro gb278 hg w47 hbox hb; have n0_ := am_ (Kd.R_below (kr_ HO263) hb); have n1_ := am_ (Kd.R_below (kr_ HO267) hb); have n2_ := am_ (Kd.R_below (kr_ HO271) hb); have n3_ := am_ (Kd.R_below (kr_ HO277) hb); have n4_ := am_ (blk_below (bk_ BK256) hb); have n5_ := am_ (blk_below (bk_ BK257) hb); have n6_ := am_ (blk_below (bk_ BK273) hb); have n7_ := am_ (below_step (bl_ HB) hb); have n8_ := am_ (hbox); have n9_ := am_ (gs_ hg HB); have n10_ := am_ (gs_ hg HB); have n11_ := am_ (nl_ hg BK256); have n12_ := am_ (ng_ hg BK256); have n13_ := am_ (nl_ hg BK257); have n14_ := am_ (ng_ hg BK257); have n15_ := am_ (nl_ hg BK273); have n16_ := am_ (ng_ hg BK273); clear HO263; clear HO267; clear HO271; clear HO277; clear BK256; clear BK257; clear BK273; clear HB; have HO263 := n0_; have HO267 := n1_; have HO271 := n2_; have HO277 := n3_; have BK256 := n4_; have BK257 := n5_; have BK273 := n6_; have HB := n7_; have BK278 := n8_; have GW278 := n9_; have GE278 := n10_; have NB256_278 := n11_; have NB278_256 := n12_; have NB257_278 := n13_; have NB278_257 := n14_; have NB273_278 := n15_; have NB278_273 := n16_; clear n0_ n1_ n2_ n3_ n4_ n5_ n6_ n7_ n8_ n9_ n10_ n11_ n12_ n13_ n14_ n15_ n16_; clear hb hbox hg; have hnb48 := NB278_256.out; have hnc48 := NB256_278.out; have hnb49 := NB278_257.out; have hnc49 := NB257_278.out; have hnb50 := NB278_273.out; have hnc50 := NB273_278.out; have hcz51_0 : w47.cell? ⟨gb278, 0, none⟩ = some (.int .i64 0) := (blk_cell BK278.out 0).trans rfl; have hcz51_1 : w47.cell? ⟨gb278, 1, none⟩ = some (.slice none 0 0) := (blk_cell BK278.out 1).trans rfl; have hfz51_0 := blk_frozen BK278.out 0; have hfz51_1 := blk_frozen BK278.out 1; obtain ⟨Ao52, co52, eo52⟩ := Kd.R_slice HO277.out; subst eo52; have hnb53 := NB257_273.out; have hnc53 := NB273_257.out; have hcz54_0 : w47.cell? ⟨gb257, 0, none⟩ = some (.int .i64 a1_0) := (blk_cell BK257.out 0).trans rfl; have hcz54_1 : w47.cell? ⟨gb257, 1, none⟩ = some (.slice A1_1 l1_1.length c1_1) := (blk_cell BK257.out 1).trans rfl; have hfz54_0 := blk_frozen BK257.out 0; have hfz54_1 := blk_frozen BK257.out 1) | ((with_reducible refine gate_callee (f := 20) rfl ?_); refine goesL_ (some 38) rfl rfl Tryd.func20 (by kernel_rfl) rfl #[.agg #[.int .i64 a1_0, .slice A1_1 l1_1.length c1_1]] rfl ma_ ?_; (with_reducible refine (laws_toWhole.calls k a1_0 _ _ l1_1 t279 t280 _ ?side1 ?side2 A23.out).mono ?_); (case side1 => exact Kd.C_below HR1_1.out (bl_ HB)); (case side2 => exact HC1_1.out); rintro e w55 ⟨v281, rfl, ho0, hb⟩; refine ⟨_, rfl, ?_⟩; have n0_ := am_ (Kd.R_elder' (rg_ HO263 BK278) (Kd.R_base ho0) hb); have n1_ := am_ (Kd.R_elder' (rg_ HO267 BK278) (Kd.R_base ho0) hb); have n2_ := am_ (Kd.R_elder' (rg_ HO271 BK278) (Kd.R_base ho0) hb); have n3_ := am_ (Kd.R_elder' (rg_ HO277 BK278) (Kd.R_base ho0) hb); have n4_ := am_ (Kd.R_lower (Kd.R_new' (Kd.R_new' (Kd.R_new' (Kd.R_new' ho0 (Kd.R_lt (rg_ HO263 BK278))) (Kd.R_lt (rg_ HO267 BK278))) (Kd.R_lt (rg_ HO271 BK278))) (Kd.R_lt (rg_ HO277 BK278))) (below_size (bl_ HB))); have n5_ := am_ (blk_below (bk_ BK256) hb); have n6_ := am_ (blk_below (bk_ BK257) hb); have n7_ := am_ (blk_below (bk_ BK273) hb); have n8_ := am_ (blk_below (g := gb278) (o := .cells #[.int .i64 t274, .slice Ao52 t275.length co52] 28 (0, 0)) (by (with_reducible repeat (first | refine blk_drewN ?_ _ | refine blk_drew ?_ | refine blk_alloc ?_ _)); refine blk_put (cs := #[.int .i64 t274, .slice none 0 0]) ?_ 1 _ rfl; (with_reducible repeat (first | refine blk_drewN ?_ _ | refine blk_drew ?_ | refine blk_alloc ?_ _)); refine blk_put (cs := #[.int .i64 0, .slice none 0 0]) ?_ 0 _ rfl; (with_reducible repeat (first | refine blk_drewN ?_ _ | refine blk_drew ?_ | refine blk_alloc ?_ _)); exact BK278.out) hb); have n9_ := am_ (below_step (bl_ HB) hb); clear HO263; clear HO267; clear HO271; clear HO277; clear BK256; clear BK257; clear BK273; clear BK278; clear HB; have HO263 := n0_; have HO267 := n1_; have HO271 := n2_; have HO277 := n3_; have HO282 := n4_; have BK256 := n5_; have BK257 := n6_; have BK273 := n7_; have BK278 := n8_; have HB := n9_; clear n0_ n1_ n2_ n3_ n4_ n5_ n6_ n7_ n8_ n9_; (try clear hb); (try clear hb2); (try clear hk); (try clear hi); (try clear ho0)) | ((with_reducible refine gate_dst (N := 9) rfl ?_); refine box_event ?hg (N := 9) ?hd (cs := #[.int .i64 0, .slice none 0 0]) (t := 28) ?hr ?_; (case hd => rfl); (case hg => rfl); (case hr => first | (go_simp; done) | (go_simp; rfl)); intro gb283 hg w56 hbox hb; have n0_ := am_ (Kd.R_below (kr_ HO263) hb); have n1_ := am_ (Kd.R_below (kr_ HO267) hb); have n2_ := am_ (Kd.R_below (kr_ HO271) hb); have n3_ := am_ (Kd.R_below (kr_ HO277) hb); have n4_ := am_ (Kd.R_below (kr_ HO282) hb); have n5_ := am_ (blk_below (bk_ BK256) hb); have n6_ := am_ (blk_below (bk_ BK257) hb); have n7_ := am_ (blk_below (bk_ BK273) hb); have n8_ := am_ (blk_below (bk_ BK278) hb); have n9_ := am_ (below_step (bl_ HB) hb); have n10_ := am_ (hbox); have n11_ := am_ (gs_ hg HB); have n12_ := am_ (gs_ hg HB); have n13_ := am_ (nl_ hg BK256); have n14_ := am_ (ng_ hg BK256); have n15_ := am_ (nl_ hg BK257); have n16_ := am_ (ng_ hg BK257); have n17_ := am_ (nl_ hg BK273); have n18_ := am_ (ng_ hg BK273); have n19_ := am_ (nl_ hg BK278); have n20_ := am_ (ng_ hg BK278); clear HO263; clear HO267; clear HO271; clear HO277; clear HO282; clear BK256; clear BK257; clear BK273; clear BK278; clear HB; have HO263 := n0_; have HO267 := n1_; have HO271 := n2_; have HO277 := n3_; have HO282 := n4_; have BK256 := n5_; have BK257 := n6_; have BK273 := n7_; have BK278 := n8_; have HB := n9_; have BK283 := n10_; have GW283 := n11_; have GE283 := n12_; have NB256_283 := n13_; have NB283_256 := n14_; have NB257_283 := n15_; have NB283_257 := n16_; have NB273_283 := n17_; have NB283_273 := n18_; have NB278_283 := n19_; have NB283_278 := n20_; clear n0_ n1_ n2_ n3_ n4_ n5_ n6_ n7_ n8_ n9_ n10_ n11_ n12_ n13_ n14_ n15_ n16_ n17_ n18_ n19_ n20_; clear hb hbox hg; have hnb57 := NB283_256.out; have hnc57 := NB256_283.out; have hnb58 := NB283_257.out; have hnc58 := NB257_283.out; have hnb59 := NB283_273.out; have hnc59 := NB273_283.out; have hnb60 := NB283_278.out; have hnc60 := NB278_283.out; have hcz61_0 : w56.cell? ⟨gb283, 0, none⟩ = some (.int .i64 0) := (blk_cell BK283.out 0).trans rfl; have hcz61_1 : w56.cell? ⟨gb283, 1, none⟩ = some (.slice none 0 0) := (blk_cell BK283.out 1).trans rfl; have hfz61_0 := blk_frozen BK283.out 0; have hfz61_1 := blk_frozen BK283.out 1; obtain ⟨Ao62, co62, eo62⟩ := Kd.R_slice HO282.out; subst eo62; have hcz63_0 : w56.cell? ⟨gb278, 0, none⟩ = some (.int .i64 t274) := (blk_cell BK278.out 0).trans rfl; have hcz63_1 : w56.cell? ⟨gb278, 1, none⟩ = some (.slice Ao52 t275.length co52) := (blk_cell BK278.out 1).trans rfl; have hfz63_0 := blk_frozen BK278.out 0; have hfz63_1 := blk_frozen BK278.out 1) | ((with_reducible refine gate_callee (f := 38) rfl ?_); refine goesL_ (some 42) rfl rfl Tryd.func38 (by kernel_rfl) rfl #[.agg #[.int .i64 t274, .slice Ao52 t275.length co52], .agg #[.int .i64 t279, .slice Ao62 t280.length co62]] rfl ma_ ?_; (with_reducible refine (impl_SubtractWholes.calls t274 _ _ t275 t279 _ _ t280 t284 t285 t288 _ ?side1 ?side2 ?side3 ?side4 A24.out).mono ?_); (case side1 => refine (Kd.R_reads' (e := 2) (base := w.heap.size) (ok := fun k_ => ((((True ∧ some k_ ≠ (v262 : Value).ownBlock) ∧ some k_ ≠ (v266 : Value).ownBlock) ∧ some k_ ≠ (.slice Ao42 t269.length co42 : Value).ownBlock) ∧ some k_ ≠ (.slice Ao62 t280.length co62 : Value).ownBlock)) (n := t275.length) (c := co52) ?_).2.2; exact (rg_ HO277 BK283)); (case side2 => exact (Kd.R_reads' HO277.out).2.1); (case side3 => refine (Kd.R_reads' (e := 2) (base := w.heap.size) (ok := fun k_ => ((((True ∧ some k_ ≠ (v262 : Value).ownBlock) ∧ some k_ ≠ (v266 : Value).ownBlock) ∧ some k_ ≠ (.slice Ao42 t269.length co42 : Value).ownBlock) ∧ some k_ ≠ (.slice Ao52 t275.length co52 : Value).ownBlock)) (n := t280.length) (c := co62) ?_).2.2; exact (rg_ HO282 BK283)); (case side4 => exact (Kd.R_reads' HO282.out).2.1); rintro e w64 ⟨v286, rfl, ho0, hb⟩; refine ⟨_, rfl, ?_⟩; have n0_ := am_ (Kd.R_elder' (rg_ HO263 BK283) (Kd.R_base ho0) hb); have n1_ := am_ (Kd.R_elder' (rg_ HO267 BK283) (Kd.R_base ho0) hb); have n2_ := am_ (Kd.R_elder' (rg_ HO271 BK283) (Kd.R_base ho0) hb); have n3_ := am_ (Kd.R_elder' (rg_ HO277 BK283) (Kd.R_base ho0) hb); have n4_ := am_ (Kd.R_elder' (rg_ HO282 BK283) (Kd.R_base ho0) hb); have n5_ := am_ (Kd.R_lower (Kd.R_new' (Kd.R_new' (Kd.R_new' (Kd.R_new' (Kd.R_new' ho0 (Kd.R_lt (rg_ HO263 BK283))) (Kd.R_lt (rg_ HO267 BK283))) (Kd.R_lt (rg_ HO271 BK283))) (Kd.R_lt (rg_ HO277 BK283))) (Kd.R_lt (rg_ HO282 BK283))) (below_size (bl_ HB))); have n6_ := am_ (blk_below (bk_ BK256) hb); have n7_ := am_ (blk_below (bk_ BK257) hb); have n8_ := am_ (blk_below (bk_ BK273) hb); have n9_ := am_ (blk_below (bk_ BK278) hb); have n10_ := am_ (blk_below (g := gb283) (o := .cells #[.int .i64 t279, .slice Ao62 t280.length co62] 28 (0, 0)) (by (with_reducible repeat (first | refine blk_drewN ?_ _ | refine blk_drew ?_ | refine blk_alloc ?_ _)); refine blk_put (cs := #[.int .i64 t279, .slice none 0 0]) ?_ 1 _ rfl; (with_reducible repeat (first | refine blk_drewN ?_ _ | refine blk_drew ?_ | refine blk_alloc ?_ _)); refine blk_put (cs := #[.int .i64 0, .slice none 0 0]) ?_ 0 _ rfl; (with_reducible repeat (first | refine blk_drewN ?_ _ | refine blk_drew ?_ | refine blk_alloc ?_ _)); exact BK283.out) hb); have n11_ := am_ (below_step (bl_ HB) hb); clear HO263; clear HO267; clear HO271; clear HO277; clear HO282; clear BK256; clear BK257; clear BK273; clear BK278; clear BK283; clear HB; have HO263 := n0_; have HO267 := n1_; have HO271 := n2_; have HO277 := n3_; have HO282 := n4_; have HO287 := n5_; have BK256 := n6_; have BK257 := n7_; have BK273 := n8_; have BK278 := n9_; have BK283 := n10_; have HB := n11_; clear n0_ n1_ n2_ n3_ n4_ n5_ n6_ n7_ n8_ n9_ n10_ n11_; (try clear hb); (try clear hb2); (try clear hk); (try clear hi); (try clear ho0)) | ((with_reducible refine gate_dst (N := 10) rfl ?_); refine box_event ?hg (N := 10) ?hd (cs := #[.int .i64 0, .slice none 0 0]) (t := 28) ?hr ?_; (case hd => rfl); (case hg => rfl); (case hr => first | (go_simp; done) | (go_simp; rfl)); intro gb289 hg w65 hbox hb; have n0_ := am_ (Kd.R_below (kr_ HO263) hb); have n1_ := am_ (Kd.R_below (kr_ HO267) hb); have n2_ := am_ (Kd.R_below (kr_ HO271) hb); have n3_ := am_ (Kd.R_below (kr_ HO277) hb); have n4_ := am_ (Kd.R_below (kr_ HO282) hb); have n5_ := am_ (Kd.R_below (kr_ HO287) hb); have n6_ := am_ (blk_below (bk_ BK256) hb); have n7_ := am_ (blk_below (bk_ BK257) hb); have n8_ := am_ (blk_below (bk_ BK273) hb); have n9_ := am_ (blk_below (bk_ BK278) hb); have n10_ := am_ (blk_below (bk_ BK283) hb); have n11_ := am_ (below_step (bl_ HB) hb); have n12_ := am_ (hbox); have n13_ := am_ (gs_ hg HB); have n14_ := am_ (gs_ hg HB); have n15_ := am_ (nl_ hg BK256); have n16_ := am_ (ng_ hg BK256); have n17_ := am_ (nl_ hg BK257); have n18_ := am_ (ng_ hg BK257); have n19_ := am_ (nl_ hg BK273); have n20_ := am_ (ng_ hg BK273); have n21_ := am_ (nl_ hg BK278); have n22_ := am_ (ng_ hg BK278); have n23_ := am_ (nl_ hg BK283); have n24_ := am_ (ng_ hg BK283); clear HO263; clear HO267; clear HO271; clear HO277; clear HO282; clear HO287; clear BK256; clear BK257; clear BK273; clear BK278; clear BK283; clear HB; have HO263 := n0_; have HO267 := n1_; have HO271 := n2_; have HO277 := n3_; have HO282 := n4_; have HO287 := n5_; have BK256 := n6_; have BK257 := n7_; have BK273 := n8_; have BK278 := n9_; have BK283 := n10_; have HB := n11_; have BK289 := n12_; have GW289 := n13_; have GE289 := n14_; have NB256_289 := n15_; have NB289_256 := n16_; have NB257_289 := n17_; have NB289_257 := n18_; have NB273_289 := n19_; have NB289_273 := n20_; have NB278_289 := n21_; have NB289_278 := n22_; have NB283_289 := n23_; have NB289_283 := n24_; clear n0_ n1_ n2_ n3_ n4_ n5_ n6_ n7_ n8_ n9_ n10_ n11_ n12_ n13_ n14_ n15_ n16_ n17_ n18_ n19_ n20_ n21_ n22_ n23_ n24_; clear hb hbox hg; have hnb66 := NB289_256.out; have hnc66 := NB256_289.out; have hnb67 := NB289_257.out; have hnc67 := NB257_289.out; have hnb68 := NB289_273.out; have hnc68 := NB273_289.out; have hnb69 := NB289_278.out; have hnc69 := NB278_289.out; have hnb70 := NB289_283.out; have hnc70 := NB283_289.out; have hcz71_0 : w65.cell? ⟨gb289, 0, none⟩ = some (.int .i64 0) := (blk_cell BK289.out 0).trans rfl; have hcz71_1 : w65.cell? ⟨gb289, 1, none⟩ = some (.slice none 0 0) := (blk_cell BK289.out 1).trans rfl; have hfz71_0 := blk_frozen BK289.out 0; have hfz71_1 := blk_frozen BK289.out 1; obtain ⟨Ao72, co72, eo72⟩ := Kd.R_slice HO287.out; subst eo72))
   (try simp only [Act.put, List.setIfInBounds_toArray, List.set_cons_zero, List.set_cons_succ])
   go_cut [53] (fun v53 wc => ∃ (kq : Nat) (x53_24 : Bool), v53 = .bool x53_24 ∧ Aside0 (laws_FnExactSubtractWholes.j0 kq t272 t288 x53_24 a0_0 l0_1 a1_0 l1_1 t268 t269 t274 t275 t279 t280 t284 t285 = some r) ∧ Aside0 (kq ≤ k) ∧ Aside0 (Kd.R (Kd.int .i64) 2 wc w.heap.size (fun k_ => some k_ ≠ ((.slice Ao52 t275.length co52) : Value).ownBlock ∧ some k_ ≠ ((.slice Ao62 t280.length co62) : Value).ownBlock ∧ some k_ ≠ ((.slice Ao72 t285.length co72) : Value).ownBlock) (.slice Ao42 t269.length co42) t269) ∧ Aside0 (Kd.R (Kd.int .i64) 2 wc w.heap.size (fun k_ => some k_ ≠ ((.slice Ao42 t269.length co42) : Value).ownBlock ∧ some k_ ≠ ((.slice Ao62 t280.length co62) : Value).ownBlock ∧ some k_ ≠ ((.slice Ao72 t285.length co72) : Value).ownBlock) (.slice Ao52 t275.length co52) t275) ∧ Aside0 (Kd.R (Kd.int .i64) 2 wc w.heap.size (fun k_ => some k_ ≠ ((.slice Ao42 t269.length co42) : Value).ownBlock ∧ some k_ ≠ ((.slice Ao52 t275.length co52) : Value).ownBlock ∧ some k_ ≠ ((.slice Ao72 t285.length co72) : Value).ownBlock) (.slice Ao62 t280.length co62) t280) ∧ Aside0 (Kd.R (Kd.int .i64) 2 wc w.heap.size (fun k_ => some k_ ≠ ((.slice Ao42 t269.length co42) : Value).ownBlock ∧ some k_ ≠ ((.slice Ao52 t275.length co52) : Value).ownBlock ∧ some k_ ≠ ((.slice Ao62 t280.length co62) : Value).ownBlock) (.slice Ao72 t285.length co72) t285) ∧ Aside0 (wc.heap[gb256]? = some (.cells #[.int .i64 a0_0, (.slice A0_1 l0_1.length c0_1)] 24 (0, 0))) ∧ Aside0 (wc.heap[gb257]? = some (.cells #[.int .i64 a1_0, (.slice A1_1 l1_1.length c1_1)] 24 (0, 0))) ∧ Aside0 (wc.heap[gb273]? = some (.cells #[.int .i64 t268, (.slice Ao42 t269.length co42)] 28 (0, 0))) ∧ Aside0 (wc.heap[gb278]? = some (.cells #[.int .i64 t274, (.slice Ao52 t275.length co52)] 28 (0, 0))) ∧ Aside0 (wc.heap[gb283]? = some (.cells #[.int .i64 t279, (.slice Ao62 t280.length co62)] 28 (0, 0))) ∧ Aside0 (wc.heap[gb289]? = some (.cells #[.int .i64 t284, (.slice Ao72 t285.length co72)] 28 (0, 0))) ∧ Aside0 (Below w.heap.size w wc))
   case first =>
    have H := HC25.out; clear HC25
    replace H := Option.bind_eq_some_iff.mp H
    obtain ⟨t290, A730, H⟩ := H
    replace H : (if t290 = true then (laws_FnExactSubtractWholes.j0 k t272 t288 (t288 != t272) a0_0 l0_1 a1_0 l1_1 t268 t269 t274 t275 t279 t280 t284 t285) else (laws_FnExactSubtractWholes.j0 k t272 t288 true a0_0 l0_1 a1_0 l1_1 t268 t269 t274 t275 t279 t280 t284 t285)) = some r := H
    have A73 := Aside0.mk A730; clear A730
    by_cases c74 : t290 = true
    ·subst c74
     have H1 : (laws_FnExactSubtractWholes.j0 k t272 t288 (t288 != t272) a0_0 l0_1 a1_0 l1_1 t268 t269 t274 t275 t279 t280 t284 t285) = some r := by rw [if_pos rfl] at H; exact H
     clear H; have H := H1; clear H1
     have H' := Aside0.mk H
     clear H; have hnb75 := NB289_256.out; have hnc75 := NB256_289.out; have hnb76 := NB289_257.out; have hnc76 := NB257_289.out; have hnb77 := NB289_273.out; have hnc77 := NB273_289.out; have hnb78 := NB289_278.out; have hnc78 := NB278_289.out; have hnb79 := NB289_283.out; have hnc79 := NB283_289.out
     have hcz80_0 : w65.cell? ⟨gb289, 0, none⟩ = some (.int .i64 0) := (blk_cell BK289.out 0).trans rfl
     have hcz80_1 : w65.cell? ⟨gb289, 1, none⟩ = some (.slice none 0 0) := (blk_cell BK289.out 1).trans rfl
     have hfz80_0 := blk_frozen BK289.out 0; have hfz80_1 := blk_frozen BK289.out 1; have hnb81 := NB273_256.out; have hnc81 := NB256_273.out; have hnb82 := NB273_257.out; have hnc82 := NB257_273.out; have hnb83 := NB273_278.out; have hnc83 := NB278_273.out; have hnb84 := NB273_283.out; have hnc84 := NB283_273.out
     have hcz85_0 : w65.cell? ⟨gb273, 0, none⟩ = some (.int .i64 t268) := (blk_cell BK273.out 0).trans rfl
     have hcz85_1 : w65.cell? ⟨gb273, 1, none⟩ = some (.slice Ao42 t269.length co42) := (blk_cell BK273.out 1).trans rfl
     have hfz85_0 := blk_frozen BK273.out 0; have hfz85_1 := blk_frozen BK273.out 1
     go_wp2_with (first | ((with_reducible refine gate_callee (f := 22) rfl ?_); refine goesL_ (some 47) rfl rfl Tryd.func22 (by kernel_rfl) rfl #[.agg #[.int .i64 t284, .slice Ao72 t285.length co72], .agg #[.int .i64 t268, .slice Ao42 t269.length co42]] rfl ma_ ?_; (with_reducible refine (laws_eqWhole.calls k t284 _ _ t285 t268 _ _ t269 true _ ?side1 ?side2 ?side3 ?side4 A73.out).mono ?_); (case side1 => refine (Kd.R_reads' (e := 2) (base := w.heap.size) (ok := fun k_ => (((((True ∧ some k_ ≠ (v262 : Value).ownBlock) ∧ some k_ ≠ (v266 : Value).ownBlock) ∧ some k_ ≠ (.slice Ao42 t269.length co42 : Value).ownBlock) ∧ some k_ ≠ (.slice Ao52 t275.length co52 : Value).ownBlock) ∧ some k_ ≠ (.slice Ao62 t280.length co62 : Value).ownBlock)) (n := t285.length) (c := co72) ?_).2.2; exact (rg_ HO287 BK289)); (case side2 => exact (Kd.R_reads' HO287.out).2.1); (case side3 => refine (Kd.R_reads' (e := 2) (base := w.heap.size) (ok := fun k_ => ((((some k_ ≠ (v262 : Value).ownBlock ∧ some k_ ≠ (v266 : Value).ownBlock) ∧ some k_ ≠ (.slice Ao52 t275.length co52 : Value).ownBlock) ∧ some k_ ≠ (.slice Ao62 t280.length co62 : Value).ownBlock) ∧ some k_ ≠ (.slice Ao72 t285.length co72 : Value).ownBlock)) (n := t269.length) (c := co42) ?_).2.2; exact (rg_ HO271 BK289)); (case side4 => exact (Kd.R_reads' HO271.out).2.1); rintro e w86 ⟨rfl, hb⟩; refine ⟨_, rfl, ?_⟩; have n0_ := am_ (Kd.R_below (rg_ HO263 BK289) hb); have n1_ := am_ (Kd.R_below (rg_ HO267 BK289) hb); have n2_ := am_ (Kd.R_below (rg_ HO271 BK289) hb); have n3_ := am_ (Kd.R_below (rg_ HO277 BK289) hb); have n4_ := am_ (Kd.R_below (rg_ HO282 BK289) hb); have n5_ := am_ (Kd.R_below (rg_ HO287 BK289) hb); have n6_ := am_ (blk_below (bk_ BK256) hb); have n7_ := am_ (blk_below (bk_ BK257) hb); have n8_ := am_ (blk_below (bk_ BK273) hb); have n9_ := am_ (blk_below (bk_ BK278) hb); have n10_ := am_ (blk_below (bk_ BK283) hb); have n11_ := am_ (blk_below (g := gb289) (o := .cells #[.int .i64 t284, .slice Ao72 t285.length co72] 28 (0, 0)) (by (with_reducible repeat (first | refine blk_drewN ?_ _ | refine blk_drew ?_ | refine blk_alloc ?_ _)); refine blk_put (cs := #[.int .i64 t284, .slice none 0 0]) ?_ 1 _ rfl; (with_reducible repeat (first | refine blk_drewN ?_ _ | refine blk_drew ?_ | refine blk_alloc ?_ _)); refine blk_put (cs := #[.int .i64 0, .slice none 0 0]) ?_ 0 _ rfl; (with_reducible repeat (first | refine blk_drewN ?_ _ | refine blk_drew ?_ | refine blk_alloc ?_ _)); exact BK289.out) hb); have n12_ := am_ (below_step (bl_ HB) hb); clear HO263; clear HO267; clear HO271; clear HO277; clear HO282; clear HO287; clear BK256; clear BK257; clear BK273; clear BK278; clear BK283; clear BK289; clear HB; have HO263 := n0_; have HO267 := n1_; have HO271 := n2_; have HO277 := n3_; have HO282 := n4_; have HO287 := n5_; have BK256 := n6_; have BK257 := n7_; have BK273 := n8_; have BK278 := n9_; have BK283 := n10_; have BK289 := n11_; have HB := n12_; clear n0_ n1_ n2_ n3_ n4_ n5_ n6_ n7_ n8_ n9_ n10_ n11_ n12_; (try clear hb); (try clear hb2); (try clear hk); (try clear hi)))
     go_meet
     case rel => exact ⟨_, ((t288 != t272)), (by first | rfl | (simp; done) | (simp [*]; done)), H', ⟨by first | omega | exact Nat.le_refl _⟩, ⟨km_ HO271 (fun _ hk => ⟨hk.1.1.2, ⟨hk.1.2, hk.2⟩⟩)⟩, ⟨km_ HO277 (fun _ hk => ⟨hk.1.1.2, ⟨hk.1.2, hk.2⟩⟩)⟩, ⟨km_ HO282 (fun _ hk => ⟨hk.1.1.2, ⟨hk.1.2, hk.2⟩⟩)⟩, ⟨km_ HO287 (fun _ hk => ⟨hk.1.1.2, ⟨hk.1.2, hk.2⟩⟩)⟩, ⟨bk_ BK256⟩, ⟨bk_ BK257⟩, ⟨bk_ BK273⟩, ⟨bk_ BK278⟩, ⟨bk_ BK283⟩, ⟨bk_ BK289⟩, ⟨bl_ HB⟩⟩
    ·replace c74 := Bool.eq_false_iff.mpr c74
     subst c74
     have H1 : (laws_FnExactSubtractWholes.j0 k t272 t288 true a0_0 l0_1 a1_0 l1_1 t268 t269 t274 t275 t279 t280 t284 t285) = some r := by rw [if_neg (show ¬ (false = true) by decide)] at H; exact H
     clear H; have H := H1; clear H1
     have H' := Aside0.mk H
     clear H; have hnb87 := NB289_256.out; have hnc87 := NB256_289.out; have hnb88 := NB289_257.out; have hnc88 := NB257_289.out; have hnb89 := NB289_273.out; have hnc89 := NB273_289.out; have hnb90 := NB289_278.out; have hnc90 := NB278_289.out; have hnb91 := NB289_283.out; have hnc91 := NB283_289.out
     have hcz92_0 : w65.cell? ⟨gb289, 0, none⟩ = some (.int .i64 0) := (blk_cell BK289.out 0).trans rfl
     have hcz92_1 : w65.cell? ⟨gb289, 1, none⟩ = some (.slice none 0 0) := (blk_cell BK289.out 1).trans rfl
     have hfz92_0 := blk_frozen BK289.out 0; have hfz92_1 := blk_frozen BK289.out 1; have hnb93 := NB273_256.out; have hnc93 := NB256_273.out; have hnb94 := NB273_257.out; have hnc94 := NB257_273.out; have hnb95 := NB273_278.out; have hnc95 := NB278_273.out; have hnb96 := NB273_283.out; have hnc96 := NB283_273.out
     have hcz97_0 : w65.cell? ⟨gb273, 0, none⟩ = some (.int .i64 t268) := (blk_cell BK273.out 0).trans rfl
     have hcz97_1 : w65.cell? ⟨gb273, 1, none⟩ = some (.slice Ao42 t269.length co42) := (blk_cell BK273.out 1).trans rfl
     have hfz97_0 := blk_frozen BK273.out 0; have hfz97_1 := blk_frozen BK273.out 1
     go_wp2_with (first | ((with_reducible refine gate_callee (f := 22) rfl ?_); refine goesL_ (some 47) rfl rfl Tryd.func22 (by kernel_rfl) rfl #[.agg #[.int .i64 t284, .slice Ao72 t285.length co72], .agg #[.int .i64 t268, .slice Ao42 t269.length co42]] rfl ma_ ?_; (with_reducible refine (laws_eqWhole.calls k t284 _ _ t285 t268 _ _ t269 false _ ?side1 ?side2 ?side3 ?side4 A73.out).mono ?_); (case side1 => refine (Kd.R_reads' (e := 2) (base := w.heap.size) (ok := fun k_ => (((((True ∧ some k_ ≠ (v262 : Value).ownBlock) ∧ some k_ ≠ (v266 : Value).ownBlock) ∧ some k_ ≠ (.slice Ao42 t269.length co42 : Value).ownBlock) ∧ some k_ ≠ (.slice Ao52 t275.length co52 : Value).ownBlock) ∧ some k_ ≠ (.slice Ao62 t280.length co62 : Value).ownBlock)) (n := t285.length) (c := co72) ?_).2.2; exact (rg_ HO287 BK289)); (case side2 => exact (Kd.R_reads' HO287.out).2.1); (case side3 => refine (Kd.R_reads' (e := 2) (base := w.heap.size) (ok := fun k_ => ((((some k_ ≠ (v262 : Value).ownBlock ∧ some k_ ≠ (v266 : Value).ownBlock) ∧ some k_ ≠ (.slice Ao52 t275.length co52 : Value).ownBlock) ∧ some k_ ≠ (.slice Ao62 t280.length co62 : Value).ownBlock) ∧ some k_ ≠ (.slice Ao72 t285.length co72 : Value).ownBlock)) (n := t269.length) (c := co42) ?_).2.2; exact (rg_ HO271 BK289)); (case side4 => exact (Kd.R_reads' HO271.out).2.1); rintro e w98 ⟨rfl, hb⟩; refine ⟨_, rfl, ?_⟩; have n0_ := am_ (Kd.R_below (rg_ HO263 BK289) hb); have n1_ := am_ (Kd.R_below (rg_ HO267 BK289) hb); have n2_ := am_ (Kd.R_below (rg_ HO271 BK289) hb); have n3_ := am_ (Kd.R_below (rg_ HO277 BK289) hb); have n4_ := am_ (Kd.R_below (rg_ HO282 BK289) hb); have n5_ := am_ (Kd.R_below (rg_ HO287 BK289) hb); have n6_ := am_ (blk_below (bk_ BK256) hb); have n7_ := am_ (blk_below (bk_ BK257) hb); have n8_ := am_ (blk_below (bk_ BK273) hb); have n9_ := am_ (blk_below (bk_ BK278) hb); have n10_ := am_ (blk_below (bk_ BK283) hb); have n11_ := am_ (blk_below (g := gb289) (o := .cells #[.int .i64 t284, .slice Ao72 t285.length co72] 28 (0, 0)) (by (with_reducible repeat (first | refine blk_drewN ?_ _ | refine blk_drew ?_ | refine blk_alloc ?_ _)); refine blk_put (cs := #[.int .i64 t284, .slice none 0 0]) ?_ 1 _ rfl; (with_reducible repeat (first | refine blk_drewN ?_ _ | refine blk_drew ?_ | refine blk_alloc ?_ _)); refine blk_put (cs := #[.int .i64 0, .slice none 0 0]) ?_ 0 _ rfl; (with_reducible repeat (first | refine blk_drewN ?_ _ | refine blk_drew ?_ | refine blk_alloc ?_ _)); exact BK289.out) hb); have n12_ := am_ (below_step (bl_ HB) hb); clear HO263; clear HO267; clear HO271; clear HO277; clear HO282; clear HO287; clear BK256; clear BK257; clear BK273; clear BK278; clear BK283; clear BK289; clear HB; have HO263 := n0_; have HO267 := n1_; have HO271 := n2_; have HO277 := n3_; have HO282 := n4_; have HO287 := n5_; have BK256 := n6_; have BK257 := n7_; have BK273 := n8_; have BK278 := n9_; have BK283 := n10_; have BK289 := n11_; have HB := n12_; clear n0_ n1_ n2_ n3_ n4_ n5_ n6_ n7_ n8_ n9_ n10_ n11_ n12_; (try clear hb); (try clear hb2); (try clear hk); (try clear hi)))
     go_meet
     case rel => exact ⟨_, (true), (by first | rfl | (simp; done) | (simp [*]; done)), H', ⟨by first | omega | exact Nat.le_refl _⟩, ⟨km_ HO271 (fun _ hk => ⟨hk.1.1.2, ⟨hk.1.2, hk.2⟩⟩)⟩, ⟨km_ HO277 (fun _ hk => ⟨hk.1.1.2, ⟨hk.1.2, hk.2⟩⟩)⟩, ⟨km_ HO282 (fun _ hk => ⟨hk.1.1.2, ⟨hk.1.2, hk.2⟩⟩)⟩, ⟨km_ HO287 (fun _ hk => ⟨hk.1.1.2, ⟨hk.1.2, hk.2⟩⟩)⟩, ⟨bk_ BK256⟩, ⟨bk_ BK257⟩, ⟨bk_ BK273⟩, ⟨bk_ BK278⟩, ⟨bk_ BK283⟩, ⟨bk_ BK289⟩, ⟨bl_ HB⟩⟩
   case rest =>
    clear HC25; try clear c1; try clear c2; try clear p2; try clear c3; try clear c4; try clear c5; try clear c6; try clear c7; try clear c8; try clear c9; try clear c20; try clear c22; try clear c37; try clear c38; try clear c44; try clear c48; try clear c49; try clear c50; try clear c53; try clear c57; try clear c58; try clear c59; try clear c60; try clear c66; try clear c67; try clear c68; try clear c69; try clear c70; try clear c74; try clear c75; try clear c76; try clear c77; try clear c78; try clear c79; try clear c81; try clear c82; try clear c83; try clear c84; try clear c87; try clear c88; try clear c89; try clear c90; try clear c91; try clear c93; try clear c94; try clear c95; try clear c96; try clear hcz45_0; try clear hcz45_1; try clear hcz51_0; try clear hcz51_1; try clear hcz54_0; try clear hcz54_1; try clear hcz61_0; try clear hcz61_1; try clear hcz63_0; try clear hcz63_1; try clear hcz71_0; try clear hcz71_1; try clear hcz80_0; try clear hcz80_1; try clear hcz85_0; try clear hcz85_1; try clear hcz92_0; try clear hcz92_1; try clear hcz97_0; try clear hcz97_1; try clear hfz45_0; try clear hfz45_1; try clear hfz51_0; try clear hfz51_1; try clear hfz54_0; try clear hfz54_1; try clear hfz61_0; try clear hfz61_1; try clear hfz63_0; try clear hfz63_1; try clear hfz71_0; try clear hfz71_1; try clear hfz80_0; try clear hfz80_1; try clear hfz85_0; try clear hfz85_1; try clear hfz92_0; try clear hfz92_1; try clear hfz97_0; try clear hfz97_1
    obtain ⟨kq, x53_24, rfl, HA, HJ24, HO_274001, HO_279001, HO_284001, HO_290001, BK256, BK257, BK273, BK278, BK283, BK289, HB⟩ := hcut
    cases kq with
    | zero => exact absurd HA.out (by simp [laws_FnExactSubtractWholes.j0])
    | succ kj24 =>
     have H := HA.out; clear HA
     simp only [laws_FnExactSubtractWholes.j0] at H
     by_cases c99 : x53_24 = true
     ·subst c99
      have H1 : (some false) = some r := by rw [if_pos rfl] at H; exact H
      clear H; have H := H1; clear H1; obtain rfl := Option.some.inj H
      go_wp2
      go_ret
      exact ⟨by first | rfl | (simp [errW_none, errW_some] <;> rfl) | (simp [*, errW_none, errW_some] <;> rfl), bl_ HB⟩
     ·replace c99 := Bool.eq_false_iff.mpr c99
      subst c99
      have H1 : ((laws_toWhole.f kj24 a0_0 l0_1).bind fun bt291 => ((laws_eqWhole.f kj24 t274 t275 bt291.1 bt291.2).bind fun t295 => (if t295 = true then ((laws_toWhole.f kj24 a1_0 l1_1).bind fun bt296 => ((laws_eqWhole.f kj24 t279 t280 bt296.1 bt296.2).bind fun t300 => (if t300 = true then ((laws_markWhole.f kj24 t274 t275 1).bind fun bt301 => ((laws_markWhole.f kj24 t279 t280 bt301.1).bind fun bt303 => (if bt303.1 < 0 then (laws_FnExactSubtractWholes.j1 kj24 t272 true a0_0 l0_1 a1_0 l1_1 t268 t269 t284 t285) else ((laws_eqWhole.f kj24 t284 t285 t268 t269).bind fun t305 => (if t305 = true then (laws_FnExactSubtractWholes.j1 kj24 t272 (t288 != t272) a0_0 l0_1 a1_0 l1_1 t268 t269 t284 t285) else (laws_FnExactSubtractWholes.j1 kj24 t272 true a0_0 l0_1 a1_0 l1_1 t268 t269 t284 t285)))))) else (some false)))) else (some false)))) = some r := by rw [if_neg (show ¬ (false = true) by decide)] at H; exact H
      clear H; have H := H1; clear H1
      replace H := Option.bind_eq_some_iff.mp H
      obtain ⟨⟨t291, t292⟩, A1000, H⟩ := H
      replace H : ((laws_eqWhole.f kj24 t274 t275 t291 t292).bind fun t295 => (if t295 = true then ((laws_toWhole.f kj24 a1_0 l1_1).bind fun bt296 => ((laws_eqWhole.f kj24 t279 t280 bt296.1 bt296.2).bind fun t300 => (if t300 = true then ((laws_markWhole.f kj24 t274 t275 1).bind fun bt301 => ((laws_markWhole.f kj24 t279 t280 bt301.1).bind fun bt303 => (if bt303.1 < 0 then (laws_FnExactSubtractWholes.j1 kj24 t272 true a0_0 l0_1 a1_0 l1_1 t268 t269 t284 t285) else ((laws_eqWhole.f kj24 t284 t285 t268 t269).bind fun t305 => (if t305 = true then (laws_FnExactSubtractWholes.j1 kj24 t272 (t288 != t272) a0_0 l0_1 a1_0 l1_1 t268 t269 t284 t285) else (laws_FnExactSubtractWholes.j1 kj24 t272 true a0_0 l0_1 a1_0 l1_1 t268 t269 t284 t285)))))) else (some false)))) else (some false))) = some r := H
      have A100 := Aside0.mk A1000; clear A1000
      replace H := Option.bind_eq_some_iff.mp H
      obtain ⟨t295, A1010, H⟩ := H
      replace H : (if t295 = true then ((laws_toWhole.f kj24 a1_0 l1_1).bind fun bt296 => ((laws_eqWhole.f kj24 t279 t280 bt296.1 bt296.2).bind fun t300 => (if t300 = true then ((laws_markWhole.f kj24 t274 t275 1).bind fun bt301 => ((laws_markWhole.f kj24 t279 t280 bt301.1).bind fun bt303 => (if bt303.1 < 0 then (laws_FnExactSubtractWholes.j1 kj24 t272 true a0_0 l0_1 a1_0 l1_1 t268 t269 t284 t285) else ((laws_eqWhole.f kj24 t284 t285 t268 t269).bind fun t305 => (if t305 = true then (laws_FnExactSubtractWholes.j1 kj24 t272 (t288 != t272) a0_0 l0_1 a1_0 l1_1 t268 t269 t284 t285) else (laws_FnExactSubtractWholes.j1 kj24 t272 true a0_0 l0_1 a1_0 l1_1 t268 t269 t284 t285)))))) else (some false)))) else (some false)) = some r := H
      have A101 := Aside0.mk A1010; clear A1010
      by_cases c102 : t295 = true
      ·subst c102
       have H1 : ((laws_toWhole.f kj24 a1_0 l1_1).bind fun bt296 => ((laws_eqWhole.f kj24 t279 t280 bt296.1 bt296.2).bind fun t300 => (if t300 = true then ((laws_markWhole.f kj24 t274 t275 1).bind fun bt301 => ((laws_markWhole.f kj24 t279 t280 bt301.1).bind fun bt303 => (if bt303.1 < 0 then (laws_FnExactSubtractWholes.j1 kj24 t272 true a0_0 l0_1 a1_0 l1_1 t268 t269 t284 t285) else ((laws_eqWhole.f kj24 t284 t285 t268 t269).bind fun t305 => (if t305 = true then (laws_FnExactSubtractWholes.j1 kj24 t272 (t288 != t272) a0_0 l0_1 a1_0 l1_1 t268 t269 t284 t285) else (laws_FnExactSubtractWholes.j1 kj24 t272 true a0_0 l0_1 a1_0 l1_1 t268 t269 t284 t285)))))) else (some false)))) = some r := by rw [if_pos rfl] at H; exact H
       clear H; have H := H1; clear H1
       replace H := Option.bind_eq_some_iff.mp H
       obtain ⟨⟨t296, t297⟩, A1030, H⟩ := H
       replace H : ((laws_eqWhole.f kj24 t279 t280 t296 t297).bind fun t300 => (if t300 = true then ((laws_markWhole.f kj24 t274 t275 1).bind fun bt301 => ((laws_markWhole.f kj24 t279 t280 bt301.1).bind fun bt303 => (if bt303.1 < 0 then (laws_FnExactSubtractWholes.j1 kj24 t272 true a0_0 l0_1 a1_0 l1_1 t268 t269 t284 t285) else ((laws_eqWhole.f kj24 t284 t285 t268 t269).bind fun t305 => (if t305 = true then (laws_FnExactSubtractWholes.j1 kj24 t272 (t288 != t272) a0_0 l0_1 a1_0 l1_1 t268 t269 t284 t285) else (laws_FnExactSubtractWholes.j1 kj24 t272 true a0_0 l0_1 a1_0 l1_1 t268 t269 t284 t285)))))) else (some false))) = some r := H
       have A103 := Aside0.mk A1030; clear A1030
       replace H := Option.bind_eq_some_iff.mp H
       obtain ⟨t300, A1040, H⟩ := H
       replace H : (if t300 = true then ((laws_markWhole.f kj24 t274 t275 1).bind fun bt301 => ((laws_markWhole.f kj24 t279 t280 bt301.1).bind fun bt303 => (if bt303.1 < 0 then (laws_FnExactSubtractWholes.j1 kj24 t272 true a0_0 l0_1 a1_0 l1_1 t268 t269 t284 t285) else ((laws_eqWhole.f kj24 t284 t285 t268 t269).bind fun t305 => (if t305 = true then (laws_FnExactSubtractWholes.j1 kj24 t272 (t288 != t272) a0_0 l0_1 a1_0 l1_1 t268 t269 t284 t285) else (laws_FnExactSubtractWholes.j1 kj24 t272 true a0_0 l0_1 a1_0 l1_1 t268 t269 t284 t285)))))) else (some false)) = some r := H
       have A104 := Aside0.mk A1040; clear A1040
       by_cases c105 : t300 = true
       ·subst c105
        have H1 : ((laws_markWhole.f kj24 t274 t275 1).bind fun bt301 => ((laws_markWhole.f kj24 t279 t280 bt301.1).bind fun bt303 => (if bt303.1 < 0 then (laws_FnExactSubtractWholes.j1 kj24 t272 true a0_0 l0_1 a1_0 l1_1 t268 t269 t284 t285) else ((laws_eqWhole.f kj24 t284 t285 t268 t269).bind fun t305 => (if t305 = true then (laws_FnExactSubtractWholes.j1 kj24 t272 (t288 != t272) a0_0 l0_1 a1_0 l1_1 t268 t269 t284 t285) else (laws_FnExactSubtractWholes.j1 kj24 t272 true a0_0 l0_1 a1_0 l1_1 t268 t269 t284 t285)))))) = some r := by rw [if_pos rfl] at H; exact H
        clear H; have H := H1; clear H1
        replace H := Option.bind_eq_some_iff.mp H
        obtain ⟨⟨t301, t302⟩, A1060, H⟩ := H
        replace H : ((laws_markWhole.f kj24 t279 t280 t301).bind fun bt303 => (if bt303.1 < 0 then (laws_FnExactSubtractWholes.j1 kj24 t272 true a0_0 l0_1 a1_0 l1_1 t268 t269 t284 t285) else ((laws_eqWhole.f kj24 t284 t285 t268 t269).bind fun t305 => (if t305 = true then (laws_FnExactSubtractWholes.j1 kj24 t272 (t288 != t272) a0_0 l0_1 a1_0 l1_1 t268 t269 t284 t285) else (laws_FnExactSubtractWholes.j1 kj24 t272 true a0_0 l0_1 a1_0 l1_1 t268 t269 t284 t285))))) = some r := H
        have A106 := Aside0.mk A1060; clear A1060
        replace H := Option.bind_eq_some_iff.mp H
        obtain ⟨⟨t303, t304⟩, A1070, H⟩ := H
        replace H : (if t303 < 0 then (laws_FnExactSubtractWholes.j1 kj24 t272 true a0_0 l0_1 a1_0 l1_1 t268 t269 t284 t285) else ((laws_eqWhole.f kj24 t284 t285 t268 t269).bind fun t305 => (if t305 = true then (laws_FnExactSubtractWholes.j1 kj24 t272 (t288 != t272) a0_0 l0_1 a1_0 l1_1 t268 t269 t284 t285) else (laws_FnExactSubtractWholes.j1 kj24 t272 true a0_0 l0_1 a1_0 l1_1 t268 t269 t284 t285)))) = some r := H
        have A107 := Aside0.mk A1070; clear A1070; have HC108 := Aside0.mk H; clear H
        try go_wp2
        have n0_ := am_ (Kd.R_drew HO_274001.out); have n1_ := am_ (Kd.R_drew HO_279001.out); have n2_ := am_ (Kd.R_drew HO_284001.out); have n3_ := am_ (Kd.R_drew HO_290001.out); have n4_ := am_ (blk_drew BK256.out); have n5_ := am_ (blk_drew BK257.out); have n6_ := am_ (blk_drew BK273.out); have n7_ := am_ (blk_drew BK278.out); have n8_ := am_ (blk_drew BK283.out); have n9_ := am_ (blk_drew BK289.out); have n10_ := am_ (below_drew1 HB.out); clear HO_274001 HO_279001 HO_284001 HO_290001 BK256 BK257 BK273 BK278 BK283 BK289 HB; have HO_274001 := n0_; have HO_279001 := n1_; have HO_284001 := n2_; have HO_290001 := n3_; have BK256 := n4_; have BK257 := n5_; have BK273 := n6_; have BK278 := n7_; have BK283 := n8_; have BK289 := n9_; have HB := n10_; clear n0_ n1_ n2_ n3_ n4_ n5_ n6_ n7_ n8_ n9_ n10_
        refine start_ (n := 5) (S := fun w' => w'.cell? ⟨gb278, 0, none⟩ = some (.int .i64 t274) ∧ w'.cell? ⟨gb278, 1, none⟩ = some (.slice Ao52 t275.length co52) ∧ w'.cell? ⟨gb256, 0, none⟩ = some (.int .i64 a0_0) ∧ w'.cell? ⟨gb256, 1, none⟩ = some (.slice A0_1 l0_1.length c0_1)) (ds := []) #[false, false, false, false, false] (by kernel_rfl) rfl rfl ⟨(blk_cell BK278.out 0).trans rfl, (blk_cell BK278.out 1).trans rfl, (blk_cell BK256.out 0).trans rfl, (blk_cell BK256.out 1).trans rfl⟩ (fun hHeld => ?_)
        generalize wc.drew = w109 at HO_274001 HO_279001 HO_284001 HO_290001 BK256 BK257 BK273 BK278 BK283 BK289 HB hHeld ⊢
        refine take_ (i := 0) (N := some 54) (v := ?_) (a' := ?_) #[true, false, false, false, false] rfl rfl (by kernel_rfl) (fun _ _ _ h => h) (Or.inl ⟨by rfl, ?_⟩) hHeld ?_ ?_
        rotate_left
        ·rintro w' ⟨s0, s1, s2, s3⟩
         go_simp
         with_reducible rfl
        rotate_left
        ·exact nm_
        refine take_ (i := 1) (N := some 55) (v := ?_) (a' := ?_) #[true, true, false, false, false] rfl rfl (by kernel_rfl) (fun _ _ _ h => h) (Or.inl ⟨by rfl, ?_⟩) hHeld ?_ ?_
        rotate_left
        ·rintro w' ⟨s0, s1, s2, s3⟩
         go_simp
         with_reducible rfl
        rotate_left
        ·exact nm_
        refine one_ (i := 2) (N := some 56) #[true, true, true, false, false] rfl rfl (by kernel_rfl) (by decide) (fun K hK => ?_)
        refine goes_ Tryd.func20 (by kernel_rfl) rfl #[.agg #[.int .i64 a0_0, .slice A0_1 l0_1.length c0_1]] (by rfl) rfl rfl ma_ ?_
        with_reducible refine (laws_toWhole.calls kj24 a0_0 _ _ l0_1 t291 t292 _ ?side1 ?side2 A100.out).mono ?_
        (case side1 => repeat (first | exact (Kd.C_below HR0_1.out HB.out) | (with_reducible refine Kd.C_alloc ?_ _) | (with_reducible refine Kd.C_drewN ?_ _) | (with_reducible refine Kd.C_drew ?_)))
        (case side2 => exact HC0_1.out)
        rintro e w110 ⟨v293, rfl, ho0, hb⟩
        refine ⟨_, rfl, ?_⟩
        have n0_ := am_ (Kd.R_elder' (kr_ HO_274001) (Kd.R_base ho0) hb); have n1_ := am_ (Kd.R_elder' (kr_ HO_279001) (Kd.R_base ho0) hb); have n2_ := am_ (Kd.R_elder' (kr_ HO_284001) (Kd.R_base ho0) hb); have n3_ := am_ (Kd.R_elder' (kr_ HO_290001) (Kd.R_base ho0) hb); have n4_ := am_ (Kd.R_lower (Kd.R_new' (Kd.R_new' (Kd.R_new' (Kd.R_new' ho0 (Kd.R_lt (kr_ HO_274001))) (Kd.R_lt (kr_ HO_279001))) (Kd.R_lt (kr_ HO_284001))) (Kd.R_lt (kr_ HO_290001))) (below_size (bl_ HB))); have n5_ := am_ (blk_below (bk_ BK256) hb); have n6_ := am_ (blk_below (bk_ BK257) hb); have n7_ := am_ (blk_below (bk_ BK273) hb); have n8_ := am_ (blk_below (bk_ BK278) hb); have n9_ := am_ (blk_below (bk_ BK283) hb); have n10_ := am_ (blk_below (bk_ BK289) hb); have n11_ := am_ (below_step (bl_ HB) hb); clear HO_274001 HO_279001 HO_284001 HO_290001 BK256 BK257 BK273 BK278 BK283 BK289 HB; have HO_274001 := n0_; have HO_279001 := n1_; have HO_284001 := n2_; have HO_290001 := n3_; have HO294 := n4_; have BK256 := n5_; have BK257 := n6_; have BK273 := n7_; have BK278 := n8_; have BK283 := n9_; have BK289 := n10_; have HB := n11_; clear n0_ n1_ n2_ n3_ n4_ n5_ n6_ n7_ n8_ n9_ n10_ n11_; (try clear hb); (try clear hb2); (try clear hk); (try clear hi); (try clear ho0)
        obtain ⟨Ao111, co111, eo111⟩ := Kd.R_slice HO294.out
        (first | subst eo111 | (injection eo111 with f1_ f2_ f3_; have f4_ := f1_.symm; have f5_ := f3_.symm; clear f1_ f2_ f3_; subst f4_; subst f5_))
        refine hK.out _ _ ⟨(blk_cell BK278.out 0).trans rfl, (blk_cell BK278.out 1).trans rfl, (blk_cell BK256.out 0).trans rfl, (blk_cell BK256.out 1).trans rfl⟩ (fun hHeld => ?_)
        clear hK K
        refine norm_ (a' := ?_) ?_ ?_
        rotate_left
        ·show Act.put _ (some 56) _ = _
         exact nm_
        refine one_ (i := 3) (N := some 57) #[true, true, true, true, false] rfl rfl (by kernel_rfl) (by decide) (fun K hK => ?_)
        refine goes_ Tryd.func22 (by kernel_rfl) rfl #[.agg #[.int .i64 t274, .slice Ao52 t275.length co52], .agg #[.int .i64 t291, .slice Ao111 t292.length co111]] (by rfl) rfl rfl ma_ ?_
        with_reducible refine (laws_eqWhole.calls kj24 t274 _ _ t275 t291 _ _ t292 true _ ?side1 ?side2 ?side3 ?side4 A101.out).mono ?_
        (case side1 => repeat (first | exact (Kd.R_reads' HO_279001.out).2.2 | (with_reducible refine Kd.C_alloc ?_ _) | (with_reducible refine Kd.C_drewN ?_ _) | (with_reducible refine Kd.C_drew ?_)))
        (case side2 => exact (Kd.R_reads' HO_279001.out).2.1)
        (case side3 => repeat (first | exact (Kd.R_reads' HO294.out).2.2 | (with_reducible refine Kd.C_alloc ?_ _) | (with_reducible refine Kd.C_drewN ?_ _) | (with_reducible refine Kd.C_drew ?_)))
        (case side4 => exact (Kd.R_reads' HO294.out).2.1)
        rintro e w112 ⟨rfl, hb⟩
        refine ⟨_, rfl, ?_⟩
        have n0_ := am_ (Kd.R_below (kr_ HO_274001) hb); have n1_ := am_ (Kd.R_below (kr_ HO_279001) hb); have n2_ := am_ (Kd.R_below (kr_ HO_284001) hb); have n3_ := am_ (Kd.R_below (kr_ HO_290001) hb); have n4_ := am_ (Kd.R_below (kr_ HO294) hb); have n5_ := am_ (blk_below (bk_ BK256) hb); have n6_ := am_ (blk_below (bk_ BK257) hb); have n7_ := am_ (blk_below (bk_ BK273) hb); have n8_ := am_ (blk_below (bk_ BK278) hb); have n9_ := am_ (blk_below (bk_ BK283) hb); have n10_ := am_ (blk_below (bk_ BK289) hb); have n11_ := am_ (below_step (bl_ HB) hb); clear HO_274001 HO_279001 HO_284001 HO_290001 HO294 BK256 BK257 BK273 BK278 BK283 BK289 HB; have HO_274001 := n0_; have HO_279001 := n1_; have HO_284001 := n2_; have HO_290001 := n3_; have HO294 := n4_; have BK256 := n5_; have BK257 := n6_; have BK273 := n7_; have BK278 := n8_; have BK283 := n9_; have BK289 := n10_; have HB := n11_; clear n0_ n1_ n2_ n3_ n4_ n5_ n6_ n7_ n8_ n9_ n10_ n11_; (try clear hb); (try clear hb2); (try clear hk); (try clear hi)
        refine hK.out _ _ ⟨(blk_cell BK278.out 0).trans rfl, (blk_cell BK278.out 1).trans rfl, (blk_cell BK256.out 0).trans rfl, (blk_cell BK256.out 1).trans rfl⟩ (fun hHeld => ?_)
        clear hK K
        refine norm_ (a' := ?_) ?_ ?_
        rotate_left
        ·show Act.put _ (some 57) _ = _
         exact nm_
        refine pure_ (i := 4) (N := some 58) (v := ?_) (a' := ?_) #[true, true, true, true, true] rfl rfl (by kernel_rfl) (fun _ _ _ h => h) (Or.inl ⟨by rfl, ?_⟩) ?_ ?_
        rotate_left
        ·intro w'
         go_simp
         with_reducible rfl
        rotate_left
        ·exact nm_
        refine done_ (by kernel_rfl) ?_
        try go_wp2
        have n0_ := am_ (Kd.R_drew HO_274001.out); have n1_ := am_ (Kd.R_drew HO_279001.out); have n2_ := am_ (Kd.R_drew HO_284001.out); have n3_ := am_ (Kd.R_drew HO_290001.out); have n4_ := am_ (Kd.R_drew HO294.out); have n5_ := am_ (blk_drew BK256.out); have n6_ := am_ (blk_drew BK257.out); have n7_ := am_ (blk_drew BK273.out); have n8_ := am_ (blk_drew BK278.out); have n9_ := am_ (blk_drew BK283.out); have n10_ := am_ (blk_drew BK289.out); have n11_ := am_ (below_drew1 HB.out); clear HO_274001 HO_279001 HO_284001 HO_290001 HO294 BK256 BK257 BK273 BK278 BK283 BK289 HB; have HO_274001 := n0_; have HO_279001 := n1_; have HO_284001 := n2_; have HO_290001 := n3_; have HO294 := n4_; have BK256 := n5_; have BK257 := n6_; have BK273 := n7_; have BK278 := n8_; have BK283 := n9_; have BK289 := n10_; have HB := n11_; clear n0_ n1_ n2_ n3_ n4_ n5_ n6_ n7_ n8_ n9_ n10_ n11_
        refine start_ (n := 5) (S := fun w' => w'.cell? ⟨gb283, 0, none⟩ = some (.int .i64 t279) ∧ w'.cell? ⟨gb283, 1, none⟩ = some (.slice Ao62 t280.length co62) ∧ w'.cell? ⟨gb257, 0, none⟩ = some (.int .i64 a1_0) ∧ w'.cell? ⟨gb257, 1, none⟩ = some (.slice A1_1 l1_1.length c1_1)) (ds := []) #[false, false, false, false, false] (by kernel_rfl) rfl rfl ⟨(blk_cell BK283.out 0).trans rfl, (blk_cell BK283.out 1).trans rfl, (blk_cell BK257.out 0).trans rfl, (blk_cell BK257.out 1).trans rfl⟩ (fun hHeld => ?_)
        generalize w112.drew = w113 at HO_274001 HO_279001 HO_284001 HO_290001 HO294 BK256 BK257 BK273 BK278 BK283 BK289 HB hHeld ⊢
        refine take_ (i := 0) (N := some 59) (v := ?_) (a' := ?_) #[true, false, false, false, false] rfl rfl (by kernel_rfl) (fun _ _ _ h => h) (Or.inl ⟨by rfl, ?_⟩) hHeld ?_ ?_
        rotate_left
        ·rintro w' ⟨s0, s1, s2, s3⟩
         go_simp
         with_reducible rfl
        rotate_left
        ·exact nm_
        refine take_ (i := 1) (N := some 60) (v := ?_) (a' := ?_) #[true, true, false, false, false] rfl rfl (by kernel_rfl) (fun _ _ _ h => h) (Or.inl ⟨by rfl, ?_⟩) hHeld ?_ ?_
        rotate_left
        ·rintro w' ⟨s0, s1, s2, s3⟩
         go_simp
         with_reducible rfl
        rotate_left
        ·exact nm_
        refine one_ (i := 2) (N := some 61) #[true, true, true, false, false] rfl rfl (by kernel_rfl) (by decide) (fun K hK => ?_)
        refine goes_ Tryd.func20 (by kernel_rfl) rfl #[.agg #[.int .i64 a1_0, .slice A1_1 l1_1.length c1_1]] (by rfl) rfl rfl ma_ ?_
        with_reducible refine (laws_toWhole.calls kj24 a1_0 _ _ l1_1 t296 t297 _ ?side1 ?side2 A103.out).mono ?_
        (case side1 => repeat (first | exact (Kd.C_below HR1_1.out HB.out) | (with_reducible refine Kd.C_alloc ?_ _) | (with_reducible refine Kd.C_drewN ?_ _) | (with_reducible refine Kd.C_drew ?_)))
        (case side2 => exact HC1_1.out)
        rintro e w114 ⟨v298, rfl, ho0, hb⟩
        refine ⟨_, rfl, ?_⟩
        have n0_ := am_ (Kd.R_elder' (kr_ HO_274001) (Kd.R_base ho0) hb); have n1_ := am_ (Kd.R_elder' (kr_ HO_279001) (Kd.R_base ho0) hb); have n2_ := am_ (Kd.R_elder' (kr_ HO_284001) (Kd.R_base ho0) hb); have n3_ := am_ (Kd.R_elder' (kr_ HO_290001) (Kd.R_base ho0) hb); have n4_ := am_ (Kd.R_elder' (kr_ HO294) (Kd.R_base ho0) hb); have n5_ := am_ (Kd.R_lower (Kd.R_new' (Kd.R_new' (Kd.R_new' (Kd.R_new' (Kd.R_new' ho0 (Kd.R_lt (kr_ HO_274001))) (Kd.R_lt (kr_ HO_279001))) (Kd.R_lt (kr_ HO_284001))) (Kd.R_lt (kr_ HO_290001))) (Kd.R_lt (kr_ HO294))) (below_size (bl_ HB))); have n6_ := am_ (blk_below (bk_ BK256) hb); have n7_ := am_ (blk_below (bk_ BK257) hb); have n8_ := am_ (blk_below (bk_ BK273) hb); have n9_ := am_ (blk_below (bk_ BK278) hb); have n10_ := am_ (blk_below (bk_ BK283) hb); have n11_ := am_ (blk_below (bk_ BK289) hb); have n12_ := am_ (below_step (bl_ HB) hb); clear HO_274001 HO_279001 HO_284001 HO_290001 HO294 BK256 BK257 BK273 BK278 BK283 BK289 HB; have HO_274001 := n0_; have HO_279001 := n1_; have HO_284001 := n2_; have HO_290001 := n3_; have HO294 := n4_; have HO299 := n5_; have BK256 := n6_; have BK257 := n7_; have BK273 := n8_; have BK278 := n9_; have BK283 := n10_; have BK289 := n11_; have HB := n12_; clear n0_ n1_ n2_ n3_ n4_ n5_ n6_ n7_ n8_ n9_ n10_ n11_ n12_; (try clear hb); (try clear hb2); (try clear hk); (try clear hi); (try clear ho0)
        obtain ⟨Ao115, co115, eo115⟩ := Kd.R_slice HO299.out
        (first | subst eo115 | (injection eo115 with f1_ f2_ f3_; have f4_ := f1_.symm; have f5_ := f3_.symm; clear f1_ f2_ f3_; subst f4_; subst f5_))
        refine hK.out _ _ ⟨(blk_cell BK283.out 0).trans rfl, (blk_cell BK283.out 1).trans rfl, (blk_cell BK257.out 0).trans rfl, (blk_cell BK257.out 1).trans rfl⟩ (fun hHeld => ?_)
        clear hK K
        refine norm_ (a' := ?_) ?_ ?_
        rotate_left
        ·show Act.put _ (some 61) _ = _
         exact nm_
        refine one_ (i := 3) (N := some 62) #[true, true, true, true, false] rfl rfl (by kernel_rfl) (by decide) (fun K hK => ?_)
        refine goes_ Tryd.func22 (by kernel_rfl) rfl #[.agg #[.int .i64 t279, .slice Ao62 t280.length co62], .agg #[.int .i64 t296, .slice Ao115 t297.length co115]] (by rfl) rfl rfl ma_ ?_
        with_reducible refine (laws_eqWhole.calls kj24 t279 _ _ t280 t296 _ _ t297 true _ ?side1 ?side2 ?side3 ?side4 A104.out).mono ?_
        (case side1 => repeat (first | exact (Kd.R_reads' HO_284001.out).2.2 | (with_reducible refine Kd.C_alloc ?_ _) | (with_reducible refine Kd.C_drewN ?_ _) | (with_reducible refine Kd.C_drew ?_)))
        (case side2 => exact (Kd.R_reads' HO_284001.out).2.1)
        (case side3 => repeat (first | exact (Kd.R_reads' HO299.out).2.2 | (with_reducible refine Kd.C_alloc ?_ _) | (with_reducible refine Kd.C_drewN ?_ _) | (with_reducible refine Kd.C_drew ?_)))
        (case side4 => exact (Kd.R_reads' HO299.out).2.1)
        rintro e w116 ⟨rfl, hb⟩
        refine ⟨_, rfl, ?_⟩
        have n0_ := am_ (Kd.R_below (kr_ HO_274001) hb); have n1_ := am_ (Kd.R_below (kr_ HO_279001) hb); have n2_ := am_ (Kd.R_below (kr_ HO_284001) hb); have n3_ := am_ (Kd.R_below (kr_ HO_290001) hb); have n4_ := am_ (Kd.R_below (kr_ HO294) hb); have n5_ := am_ (Kd.R_below (kr_ HO299) hb); have n6_ := am_ (blk_below (bk_ BK256) hb); have n7_ := am_ (blk_below (bk_ BK257) hb); have n8_ := am_ (blk_below (bk_ BK273) hb); have n9_ := am_ (blk_below (bk_ BK278) hb); have n10_ := am_ (blk_below (bk_ BK283) hb); have n11_ := am_ (blk_below (bk_ BK289) hb); have n12_ := am_ (below_step (bl_ HB) hb); clear HO_274001 HO_279001 HO_284001 HO_290001 HO294 HO299 BK256 BK257 BK273 BK278 BK283 BK289 HB; have HO_274001 := n0_; have HO_279001 := n1_; have HO_284001 := n2_; have HO_290001 := n3_; have HO294 := n4_; have HO299 := n5_; have BK256 := n6_; have BK257 := n7_; have BK273 := n8_; have BK278 := n9_; have BK283 := n10_; have BK289 := n11_; have HB := n12_; clear n0_ n1_ n2_ n3_ n4_ n5_ n6_ n7_ n8_ n9_ n10_ n11_ n12_; (try clear hb); (try clear hb2); (try clear hk); (try clear hi)
        refine hK.out _ _ ⟨(blk_cell BK283.out 0).trans rfl, (blk_cell BK283.out 1).trans rfl, (blk_cell BK257.out 0).trans rfl, (blk_cell BK257.out 1).trans rfl⟩ (fun hHeld => ?_)
        clear hK K
        refine norm_ (a' := ?_) ?_ ?_
        rotate_left
        ·show Act.put _ (some 62) _ = _
         exact nm_
        refine pure_ (i := 4) (N := some 63) (v := ?_) (a' := ?_) #[true, true, true, true, true] rfl rfl (by kernel_rfl) (fun _ _ _ h => h) (Or.inl ⟨by rfl, ?_⟩) ?_ ?_
        rotate_left
        ·intro w'
         go_simp
         with_reducible rfl
        rotate_left
        ·exact nm_
        refine done_ (by kernel_rfl) ?_
        have hnb117 := NB278_256.out; have hnc117 := NB256_278.out; have hnb118 := NB278_257.out; have hnc118 := NB257_278.out; have hnb119 := NB278_273.out; have hnc119 := NB273_278.out; have hnb120 := NB278_283.out; have hnc120 := NB283_278.out; have hnb121 := NB278_289.out; have hnc121 := NB289_278.out
        have hcz122_0 : w116.cell? ⟨gb278, 0, none⟩ = some (.int .i64 t274) := (blk_cell BK278.out 0).trans rfl
        have hcz122_1 : w116.cell? ⟨gb278, 1, none⟩ = some (.slice Ao52 t275.length co52) := (blk_cell BK278.out 1).trans rfl
        have hfz122_0 := blk_frozen BK278.out 0; have hfz122_1 := blk_frozen BK278.out 1
        go_upto_region 21 with (first | ((with_reducible refine gate_callee (f := 25) rfl ?_); refine goesL_ (some 66) rfl rfl Tryd.func25 (by kernel_rfl) rfl #[.agg #[.int .i64 t274, .slice Ao52 t275.length co52], .int .i64 1] rfl ma_ ?_; (with_reducible refine (laws_markWhole.calls kj24 t274 (fun k_ => some k_ = (.slice Ao52 t275.length co52 : Value).ownBlock) (.slice Ao52 t275.length co52) t275 1 t301 t302 w _ ?side1 ?side2 A106.out).mono ?_); (case side1 => repeat (first | (with_reducible first | exact HB.out | apply below_alloc | apply pw_below_drewN | apply below_drew1 | refine below_set ?_ GE256.out | refine below_set ?_ GE257.out | refine below_set ?_ GE273.out | refine below_set ?_ GE278.out | refine below_set ?_ GE283.out | refine below_set ?_ GE289.out) | exact HB.out)); (case side2 => exact Kd.R_tight rfl HO_279001.out); rintro e w123 ⟨rfl, hy0, hb, hkp⟩; refine ⟨_, rfl, ?_⟩; have n0_ := am_ (Kd.R_mono (ok' := fun k_ => some k_ ≠ (.slice Ao52 t275.length co52 : Value).ownBlock ∧ some k_ ≠ (.slice Ao62 t280.length co62 : Value).ownBlock ∧ some k_ ≠ (.slice Ao72 t285.length co72 : Value).ownBlock ∧ some k_ ≠ (.slice Ao111 t292.length co111 : Value).ownBlock ∧ some k_ ≠ (.slice Ao115 t297.length co115 : Value).ownBlock) (Kd.R_keptB (HO_274001.out) hkp (fun k_ hk_ hs_ => (hk_.1.1.1) hs_)) (fun k_ hk_ => ⟨hk_.1.1.1.1, hk_.1.1.1.2.1, hk_.1.1.1.2.2, hk_.1.1.2, hk_.1.2⟩)); have n1_ := am_ (Kd.R_reok rfl hy0 (fun k_ e_ => HO_279001.out.1 k_ e_)); have n2_ := am_ (Kd.R_mono (ok' := fun k_ => some k_ ≠ (.slice Ao42 t269.length co42 : Value).ownBlock ∧ some k_ ≠ (.slice Ao52 t275.length co52 : Value).ownBlock ∧ some k_ ≠ (.slice Ao72 t285.length co72 : Value).ownBlock ∧ some k_ ≠ (.slice Ao111 t292.length co111 : Value).ownBlock ∧ some k_ ≠ (.slice Ao115 t297.length co115 : Value).ownBlock) (Kd.R_keptB (HO_284001.out) hkp (fun k_ hk_ hs_ => (hk_.1.1.2.1) hs_)) (fun k_ hk_ => ⟨hk_.1.1.1.1, hk_.1.1.1.2.1, hk_.1.1.1.2.2, hk_.1.1.2, hk_.1.2⟩)); have n3_ := am_ (Kd.R_mono (ok' := fun k_ => some k_ ≠ (.slice Ao42 t269.length co42 : Value).ownBlock ∧ some k_ ≠ (.slice Ao52 t275.length co52 : Value).ownBlock ∧ some k_ ≠ (.slice Ao62 t280.length co62 : Value).ownBlock ∧ some k_ ≠ (.slice Ao111 t292.length co111 : Value).ownBlock ∧ some k_ ≠ (.slice Ao115 t297.length co115 : Value).ownBlock) (Kd.R_keptB (HO_290001.out) hkp (fun k_ hk_ hs_ => (hk_.1.1.2.1) hs_)) (fun k_ hk_ => ⟨hk_.1.1.1.1, hk_.1.1.1.2.1, hk_.1.1.1.2.2, hk_.1.1.2, hk_.1.2⟩)); have n4_ := am_ (blk_kept (bk_ BK256) hkp (fun hs_ => (fun e_ => (Kd.R_ne HO_279001.out BK256.out (by decide)) e_) hs_)); have n5_ := am_ (blk_kept (bk_ BK257) hkp (fun hs_ => (fun e_ => (Kd.R_ne HO_279001.out BK257.out (by decide)) e_) hs_)); have n6_ := am_ (blk_kept (bk_ BK273) hkp (fun hs_ => (fun e_ => (Kd.R_ne HO_279001.out BK273.out (by decide)) e_) hs_)); have n7_ := am_ (blk_kept (bk_ BK278) hkp (fun hs_ => (fun e_ => (Kd.R_ne HO_279001.out BK278.out (by decide)) e_) hs_)); have n8_ := am_ (blk_kept (bk_ BK283) hkp (fun hs_ => (fun e_ => (Kd.R_ne HO_279001.out BK283.out (by decide)) e_) hs_)); have n9_ := am_ (blk_kept (bk_ BK289) hkp (fun hs_ => (fun e_ => (Kd.R_ne HO_279001.out BK289.out (by decide)) e_) hs_)); have n10_ := am_ (Kd.R_mono (ok' := fun k_ => some k_ ≠ (.slice Ao42 t269.length co42 : Value).ownBlock ∧ some k_ ≠ (.slice Ao52 t275.length co52 : Value).ownBlock ∧ some k_ ≠ (.slice Ao62 t280.length co62 : Value).ownBlock ∧ some k_ ≠ (.slice Ao72 t285.length co72 : Value).ownBlock ∧ some k_ ≠ (.slice Ao115 t297.length co115 : Value).ownBlock) (Kd.R_keptB (HO294.out) hkp (fun k_ hk_ hs_ => (hk_.1.1.1.2) hs_)) (fun k_ hk_ => ⟨hk_.1.1.1.1.1.2, hk_.1.1.1.1.2, hk_.1.1.1.2, hk_.1.1.2, hk_.1.2⟩)); have n11_ := am_ (Kd.R_mono (ok' := fun k_ => some k_ ≠ (.slice Ao42 t269.length co42 : Value).ownBlock ∧ some k_ ≠ (.slice Ao52 t275.length co52 : Value).ownBlock ∧ some k_ ≠ (.slice Ao62 t280.length co62 : Value).ownBlock ∧ some k_ ≠ (.slice Ao72 t285.length co72 : Value).ownBlock ∧ some k_ ≠ (.slice Ao111 t292.length co111 : Value).ownBlock) (Kd.R_keptB (HO299.out) hkp (fun k_ hk_ hs_ => (hk_.1.1.1.2) hs_)) (fun k_ hk_ => ⟨hk_.1.1.1.1.1.2, hk_.1.1.1.1.2, hk_.1.1.1.2, hk_.1.1.2, hk_.1.2⟩)); have n12_ := am_ (hb); clear HO_274001; clear HO_279001; clear HO_284001; clear HO_290001; clear BK256; clear BK257; clear BK273; clear BK278; clear BK283; clear BK289; clear HO294; clear HO299; clear HB; have HO_274001 := n0_; have HO_279001 := n1_; have HO_284001 := n2_; have HO_290001 := n3_; have BK256 := n4_; have BK257 := n5_; have BK273 := n6_; have BK278 := n7_; have BK283 := n8_; have BK289 := n9_; have HO294 := n10_; have HO299 := n11_; have HB := n12_; clear n0_ n1_ n2_ n3_ n4_ n5_ n6_ n7_ n8_ n9_ n10_ n11_ n12_; (try clear hb); (try clear hkp); (try clear hy0); have hnb124 := NB283_256.out; have hnc124 := NB256_283.out; have hnb125 := NB283_257.out; have hnc125 := NB257_283.out; have hnb126 := NB283_273.out; have hnc126 := NB273_283.out; have hnb127 := NB283_289.out; have hnc127 := NB289_283.out; have hcz128_0 : w123.cell? ⟨gb283, 0, none⟩ = some (.int .i64 t279) := (blk_cell BK283.out 0).trans rfl; have hcz128_1 : w123.cell? ⟨gb283, 1, none⟩ = some (.slice Ao62 t280.length co62) := (blk_cell BK283.out 1).trans rfl; have hfz128_0 := blk_frozen BK283.out 0; have hfz128_1 := blk_frozen BK283.out 1) | ((with_reducible refine gate_callee (f := 25) rfl ?_); refine goesL_ (some 69) rfl rfl Tryd.func25 (by kernel_rfl) rfl #[.agg #[.int .i64 t279, .slice Ao62 t280.length co62], .int .i64 t301] rfl ma_ ?_; (with_reducible refine (laws_markWhole.calls kj24 t279 (fun k_ => some k_ = (.slice Ao62 t280.length co62 : Value).ownBlock) (.slice Ao62 t280.length co62) t280 t301 t303 t304 w _ ?side1 ?side2 A107.out).mono ?_); (case side1 => repeat (first | (with_reducible first | exact HB.out | apply below_alloc | apply pw_below_drewN | apply below_drew1 | refine below_set ?_ GE256.out | refine below_set ?_ GE257.out | refine below_set ?_ GE273.out | refine below_set ?_ GE278.out | refine below_set ?_ GE283.out | refine below_set ?_ GE289.out) | exact HB.out)); (case side2 => exact Kd.R_tight rfl HO_284001.out); rintro e w129 ⟨rfl, hy0, hb, hkp⟩; refine ⟨_, rfl, ?_⟩; have n0_ := am_ (Kd.R_mono (ok' := fun k_ => some k_ ≠ (.slice Ao52 t275.length co52 : Value).ownBlock ∧ some k_ ≠ (.slice Ao62 t280.length co62 : Value).ownBlock ∧ some k_ ≠ (.slice Ao72 t285.length co72 : Value).ownBlock ∧ some k_ ≠ (.slice Ao111 t292.length co111 : Value).ownBlock ∧ some k_ ≠ (.slice Ao115 t297.length co115 : Value).ownBlock) (Kd.R_keptB (HO_274001.out) hkp (fun k_ hk_ hs_ => (hk_.2.1) hs_)) (fun k_ hk_ => ⟨hk_.1.1, hk_.1.2.1, hk_.1.2.2.1, hk_.1.2.2.2.1, hk_.1.2.2.2.2⟩)); have n1_ := am_ (Kd.R_mono (ok' := fun k_ => some k_ ≠ (.slice Ao42 t269.length co42 : Value).ownBlock ∧ some k_ ≠ (.slice Ao62 t280.length co62 : Value).ownBlock ∧ some k_ ≠ (.slice Ao72 t285.length co72 : Value).ownBlock ∧ some k_ ≠ (.slice Ao111 t292.length co111 : Value).ownBlock ∧ some k_ ≠ (.slice Ao115 t297.length co115 : Value).ownBlock) (Kd.R_keptB (HO_279001.out) hkp (fun k_ hk_ hs_ => (hk_.1.1.2.1) hs_)) (fun k_ hk_ => ⟨hk_.1.1.1.1, hk_.1.1.1.2.1, hk_.1.1.1.2.2, hk_.1.1.2, hk_.1.2⟩)); have n2_ := am_ (Kd.R_reok rfl hy0 (fun k_ e_ => HO_284001.out.1 k_ e_)); have n3_ := am_ (Kd.R_mono (ok' := fun k_ => some k_ ≠ (.slice Ao42 t269.length co42 : Value).ownBlock ∧ some k_ ≠ (.slice Ao52 t275.length co52 : Value).ownBlock ∧ some k_ ≠ (.slice Ao62 t280.length co62 : Value).ownBlock ∧ some k_ ≠ (.slice Ao111 t292.length co111 : Value).ownBlock ∧ some k_ ≠ (.slice Ao115 t297.length co115 : Value).ownBlock) (Kd.R_keptB (HO_290001.out) hkp (fun k_ hk_ hs_ => (hk_.2.2.1) hs_)) (fun k_ hk_ => ⟨hk_.1.1, hk_.1.2.1, hk_.1.2.2.1, hk_.1.2.2.2.1, hk_.1.2.2.2.2⟩)); have n4_ := am_ (blk_kept (bk_ BK256) hkp (fun hs_ => (fun e_ => (Kd.R_ne HO_284001.out BK256.out (by decide)) e_) hs_)); have n5_ := am_ (blk_kept (bk_ BK257) hkp (fun hs_ => (fun e_ => (Kd.R_ne HO_284001.out BK257.out (by decide)) e_) hs_)); have n6_ := am_ (blk_kept (bk_ BK273) hkp (fun hs_ => (fun e_ => (Kd.R_ne HO_284001.out BK273.out (by decide)) e_) hs_)); have n7_ := am_ (blk_kept (bk_ BK278) hkp (fun hs_ => (fun e_ => (Kd.R_ne HO_284001.out BK278.out (by decide)) e_) hs_)); have n8_ := am_ (blk_kept (bk_ BK283) hkp (fun hs_ => (fun e_ => (Kd.R_ne HO_284001.out BK283.out (by decide)) e_) hs_)); have n9_ := am_ (blk_kept (bk_ BK289) hkp (fun hs_ => (fun e_ => (Kd.R_ne HO_284001.out BK289.out (by decide)) e_) hs_)); have n10_ := am_ (Kd.R_mono (ok' := fun k_ => some k_ ≠ (.slice Ao42 t269.length co42 : Value).ownBlock ∧ some k_ ≠ (.slice Ao52 t275.length co52 : Value).ownBlock ∧ some k_ ≠ (.slice Ao62 t280.length co62 : Value).ownBlock ∧ some k_ ≠ (.slice Ao72 t285.length co72 : Value).ownBlock ∧ some k_ ≠ (.slice Ao115 t297.length co115 : Value).ownBlock) (Kd.R_keptB (HO294.out) hkp (fun k_ hk_ hs_ => (hk_.2.2.1) hs_)) (fun k_ hk_ => ⟨hk_.1.1, hk_.1.2.1, hk_.1.2.2.1, hk_.1.2.2.2.1, hk_.1.2.2.2.2⟩)); have n11_ := am_ (Kd.R_mono (ok' := fun k_ => some k_ ≠ (.slice Ao42 t269.length co42 : Value).ownBlock ∧ some k_ ≠ (.slice Ao52 t275.length co52 : Value).ownBlock ∧ some k_ ≠ (.slice Ao62 t280.length co62 : Value).ownBlock ∧ some k_ ≠ (.slice Ao72 t285.length co72 : Value).ownBlock ∧ some k_ ≠ (.slice Ao111 t292.length co111 : Value).ownBlock) (Kd.R_keptB (HO299.out) hkp (fun k_ hk_ hs_ => (hk_.2.2.1) hs_)) (fun k_ hk_ => ⟨hk_.1.1, hk_.1.2.1, hk_.1.2.2.1, hk_.1.2.2.2.1, hk_.1.2.2.2.2⟩)); have n12_ := am_ (hb); clear HO_274001; clear HO_279001; clear HO_284001; clear HO_290001; clear BK256; clear BK257; clear BK273; clear BK278; clear BK283; clear BK289; clear HO294; clear HO299; clear HB; have HO_274001 := n0_; have HO_279001 := n1_; have HO_284001 := n2_; have HO_290001 := n3_; have BK256 := n4_; have BK257 := n5_; have BK273 := n6_; have BK278 := n7_; have BK283 := n8_; have BK289 := n9_; have HO294 := n10_; have HO299 := n11_; have HB := n12_; clear n0_ n1_ n2_ n3_ n4_ n5_ n6_ n7_ n8_ n9_ n10_ n11_ n12_; (try clear hb); (try clear hkp); (try clear hy0)))
        (try simp only [Act.put, List.setIfInBounds_toArray, List.set_cons_zero, List.set_cons_succ])
        go_cut [82] (fun v82 wc => ∃ (kq : Nat) (x82_107 : Bool), v82 = .bool x82_107 ∧ Aside0 (laws_FnExactSubtractWholes.j1 kq t272 x82_107 a0_0 l0_1 a1_0 l1_1 t268 t269 t284 t285 = some r) ∧ Aside0 (kq ≤ kj24) ∧ Aside0 (Kd.R (Kd.int .i64) 2 wc w.heap.size (fun k_ => some k_ ≠ ((.slice Ao52 t275.length co52) : Value).ownBlock ∧ some k_ ≠ ((.slice Ao62 t280.length co62) : Value).ownBlock ∧ some k_ ≠ ((.slice Ao72 t285.length co72) : Value).ownBlock) (.slice Ao42 t269.length co42) t269) ∧ Aside0 (Kd.R (Kd.int .i64) 2 wc w.heap.size (fun k_ => some k_ ≠ ((.slice Ao42 t269.length co42) : Value).ownBlock ∧ some k_ ≠ ((.slice Ao62 t280.length co62) : Value).ownBlock ∧ some k_ ≠ ((.slice Ao72 t285.length co72) : Value).ownBlock) (.slice Ao52 t275.length co52) t302) ∧ Aside0 (Kd.R (Kd.int .i64) 2 wc w.heap.size (fun k_ => some k_ ≠ ((.slice Ao42 t269.length co42) : Value).ownBlock ∧ some k_ ≠ ((.slice Ao52 t275.length co52) : Value).ownBlock ∧ some k_ ≠ ((.slice Ao72 t285.length co72) : Value).ownBlock) (.slice Ao62 t280.length co62) t304) ∧ Aside0 (Kd.R (Kd.int .i64) 2 wc w.heap.size (fun k_ => some k_ ≠ ((.slice Ao42 t269.length co42) : Value).ownBlock ∧ some k_ ≠ ((.slice Ao52 t275.length co52) : Value).ownBlock ∧ some k_ ≠ ((.slice Ao62 t280.length co62) : Value).ownBlock) (.slice Ao72 t285.length co72) t285) ∧ Aside0 (wc.heap[gb256]? = some (.cells #[.int .i64 a0_0, (.slice A0_1 l0_1.length c0_1)] 24 (0, 0))) ∧ Aside0 (wc.heap[gb257]? = some (.cells #[.int .i64 a1_0, (.slice A1_1 l1_1.length c1_1)] 24 (0, 0))) ∧ Aside0 (wc.heap[gb273]? = some (.cells #[.int .i64 t268, (.slice Ao42 t269.length co42)] 28 (0, 0))) ∧ Aside0 (wc.heap[gb278]? = some (.cells #[.int .i64 t274, (.slice Ao52 t275.length co52)] 28 (0, 0))) ∧ Aside0 (wc.heap[gb283]? = some (.cells #[.int .i64 t279, (.slice Ao62 t280.length co62)] 28 (0, 0))) ∧ Aside0 (wc.heap[gb289]? = some (.cells #[.int .i64 t284, (.slice Ao72 t285.length co72)] 28 (0, 0))) ∧ Aside0 (Below w.heap.size w wc))
        case first =>
         have H := HC108.out; clear HC108
         by_cases c130 : t303 < 0
         ·rw [if_pos c130] at H
          have c130b0 : decide (t303 < 0) = true := decide_eq_true c130
          clear c130
          (first | rw [c130b0] | (simp only [i64_w, i32_w]; rw [c130b0]) | skip)
          have H' := Aside0.mk H
          clear H
          go_wp2
          go_meet
          case rel => exact ⟨_, (true), (by first | rfl | (simp; done) | (simp [*]; done)), H', ⟨by have := HJ24.out; first | omega | exact Nat.le_refl _⟩, ⟨km_ HO_274001 (fun _ hk => ⟨hk.1, ⟨hk.2.1, hk.2.2.1⟩⟩)⟩, ⟨km_ HO_279001 (fun _ hk => ⟨hk.1, ⟨hk.2.1, hk.2.2.1⟩⟩)⟩, ⟨km_ HO_284001 (fun _ hk => ⟨hk.1, ⟨hk.2.1, hk.2.2.1⟩⟩)⟩, ⟨km_ HO_290001 (fun _ hk => ⟨hk.1, ⟨hk.2.1, hk.2.2.1⟩⟩)⟩, ⟨bk_ BK256⟩, ⟨bk_ BK257⟩, ⟨bk_ BK273⟩, ⟨bk_ BK278⟩, ⟨bk_ BK283⟩, ⟨bk_ BK289⟩, ⟨bl_ HB⟩⟩
         ·rw [if_neg c130] at H
          have c130b0 : decide (t303 < 0) = false := decide_eq_false c130
          clear c130
          (first | rw [c130b0] | (simp only [i64_w, i32_w]; rw [c130b0]) | skip)
          replace H := Option.bind_eq_some_iff.mp H
          obtain ⟨t305, A1310, H⟩ := H
          replace H : (if t305 = true then (laws_FnExactSubtractWholes.j1 kj24 t272 (t288 != t272) a0_0 l0_1 a1_0 l1_1 t268 t269 t284 t285) else (laws_FnExactSubtractWholes.j1 kj24 t272 true a0_0 l0_1 a1_0 l1_1 t268 t269 t284 t285)) = some r := H
          have A131 := Aside0.mk A1310; clear A1310
          by_cases c132 : t305 = true
          ·subst c132
           have H1 : (laws_FnExactSubtractWholes.j1 kj24 t272 (t288 != t272) a0_0 l0_1 a1_0 l1_1 t268 t269 t284 t285) = some r := by rw [if_pos rfl] at H; exact H
           clear H; have H := H1; clear H1
           have H' := Aside0.mk H
           clear H; have hnb133 := NB289_256.out; have hnc133 := NB256_289.out; have hnb134 := NB289_257.out; have hnc134 := NB257_289.out; have hnb135 := NB289_273.out; have hnc135 := NB273_289.out; have hnb136 := NB289_278.out; have hnc136 := NB278_289.out; have hnb137 := NB289_283.out; have hnc137 := NB283_289.out
           have hcz138_0 : w129.cell? ⟨gb289, 0, none⟩ = some (.int .i64 t284) := (blk_cell BK289.out 0).trans rfl
           have hcz138_1 : w129.cell? ⟨gb289, 1, none⟩ = some (.slice Ao72 t285.length co72) := (blk_cell BK289.out 1).trans rfl
           have hfz138_0 := blk_frozen BK289.out 0; have hfz138_1 := blk_frozen BK289.out 1; have hnb139 := NB273_256.out; have hnc139 := NB256_273.out; have hnb140 := NB273_257.out; have hnc140 := NB257_273.out; have hnb141 := NB273_278.out; have hnc141 := NB278_273.out; have hnb142 := NB273_283.out; have hnc142 := NB283_273.out
           have hcz143_0 : w129.cell? ⟨gb273, 0, none⟩ = some (.int .i64 t268) := (blk_cell BK273.out 0).trans rfl
           have hcz143_1 : w129.cell? ⟨gb273, 1, none⟩ = some (.slice Ao42 t269.length co42) := (blk_cell BK273.out 1).trans rfl
           have hfz143_0 := blk_frozen BK273.out 0; have hfz143_1 := blk_frozen BK273.out 1
           go_wp2_with (first | (go_at_call 22; (with_reducible refine (laws_eqWhole.calls kj24 t284 _ _ t285 t268 _ _ t269 true _ ?side1 ?side2 ?side3 ?side4 A131.out).mono ?_); (case side1 => repeat (first | exact (Kd.R_reads' HO_290001.out).2.2 | (with_reducible refine Kd.C_alloc ?_ _) | (with_reducible refine Kd.C_drewN ?_ _) | (with_reducible refine Kd.C_drew ?_))); (case side2 => exact (Kd.R_reads' HO_290001.out).2.1); (case side3 => repeat (first | exact (Kd.R_reads' HO_274001.out).2.2 | (with_reducible refine Kd.C_alloc ?_ _) | (with_reducible refine Kd.C_drewN ?_ _) | (with_reducible refine Kd.C_drew ?_))); (case side4 => exact (Kd.R_reads' HO_274001.out).2.1); rintro e w144 ⟨rfl, hb⟩; have n0_ := am_ (Kd.R_below (kr_ HO_274001) hb); have n1_ := am_ (Kd.R_below (kr_ HO_279001) hb); have n2_ := am_ (Kd.R_below (kr_ HO_284001) hb); have n3_ := am_ (Kd.R_below (kr_ HO_290001) hb); have n4_ := am_ (Kd.R_below (kr_ HO294) hb); have n5_ := am_ (Kd.R_below (kr_ HO299) hb); have n6_ := am_ (blk_below (bk_ BK256) hb); have n7_ := am_ (blk_below (bk_ BK257) hb); have n8_ := am_ (blk_below (bk_ BK273) hb); have n9_ := am_ (blk_below (bk_ BK278) hb); have n10_ := am_ (blk_below (bk_ BK283) hb); have n11_ := am_ (blk_below (bk_ BK289) hb); have n12_ := am_ (below_step (bl_ HB) hb); clear HO_274001; clear HO_279001; clear HO_284001; clear HO_290001; clear HO294; clear HO299; clear BK256; clear BK257; clear BK273; clear BK278; clear BK283; clear BK289; clear HB; have HO_274001 := n0_; have HO_279001 := n1_; have HO_284001 := n2_; have HO_290001 := n3_; have HO294 := n4_; have HO299 := n5_; have BK256 := n6_; have BK257 := n7_; have BK273 := n8_; have BK278 := n9_; have BK283 := n10_; have BK289 := n11_; have HB := n12_; clear n0_ n1_ n2_ n3_ n4_ n5_ n6_ n7_ n8_ n9_ n10_ n11_ n12_; (try clear hb); (try clear hb2); (try clear hk); (try clear hi)))
           go_meet
           case rel => exact ⟨_, ((t288 != t272)), (by first | rfl | (simp; done) | (simp [*]; done)), H', ⟨by have := HJ24.out; first | omega | exact Nat.le_refl _⟩, ⟨km_ HO_274001 (fun _ hk => ⟨hk.1, ⟨hk.2.1, hk.2.2.1⟩⟩)⟩, ⟨km_ HO_279001 (fun _ hk => ⟨hk.1, ⟨hk.2.1, hk.2.2.1⟩⟩)⟩, ⟨km_ HO_284001 (fun _ hk => ⟨hk.1, ⟨hk.2.1, hk.2.2.1⟩⟩)⟩, ⟨km_ HO_290001 (fun _ hk => ⟨hk.1, ⟨hk.2.1, hk.2.2.1⟩⟩)⟩, ⟨bk_ BK256⟩, ⟨bk_ BK257⟩, ⟨bk_ BK273⟩, ⟨bk_ BK278⟩, ⟨bk_ BK283⟩, ⟨bk_ BK289⟩, ⟨bl_ HB⟩⟩
          ·replace c132 := Bool.eq_false_iff.mpr c132
           subst c132
           have H1 : (laws_FnExactSubtractWholes.j1 kj24 t272 true a0_0 l0_1 a1_0 l1_1 t268 t269 t284 t285) = some r := by rw [if_neg (show ¬ (false = true) by decide)] at H; exact H
           clear H; have H := H1; clear H1
           have H' := Aside0.mk H
           clear H; have hnb145 := NB289_256.out; have hnc145 := NB256_289.out; have hnb146 := NB289_257.out; have hnc146 := NB257_289.out; have hnb147 := NB289_273.out; have hnc147 := NB273_289.out; have hnb148 := NB289_278.out; have hnc148 := NB278_289.out; have hnb149 := NB289_283.out; have hnc149 := NB283_289.out
           have hcz150_0 : w129.cell? ⟨gb289, 0, none⟩ = some (.int .i64 t284) := (blk_cell BK289.out 0).trans rfl
           have hcz150_1 : w129.cell? ⟨gb289, 1, none⟩ = some (.slice Ao72 t285.length co72) := (blk_cell BK289.out 1).trans rfl
           have hfz150_0 := blk_frozen BK289.out 0; have hfz150_1 := blk_frozen BK289.out 1; have hnb151 := NB273_256.out; have hnc151 := NB256_273.out; have hnb152 := NB273_257.out; have hnc152 := NB257_273.out; have hnb153 := NB273_278.out; have hnc153 := NB278_273.out; have hnb154 := NB273_283.out; have hnc154 := NB283_273.out
           have hcz155_0 : w129.cell? ⟨gb273, 0, none⟩ = some (.int .i64 t268) := (blk_cell BK273.out 0).trans rfl
           have hcz155_1 : w129.cell? ⟨gb273, 1, none⟩ = some (.slice Ao42 t269.length co42) := (blk_cell BK273.out 1).trans rfl
           have hfz155_0 := blk_frozen BK273.out 0; have hfz155_1 := blk_frozen BK273.out 1
           go_wp2_with (first | (go_at_call 22; (with_reducible refine (laws_eqWhole.calls kj24 t284 _ _ t285 t268 _ _ t269 false _ ?side1 ?side2 ?side3 ?side4 A131.out).mono ?_); (case side1 => repeat (first | exact (Kd.R_reads' HO_290001.out).2.2 | (with_reducible refine Kd.C_alloc ?_ _) | (with_reducible refine Kd.C_drewN ?_ _) | (with_reducible refine Kd.C_drew ?_))); (case side2 => exact (Kd.R_reads' HO_290001.out).2.1); (case side3 => repeat (first | exact (Kd.R_reads' HO_274001.out).2.2 | (with_reducible refine Kd.C_alloc ?_ _) | (with_reducible refine Kd.C_drewN ?_ _) | (with_reducible refine Kd.C_drew ?_))); (case side4 => exact (Kd.R_reads' HO_274001.out).2.1); rintro e w156 ⟨rfl, hb⟩; have n0_ := am_ (Kd.R_below (kr_ HO_274001) hb); have n1_ := am_ (Kd.R_below (kr_ HO_279001) hb); have n2_ := am_ (Kd.R_below (kr_ HO_284001) hb); have n3_ := am_ (Kd.R_below (kr_ HO_290001) hb); have n4_ := am_ (Kd.R_below (kr_ HO294) hb); have n5_ := am_ (Kd.R_below (kr_ HO299) hb); have n6_ := am_ (blk_below (bk_ BK256) hb); have n7_ := am_ (blk_below (bk_ BK257) hb); have n8_ := am_ (blk_below (bk_ BK273) hb); have n9_ := am_ (blk_below (bk_ BK278) hb); have n10_ := am_ (blk_below (bk_ BK283) hb); have n11_ := am_ (blk_below (bk_ BK289) hb); have n12_ := am_ (below_step (bl_ HB) hb); clear HO_274001; clear HO_279001; clear HO_284001; clear HO_290001; clear HO294; clear HO299; clear BK256; clear BK257; clear BK273; clear BK278; clear BK283; clear BK289; clear HB; have HO_274001 := n0_; have HO_279001 := n1_; have HO_284001 := n2_; have HO_290001 := n3_; have HO294 := n4_; have HO299 := n5_; have BK256 := n6_; have BK257 := n7_; have BK273 := n8_; have BK278 := n9_; have BK283 := n10_; have BK289 := n11_; have HB := n12_; clear n0_ n1_ n2_ n3_ n4_ n5_ n6_ n7_ n8_ n9_ n10_ n11_ n12_; (try clear hb); (try clear hb2); (try clear hk); (try clear hi)))
           go_meet
           case rel => exact ⟨_, (true), (by first | rfl | (simp; done) | (simp [*]; done)), H', ⟨by have := HJ24.out; first | omega | exact Nat.le_refl _⟩, ⟨km_ HO_274001 (fun _ hk => ⟨hk.1, ⟨hk.2.1, hk.2.2.1⟩⟩)⟩, ⟨km_ HO_279001 (fun _ hk => ⟨hk.1, ⟨hk.2.1, hk.2.2.1⟩⟩)⟩, ⟨km_ HO_284001 (fun _ hk => ⟨hk.1, ⟨hk.2.1, hk.2.2.1⟩⟩)⟩, ⟨km_ HO_290001 (fun _ hk => ⟨hk.1, ⟨hk.2.1, hk.2.2.1⟩⟩)⟩, ⟨bk_ BK256⟩, ⟨bk_ BK257⟩, ⟨bk_ BK273⟩, ⟨bk_ BK278⟩, ⟨bk_ BK283⟩, ⟨bk_ BK289⟩, ⟨bl_ HB⟩⟩
        case rest =>
         clear HC108; try clear c1; try clear c2; try clear p2; try clear c7; try clear c8; try clear c9; try clear c10; try clear c11; try clear c12; try clear c13; try clear c14; try clear c15; try clear c20; try clear c22; try clear c25; try clear c76; try clear c77; try clear c78; try clear c79; try clear c81; try clear c82; try clear c83; try clear c84; try clear c87; try clear c88; try clear c89; try clear c90; try clear c91; try clear c93; try clear c94; try clear c95; try clear c96; try clear c99; try clear c102; try clear c105; try clear c117; try clear c118; try clear c119; try clear c120; try clear c121; try clear c124; try clear c125; try clear c126; try clear c127; try clear c130; try clear c130b0; try clear c132; try clear c133; try clear c134; try clear c135; try clear c136; try clear c137; try clear c139; try clear c140; try clear c141; try clear c142; try clear c145; try clear c146; try clear c147; try clear c148; try clear c149; try clear c151; try clear c152; try clear c153; try clear c154; try clear hcz122_0; try clear hcz122_1; try clear hcz128_0; try clear hcz128_1; try clear hcz138_0; try clear hcz138_1; try clear hcz143_0; try clear hcz143_1; try clear hcz150_0; try clear hcz150_1; try clear hcz155_0; try clear hcz155_1; try clear hcz45_0; try clear hcz45_1; try clear hcz51_0; try clear hcz51_1; try clear hcz54_0; try clear hcz54_1; try clear hcz61_0; try clear hcz61_1; try clear hcz63_0; try clear hcz63_1; try clear hcz71_0; try clear hcz71_1; try clear hcz80_0; try clear hcz80_1; try clear hcz85_0; try clear hcz85_1; try clear hcz92_0; try clear hcz92_1; try clear hcz97_0; try clear hcz97_1; try clear hfz122_0; try clear hfz122_1; try clear hfz128_0; try clear hfz128_1; try clear hfz138_0; try clear hfz138_1; try clear hfz143_0; try clear hfz143_1; try clear hfz150_0; try clear hfz150_1; try clear hfz155_0; try clear hfz155_1; try clear hfz45_0; try clear hfz45_1; try clear hfz51_0; try clear hfz51_1; try clear hfz54_0; try clear hfz54_1; try clear hfz61_0
         try clear hfz61_1; try clear hfz63_0; try clear hfz63_1; try clear hfz71_0; try clear hfz71_1; try clear hfz80_0; try clear hfz80_1; try clear hfz85_0; try clear hfz85_1; try clear hfz92_0; try clear hfz92_1; try clear hfz97_0; try clear hfz97_1
         obtain ⟨kq, x82_107, rfl, HA, HJ107, HO_274001, HO_279001, HO_284001, HO_290001, BK256, BK257, BK273, BK278, BK283, BK289, HB⟩ := hcut
         have hl279001_107 := (Kd.R_reads' HO_279001.out).1
         rw [hl279001_107] at HO_279001
         (try simp only [hl279001_107])
         (try simp only [hl279001_107] at BK256)
         (try simp only [hl279001_107] at BK257)
         (try simp only [hl279001_107] at BK273)
         (try simp only [hl279001_107] at BK278)
         (try simp only [hl279001_107] at BK283)
         (try simp only [hl279001_107] at BK289)
         (try simp only [hl279001_107] at HO_274001)
         (try simp only [hl279001_107] at HO_284001)
         (try simp only [hl279001_107] at HO_290001)
         have hl284001_107 := (Kd.R_reads' HO_284001.out).1
         rw [hl284001_107] at HO_284001
         (try simp only [hl284001_107])
         (try simp only [hl284001_107] at BK256)
         (try simp only [hl284001_107] at BK257)
         (try simp only [hl284001_107] at BK273)
         (try simp only [hl284001_107] at BK278)
         (try simp only [hl284001_107] at BK283)
         (try simp only [hl284001_107] at BK289)
         (try simp only [hl284001_107] at HO_274001)
         (try simp only [hl284001_107] at HO_279001)
         (try simp only [hl284001_107] at HO_290001)
         cases kq with
         | zero => exact absurd HA.out (by simp [laws_FnExactSubtractWholes.j1])
         | succ kj107 =>
          have H := HA.out; clear HA
          simp only [laws_FnExactSubtractWholes.j1] at H
          by_cases c157 : x82_107 = true
          ·subst c157
           have H1 : (some false) = some r := by rw [if_pos rfl] at H; exact H
           clear H; have H := H1; clear H1; obtain rfl := Option.some.inj H
           go_wp2
           go_ret
           exact ⟨by first | rfl | (simp [errW_none, errW_some] <;> rfl) | (simp [*, errW_none, errW_some] <;> rfl), bl_ HB⟩
          ·replace c157 := Bool.eq_false_iff.mpr c157
           subst c157
           have H1 : ((laws_markWhole.f kj107 t284 t285 1).bind fun bt306 => ((laws_heldWhole.f kj107 t284 bt306.2 1).bind fun t308 => (if t308 < 0 then (some false) else (if t308 = bt306.1 then ((laws_toWhole.f kj107 a0_0 l0_1).bind fun bt309 => ((laws_toWhole.f kj107 a1_0 l1_1).bind fun bt313 => ((impl_SubtractWholes.f bt309.1 bt309.2 bt313.1 bt313.2).bind fun bt317 => ((laws_eqWhole.f kj107 bt317.1 bt317.2.1 t268 t269).bind fun t323 => (if t323 = true then (laws_FnExactSubtractWholes.j2 kj107 bt306.1 (bt317.2.2 != t272) t284 bt306.2) else (laws_FnExactSubtractWholes.j2 kj107 bt306.1 true t284 bt306.2)))))) else (some false))))) = some r := by rw [if_neg (show ¬ (false = true) by decide)] at H; exact H
           clear H; have H := H1; clear H1
           replace H := Option.bind_eq_some_iff.mp H
           obtain ⟨⟨t306, t307⟩, A1580, H⟩ := H
           replace H : ((laws_heldWhole.f kj107 t284 t307 1).bind fun t308 => (if t308 < 0 then (some false) else (if t308 = t306 then ((laws_toWhole.f kj107 a0_0 l0_1).bind fun bt309 => ((laws_toWhole.f kj107 a1_0 l1_1).bind fun bt313 => ((impl_SubtractWholes.f bt309.1 bt309.2 bt313.1 bt313.2).bind fun bt317 => ((laws_eqWhole.f kj107 bt317.1 bt317.2.1 t268 t269).bind fun t323 => (if t323 = true then (laws_FnExactSubtractWholes.j2 kj107 t306 (bt317.2.2 != t272) t284 t307) else (laws_FnExactSubtractWholes.j2 kj107 t306 true t284 t307)))))) else (some false)))) = some r := H
           have A158 := Aside0.mk A1580; clear A1580
           replace H := Option.bind_eq_some_iff.mp H
           obtain ⟨t308, A1590, H⟩ := H
           replace H : (if t308 < 0 then (some false) else (if t308 = t306 then ((laws_toWhole.f kj107 a0_0 l0_1).bind fun bt309 => ((laws_toWhole.f kj107 a1_0 l1_1).bind fun bt313 => ((impl_SubtractWholes.f bt309.1 bt309.2 bt313.1 bt313.2).bind fun bt317 => ((laws_eqWhole.f kj107 bt317.1 bt317.2.1 t268 t269).bind fun t323 => (if t323 = true then (laws_FnExactSubtractWholes.j2 kj107 t306 (bt317.2.2 != t272) t284 t307) else (laws_FnExactSubtractWholes.j2 kj107 t306 true t284 t307)))))) else (some false))) = some r := H
           have A159 := Aside0.mk A1590; clear A1590
           by_cases c160 : t308 < 0
           ·rw [if_pos c160] at H
            have c160b0 : decide (t308 < 0) = true := decide_eq_true c160
            clear c160; obtain rfl := Option.some.inj H; have hnb161 := NB289_256.out; have hnc161 := NB256_289.out; have hnb162 := NB289_257.out; have hnc162 := NB257_289.out; have hnb163 := NB289_273.out; have hnc163 := NB273_289.out; have hnb164 := NB289_278.out; have hnc164 := NB278_289.out; have hnb165 := NB289_283.out; have hnc165 := NB283_289.out
            have hcz166_0 : wc.cell? ⟨gb289, 0, none⟩ = some (.int .i64 t284) := (blk_cell BK289.out 0).trans rfl
            have hcz166_1 : wc.cell? ⟨gb289, 1, none⟩ = some (.slice Ao72 t285.length co72) := (blk_cell BK289.out 1).trans rfl
            have hfz166_0 := blk_frozen BK289.out 0; have hfz166_1 := blk_frozen BK289.out 1
            go_wp2_with (first | ((with_reducible refine gate_callee (f := 25) rfl ?_); refine goesL_ (some 85) rfl rfl Tryd.func25 (by kernel_rfl) rfl #[.agg #[.int .i64 t284, .slice Ao72 t285.length co72], .int .i64 1] rfl ma_ ?_; (with_reducible refine (laws_markWhole.calls kj107 t284 (fun k_ => some k_ = (.slice Ao72 t285.length co72 : Value).ownBlock) (.slice Ao72 t285.length co72) t285 1 t306 t307 w _ ?side1 ?side2 A158.out).mono ?_); (case side1 => repeat (first | (with_reducible first | exact HB.out | apply below_alloc | apply pw_below_drewN | apply below_drew1 | refine below_set ?_ GE256.out | refine below_set ?_ GE257.out | refine below_set ?_ GE273.out | refine below_set ?_ GE278.out | refine below_set ?_ GE283.out | refine below_set ?_ GE289.out) | exact HB.out)); (case side2 => exact Kd.R_tight rfl HO_290001.out); rintro e w167 ⟨rfl, hy0, hb, hkp⟩; refine ⟨_, rfl, ?_⟩; have n0_ := am_ (Kd.R_mono (ok' := fun k_ => some k_ ≠ (.slice Ao52 t302.length co52 : Value).ownBlock ∧ some k_ ≠ (.slice Ao62 t304.length co62 : Value).ownBlock ∧ some k_ ≠ (.slice Ao72 t285.length co72 : Value).ownBlock) (Kd.R_keptB (HO_274001.out) hkp (fun k_ hk_ hs_ => (hk_.2.2) hs_)) (fun k_ hk_ => ⟨hk_.1.1, hk_.1.2.1, hk_.1.2.2⟩)); have n1_ := am_ (Kd.R_mono (ok' := fun k_ => some k_ ≠ (.slice Ao42 t269.length co42 : Value).ownBlock ∧ some k_ ≠ (.slice Ao62 t304.length co62 : Value).ownBlock ∧ some k_ ≠ (.slice Ao72 t285.length co72 : Value).ownBlock) (Kd.R_keptB (HO_279001.out) hkp (fun k_ hk_ hs_ => (hk_.2.2) hs_)) (fun k_ hk_ => ⟨hk_.1.1, hk_.1.2.1, hk_.1.2.2⟩)); have n2_ := am_ (Kd.R_mono (ok' := fun k_ => some k_ ≠ (.slice Ao42 t269.length co42 : Value).ownBlock ∧ some k_ ≠ (.slice Ao52 t302.length co52 : Value).ownBlock ∧ some k_ ≠ (.slice Ao72 t285.length co72 : Value).ownBlock) (Kd.R_keptB (HO_284001.out) hkp (fun k_ hk_ hs_ => (hk_.2.2) hs_)) (fun k_ hk_ => ⟨hk_.1.1, hk_.1.2.1, hk_.1.2.2⟩)); have n3_ := am_ (Kd.R_reok rfl hy0 (fun k_ e_ => HO_290001.out.1 k_ e_)); have n4_ := am_ (blk_kept (bk_ BK256) hkp (fun hs_ => (fun e_ => (Kd.R_ne HO_290001.out BK256.out (by decide)) e_) hs_)); have n5_ := am_ (blk_kept (bk_ BK257) hkp (fun hs_ => (fun e_ => (Kd.R_ne HO_290001.out BK257.out (by decide)) e_) hs_)); have n6_ := am_ (blk_kept (bk_ BK273) hkp (fun hs_ => (fun e_ => (Kd.R_ne HO_290001.out BK273.out (by decide)) e_) hs_)); have n7_ := am_ (blk_kept (bk_ BK278) hkp (fun hs_ => (fun e_ => (Kd.R_ne HO_290001.out BK278.out (by decide)) e_) hs_)); have n8_ := am_ (blk_kept (bk_ BK283) hkp (fun hs_ => (fun e_ => (Kd.R_ne HO_290001.out BK283.out (by decide)) e_) hs_)); have n9_ := am_ (blk_kept (bk_ BK289) hkp (fun hs_ => (fun e_ => (Kd.R_ne HO_290001.out BK289.out (by decide)) e_) hs_)); have n10_ := am_ (hb); clear HO_274001; clear HO_279001; clear HO_284001; clear HO_290001; clear BK256; clear BK257; clear BK273; clear BK278; clear BK283; clear BK289; clear HB; have HO_274001 := n0_; have HO_279001 := n1_; have HO_284001 := n2_; have HO_290001 := n3_; have BK256 := n4_; have BK257 := n5_; have BK273 := n6_; have BK278 := n7_; have BK283 := n8_; have BK289 := n9_; have HB := n10_; clear n0_ n1_ n2_ n3_ n4_ n5_ n6_ n7_ n8_ n9_ n10_; (try clear hb); (try clear hkp); (try clear hy0); have hcz168_0 : w167.cell? ⟨gb289, 0, none⟩ = some (.int .i64 t284) := (blk_cell BK289.out 0).trans rfl; have hcz168_1 : w167.cell? ⟨gb289, 1, none⟩ = some (.slice Ao72 t285.length co72) := (blk_cell BK289.out 1).trans rfl; have hfz168_0 := blk_frozen BK289.out 0; have hfz168_1 := blk_frozen BK289.out 1) | ((with_reducible refine gate_callee (f := 26) rfl ?_); refine goesL_ (some 88) rfl rfl Tryd.func26 (by kernel_rfl) rfl #[.agg #[.int .i64 t284, .slice Ao72 t307.length co72], .int .i64 1] rfl (by (try simp only [List.map_toArray, List.map_cons, List.map_nil]); first | done | (rw [show t307.length = t285.length from (Kd.R_reads' HO_290001.out).1.symm] <;> rfl) | rfl | (simp only [List.length_drop, List.length_take]; rfl)) ?_; (with_reducible refine (laws_heldWhole.calls kj107 t284 _ _ t307 1 t308 _ ?side1 ?side2 A159.out).mono ?_); (case side1 => repeat (first | exact (Kd.R_reads' HO_290001.out).2.2 | (with_reducible refine Kd.C_alloc ?_ _) | (with_reducible refine Kd.C_drewN ?_ _) | (with_reducible refine Kd.C_drew ?_))); (case side2 => rw [show t307.length = t285.length from (Kd.R_reads' HO_290001.out).1.symm]; exact (Kd.R_reads' HO_290001.out).2.1); rintro e w169 ⟨rfl, hb⟩; refine ⟨_, rfl, ?_⟩; have n0_ := am_ (Kd.R_below (kr_ HO_274001) hb); have n1_ := am_ (Kd.R_below (kr_ HO_279001) hb); have n2_ := am_ (Kd.R_below (kr_ HO_284001) hb); have n3_ := am_ (Kd.R_below (kr_ HO_290001) hb); have n4_ := am_ (blk_below (bk_ BK256) hb); have n5_ := am_ (blk_below (bk_ BK257) hb); have n6_ := am_ (blk_below (bk_ BK273) hb); have n7_ := am_ (blk_below (bk_ BK278) hb); have n8_ := am_ (blk_below (bk_ BK283) hb); have n9_ := am_ (blk_below (bk_ BK289) hb); have n10_ := am_ (below_step (bl_ HB) hb); clear HO_274001; clear HO_279001; clear HO_284001; clear HO_290001; clear BK256; clear BK257; clear BK273; clear BK278; clear BK283; clear BK289; clear HB; have HO_274001 := n0_; have HO_279001 := n1_; have HO_284001 := n2_; have HO_290001 := n3_; have BK256 := n4_; have BK257 := n5_; have BK273 := n6_; have BK278 := n7_; have BK283 := n8_; have BK289 := n9_; have HB := n10_; clear n0_ n1_ n2_ n3_ n4_ n5_ n6_ n7_ n8_ n9_ n10_; (try clear hb); (try clear hb2); (try clear hk); (try clear hi)))
            go_ret
            exact ⟨by first | rfl | (simp [errW_none, errW_some] <;> rfl) | (simp [*, errW_none, errW_some] <;> rfl), bl_ HB⟩
           ·rw [if_neg c160] at H
            have c160b0 : decide (t308 < 0) = false := decide_eq_false c160
            clear c160
            by_cases c170 : t308 = t306
            ·rw [if_pos c170] at H
             have c170b0 : (t308 == t306) = true := beq_iff_eq.mpr c170
             have c170b1 : (t308 != t306) = false := bne_eq_false_iff_eq.mpr c170
             clear c170
             replace H := Option.bind_eq_some_iff.mp H
             obtain ⟨⟨t309, t310⟩, A1710, H⟩ := H
             replace H : ((laws_toWhole.f kj107 a1_0 l1_1).bind fun bt313 => ((impl_SubtractWholes.f t309 t310 bt313.1 bt313.2).bind fun bt317 => ((laws_eqWhole.f kj107 bt317.1 bt317.2.1 t268 t269).bind fun t323 => (if t323 = true then (laws_FnExactSubtractWholes.j2 kj107 t306 (bt317.2.2 != t272) t284 t307) else (laws_FnExactSubtractWholes.j2 kj107 t306 true t284 t307))))) = some r := H
             have A171 := Aside0.mk A1710; clear A1710
             replace H := Option.bind_eq_some_iff.mp H
             obtain ⟨⟨t313, t314⟩, A1720, H⟩ := H
             replace H : ((impl_SubtractWholes.f t309 t310 t313 t314).bind fun bt317 => ((laws_eqWhole.f kj107 bt317.1 bt317.2.1 t268 t269).bind fun t323 => (if t323 = true then (laws_FnExactSubtractWholes.j2 kj107 t306 (bt317.2.2 != t272) t284 t307) else (laws_FnExactSubtractWholes.j2 kj107 t306 true t284 t307)))) = some r := H
             have A172 := Aside0.mk A1720; clear A1720
             replace H := Option.bind_eq_some_iff.mp H
             obtain ⟨⟨t317, t318, t321⟩, A1730, H⟩ := H
             replace H : ((laws_eqWhole.f kj107 t317 t318 t268 t269).bind fun t323 => (if t323 = true then (laws_FnExactSubtractWholes.j2 kj107 t306 (t321 != t272) t284 t307) else (laws_FnExactSubtractWholes.j2 kj107 t306 true t284 t307))) = some r := H
             have A173 := Aside0.mk A1730; clear A1730; have HC174 := Aside0.mk H; clear H; have hnb175 := NB289_256.out; have hnc175 := NB256_289.out; have hnb176 := NB289_257.out; have hnc176 := NB257_289.out; have hnb177 := NB289_273.out; have hnc177 := NB273_289.out; have hnb178 := NB289_278.out; have hnc178 := NB278_289.out; have hnb179 := NB289_283.out; have hnc179 := NB283_289.out
             have hcz180_0 : wc.cell? ⟨gb289, 0, none⟩ = some (.int .i64 t284) := (blk_cell BK289.out 0).trans rfl
             have hcz180_1 : wc.cell? ⟨gb289, 1, none⟩ = some (.slice Ao72 t285.length co72) := (blk_cell BK289.out 1).trans rfl
             have hfz180_0 := blk_frozen BK289.out 0; have hfz180_1 := blk_frozen BK289.out 1
             try go_wp2_with (first | ((with_reducible refine gate_callee (f := 25) rfl ?_); refine goesL_ (some 85) rfl rfl Tryd.func25 (by kernel_rfl) rfl #[.agg #[.int .i64 t284, .slice Ao72 t285.length co72], .int .i64 1] rfl ma_ ?_; (with_reducible refine (laws_markWhole.calls kj107 t284 (fun k_ => some k_ = (.slice Ao72 t285.length co72 : Value).ownBlock) (.slice Ao72 t285.length co72) t285 1 t306 t307 w _ ?side1 ?side2 A158.out).mono ?_); (case side1 => repeat (first | (with_reducible first | exact HB.out | apply below_alloc | apply pw_below_drewN | apply below_drew1 | refine below_set ?_ GE256.out | refine below_set ?_ GE257.out | refine below_set ?_ GE273.out | refine below_set ?_ GE278.out | refine below_set ?_ GE283.out | refine below_set ?_ GE289.out) | exact HB.out)); (case side2 => exact Kd.R_tight rfl HO_290001.out); rintro e w181 ⟨rfl, hy0, hb, hkp⟩; refine ⟨_, rfl, ?_⟩; have n0_ := am_ (Kd.R_mono (ok' := fun k_ => some k_ ≠ (.slice Ao52 t302.length co52 : Value).ownBlock ∧ some k_ ≠ (.slice Ao62 t304.length co62 : Value).ownBlock ∧ some k_ ≠ (.slice Ao72 t285.length co72 : Value).ownBlock) (Kd.R_keptB (HO_274001.out) hkp (fun k_ hk_ hs_ => (hk_.2.2) hs_)) (fun k_ hk_ => ⟨hk_.1.1, hk_.1.2.1, hk_.1.2.2⟩)); have n1_ := am_ (Kd.R_mono (ok' := fun k_ => some k_ ≠ (.slice Ao42 t269.length co42 : Value).ownBlock ∧ some k_ ≠ (.slice Ao62 t304.length co62 : Value).ownBlock ∧ some k_ ≠ (.slice Ao72 t285.length co72 : Value).ownBlock) (Kd.R_keptB (HO_279001.out) hkp (fun k_ hk_ hs_ => (hk_.2.2) hs_)) (fun k_ hk_ => ⟨hk_.1.1, hk_.1.2.1, hk_.1.2.2⟩)); have n2_ := am_ (Kd.R_mono (ok' := fun k_ => some k_ ≠ (.slice Ao42 t269.length co42 : Value).ownBlock ∧ some k_ ≠ (.slice Ao52 t302.length co52 : Value).ownBlock ∧ some k_ ≠ (.slice Ao72 t285.length co72 : Value).ownBlock) (Kd.R_keptB (HO_284001.out) hkp (fun k_ hk_ hs_ => (hk_.2.2) hs_)) (fun k_ hk_ => ⟨hk_.1.1, hk_.1.2.1, hk_.1.2.2⟩)); have n3_ := am_ (Kd.R_reok rfl hy0 (fun k_ e_ => HO_290001.out.1 k_ e_)); have n4_ := am_ (blk_kept (bk_ BK256) hkp (fun hs_ => (fun e_ => (Kd.R_ne HO_290001.out BK256.out (by decide)) e_) hs_)); have n5_ := am_ (blk_kept (bk_ BK257) hkp (fun hs_ => (fun e_ => (Kd.R_ne HO_290001.out BK257.out (by decide)) e_) hs_)); have n6_ := am_ (blk_kept (bk_ BK273) hkp (fun hs_ => (fun e_ => (Kd.R_ne HO_290001.out BK273.out (by decide)) e_) hs_)); have n7_ := am_ (blk_kept (bk_ BK278) hkp (fun hs_ => (fun e_ => (Kd.R_ne HO_290001.out BK278.out (by decide)) e_) hs_)); have n8_ := am_ (blk_kept (bk_ BK283) hkp (fun hs_ => (fun e_ => (Kd.R_ne HO_290001.out BK283.out (by decide)) e_) hs_)); have n9_ := am_ (blk_kept (bk_ BK289) hkp (fun hs_ => (fun e_ => (Kd.R_ne HO_290001.out BK289.out (by decide)) e_) hs_)); have n10_ := am_ (hb); clear HO_274001; clear HO_279001; clear HO_284001; clear HO_290001; clear BK256; clear BK257; clear BK273; clear BK278; clear BK283; clear BK289; clear HB; have HO_274001 := n0_; have HO_279001 := n1_; have HO_284001 := n2_; have HO_290001 := n3_; have BK256 := n4_; have BK257 := n5_; have BK273 := n6_; have BK278 := n7_; have BK283 := n8_; have BK289 := n9_; have HB := n10_; clear n0_ n1_ n2_ n3_ n4_ n5_ n6_ n7_ n8_ n9_ n10_; (try clear hb); (try clear hkp); (try clear hy0); have hcz182_0 : w181.cell? ⟨gb289, 0, none⟩ = some (.int .i64 t284) := (blk_cell BK289.out 0).trans rfl; have hcz182_1 : w181.cell? ⟨gb289, 1, none⟩ = some (.slice Ao72 t285.length co72) := (blk_cell BK289.out 1).trans rfl; have hfz182_0 := blk_frozen BK289.out 0; have hfz182_1 := blk_frozen BK289.out 1) | ((with_reducible refine gate_callee (f := 26) rfl ?_); refine goesL_ (some 88) rfl rfl Tryd.func26 (by kernel_rfl) rfl #[.agg #[.int .i64 t284, .slice Ao72 t307.length co72], .int .i64 1] rfl (by (try simp only [List.map_toArray, List.map_cons, List.map_nil]); first | done | (rw [show t307.length = t285.length from (Kd.R_reads' HO_290001.out).1.symm] <;> rfl) | rfl | (simp only [List.length_drop, List.length_take]; rfl)) ?_; (with_reducible refine (laws_heldWhole.calls kj107 t284 _ _ t307 1 t308 _ ?side1 ?side2 A159.out).mono ?_); (case side1 => repeat (first | exact (Kd.R_reads' HO_290001.out).2.2 | (with_reducible refine Kd.C_alloc ?_ _) | (with_reducible refine Kd.C_drewN ?_ _) | (with_reducible refine Kd.C_drew ?_))); (case side2 => rw [show t307.length = t285.length from (Kd.R_reads' HO_290001.out).1.symm]; exact (Kd.R_reads' HO_290001.out).2.1); rintro e w183 ⟨rfl, hb⟩; refine ⟨_, rfl, ?_⟩; have n0_ := am_ (Kd.R_below (kr_ HO_274001) hb); have n1_ := am_ (Kd.R_below (kr_ HO_279001) hb); have n2_ := am_ (Kd.R_below (kr_ HO_284001) hb); have n3_ := am_ (Kd.R_below (kr_ HO_290001) hb); have n4_ := am_ (blk_below (bk_ BK256) hb); have n5_ := am_ (blk_below (bk_ BK257) hb); have n6_ := am_ (blk_below (bk_ BK273) hb); have n7_ := am_ (blk_below (bk_ BK278) hb); have n8_ := am_ (blk_below (bk_ BK283) hb); have n9_ := am_ (blk_below (bk_ BK289) hb); have n10_ := am_ (below_step (bl_ HB) hb); clear HO_274001; clear HO_279001; clear HO_284001; clear HO_290001; clear BK256; clear BK257; clear BK273; clear BK278; clear BK283; clear BK289; clear HB; have HO_274001 := n0_; have HO_279001 := n1_; have HO_284001 := n2_; have HO_290001 := n3_; have BK256 := n4_; have BK257 := n5_; have BK273 := n6_; have BK278 := n7_; have BK283 := n8_; have BK289 := n9_; have HB := n10_; clear n0_ n1_ n2_ n3_ n4_ n5_ n6_ n7_ n8_ n9_ n10_; (try clear hb); (try clear hb2); (try clear hk); (try clear hi)))
             have n0_ := am_ (Kd.R_drew HO_274001.out); have n1_ := am_ (Kd.R_drew HO_279001.out); have n2_ := am_ (Kd.R_drew HO_284001.out); have n3_ := am_ (Kd.R_drew HO_290001.out); have n4_ := am_ (blk_drew BK256.out); have n5_ := am_ (blk_drew BK257.out); have n6_ := am_ (blk_drew BK273.out); have n7_ := am_ (blk_drew BK278.out); have n8_ := am_ (blk_drew BK283.out); have n9_ := am_ (blk_drew BK289.out); have n10_ := am_ (below_drew1 HB.out); clear HO_274001 HO_279001 HO_284001 HO_290001 BK256 BK257 BK273 BK278 BK283 BK289 HB; have HO_274001 := n0_; have HO_279001 := n1_; have HO_284001 := n2_; have HO_290001 := n3_; have BK256 := n4_; have BK257 := n5_; have BK273 := n6_; have BK278 := n7_; have BK283 := n8_; have BK289 := n9_; have HB := n10_; clear n0_ n1_ n2_ n3_ n4_ n5_ n6_ n7_ n8_ n9_ n10_
             refine start_ (n := 11) (S := fun w' => w'.cell? ⟨gb256, 0, none⟩ = some (.int .i64 a0_0) ∧ w'.cell? ⟨gb256, 1, none⟩ = some (.slice A0_1 l0_1.length c0_1) ∧ w'.cell? ⟨gb257, 0, none⟩ = some (.int .i64 a1_0) ∧ w'.cell? ⟨gb257, 1, none⟩ = some (.slice A1_1 l1_1.length c1_1)) (ds := []) #[false, false, false, false, false, false, false, false, false, false, false] (by kernel_rfl) rfl rfl ⟨(blk_cell BK256.out 0).trans rfl, (blk_cell BK256.out 1).trans rfl, (blk_cell BK257.out 0).trans rfl, (blk_cell BK257.out 1).trans rfl⟩ (fun hHeld => ?_); refine with_tabW laws_FnExactSubtractWholes.tab31 laws_FnExactSubtractWholes.bits31 (fun HT_ HW_ => ?_)
             generalize w183.drew = w184 at HO_274001 HO_279001 HO_284001 HO_290001 BK256 BK257 BK273 BK278 BK283 BK289 HB hHeld ⊢
             refine take_ (i := 0) (N := some 95) (v := ?_) (a' := ?_) #[true, false, false, false, false, false, false, false, false, false, false] rfl rfl (take_ofW HT_.out HW_.out (by kernel_rfl)) (fun _ _ _ h => h) (Or.inl ⟨by rfl, ?_⟩) hHeld ?_ ?_
             rotate_left
             ·rintro w' ⟨s0, s1, s2, s3⟩
              go_simp
              with_reducible rfl
             rotate_left
             ·exact nm_
             refine take_ (i := 2) (N := some 97) (v := ?_) (a' := ?_) #[true, false, true, false, false, false, false, false, false, false, false] rfl rfl (take_ofW HT_.out HW_.out (by kernel_rfl)) (fun _ _ _ h => h) (Or.inl ⟨by rfl, ?_⟩) hHeld ?_ ?_
             rotate_left
             ·rintro w' ⟨s0, s1, s2, s3⟩
              go_simp
              with_reducible rfl
             rotate_left
             ·exact nm_
             refine join_ (σ := Value × Value × Value × Nat) 2 #[true, true, true, true, true, true, true, true, true, false, false] (fun s_ => [(96, .agg #[.int .i64 t309, s_.1]), (98, .agg #[.int .i64 t313, s_.2.1]), (99, .tuple #[.agg #[.int .i64 t317, s_.2.2.1], .int .i64 t321]), (15, .pointer (some ⟨s_.2.2.2, 0, none⟩)), (94, .tuple #[.agg #[.int .i64 t317, s_.2.2.1], .int .i64 t321]), (100, .agg #[.int .i64 t317, s_.2.2.1]), (101, .int .i64 t321)]) (fun s_ w' => (w'.cell? ⟨gb256, 0, none⟩ = some (.int .i64 a0_0) ∧ w'.cell? ⟨gb256, 1, none⟩ = some (.slice A0_1 l0_1.length c0_1) ∧ w'.cell? ⟨gb257, 0, none⟩ = some (.int .i64 a1_0) ∧ w'.cell? ⟨gb257, 1, none⟩ = some (.slice A1_1 l1_1.length c1_1)) ∧ (Kd.R (Kd.int .i64) 2 w' w.heap.size (fun k_ => some k_ ≠ (s_.2.1 : Value).ownBlock ∧ some k_ ≠ (s_.2.2.1 : Value).ownBlock ∧ some k_ ≠ (.slice Ao42 t269.length co42 : Value).ownBlock ∧ some k_ ≠ (.slice Ao52 t302.length co52 : Value).ownBlock ∧ some k_ ≠ (.slice Ao62 t304.length co62 : Value).ownBlock ∧ some k_ ≠ (.slice Ao72 t285.length co72 : Value).ownBlock) s_.1 t310) ∧ (Kd.R (Kd.int .i64) 2 w' w.heap.size (fun k_ => some k_ ≠ (s_.1 : Value).ownBlock ∧ some k_ ≠ (s_.2.2.1 : Value).ownBlock ∧ some k_ ≠ (.slice Ao42 t269.length co42 : Value).ownBlock ∧ some k_ ≠ (.slice Ao52 t302.length co52 : Value).ownBlock ∧ some k_ ≠ (.slice Ao62 t304.length co62 : Value).ownBlock ∧ some k_ ≠ (.slice Ao72 t285.length co72 : Value).ownBlock) s_.2.1 t314) ∧ (Kd.R (Kd.int .i64) 2 w' w.heap.size (fun k_ => some k_ ≠ (s_.1 : Value).ownBlock ∧ some k_ ≠ (s_.2.1 : Value).ownBlock ∧ some k_ ≠ (.slice Ao42 t269.length co42 : Value).ownBlock ∧ some k_ ≠ (.slice Ao52 t302.length co52 : Value).ownBlock ∧ some k_ ≠ (.slice Ao62 t304.length co62 : Value).ownBlock ∧ some k_ ≠ (.slice Ao72 t285.length co72 : Value).ownBlock) s_.2.2.1 t318) ∧ (Kd.R (Kd.int .i64) 2 w' w.heap.size (fun k_ => some k_ ≠ (s_.1 : Value).ownBlock ∧ some k_ ≠ (s_.2.1 : Value).ownBlock ∧ some k_ ≠ (s_.2.2.1 : Value).ownBlock ∧ some k_ ≠ (.slice Ao52 t302.length co52 : Value).ownBlock ∧ some k_ ≠ (.slice Ao62 t304.length co62 : Value).ownBlock ∧ some k_ ≠ (.slice Ao72 t285.length co72 : Value).ownBlock) (.slice Ao42 t269.length co42) t269) ∧ (Kd.R (Kd.int .i64) 2 w' w.heap.size (fun k_ => some k_ ≠ (s_.1 : Value).ownBlock ∧ some k_ ≠ (s_.2.1 : Value).ownBlock ∧ some k_ ≠ (s_.2.2.1 : Value).ownBlock ∧ some k_ ≠ (.slice Ao42 t269.length co42 : Value).ownBlock ∧ some k_ ≠ (.slice Ao62 t304.length co62 : Value).ownBlock ∧ some k_ ≠ (.slice Ao72 t285.length co72 : Value).ownBlock) (.slice Ao52 t302.length co52) t302) ∧ (Kd.R (Kd.int .i64) 2 w' w.heap.size (fun k_ => some k_ ≠ (s_.1 : Value).ownBlock ∧ some k_ ≠ (s_.2.1 : Value).ownBlock ∧ some k_ ≠ (s_.2.2.1 : Value).ownBlock ∧ some k_ ≠ (.slice Ao42 t269.length co42 : Value).ownBlock ∧ some k_ ≠ (.slice Ao52 t302.length co52 : Value).ownBlock ∧ some k_ ≠ (.slice Ao72 t285.length co72 : Value).ownBlock) (.slice Ao62 t304.length co62) t304) ∧ (Kd.R (Kd.int .i64) 2 w' w.heap.size (fun k_ => some k_ ≠ (s_.1 : Value).ownBlock ∧ some k_ ≠ (s_.2.1 : Value).ownBlock ∧ some k_ ≠ (s_.2.2.1 : Value).ownBlock ∧ some k_ ≠ (.slice Ao42 t269.length co42 : Value).ownBlock ∧ some k_ ≠ (.slice Ao52 t302.length co52 : Value).ownBlock ∧ some k_ ≠ (.slice Ao62 t304.length co62 : Value).ownBlock) (.slice Ao72 t285.length co72) t307) ∧ (w'.heap[gb256]? = some (.cells #[.int .i64 a0_0, .slice A0_1 l0_1.length c0_1] 24 (0, 0))) ∧ (w'.heap[gb257]? = some (.cells #[.int .i64 a1_0, .slice A1_1 l1_1.length c1_1] 24 (0, 0))) ∧ (w'.heap[gb273]? = some (.cells #[.int .i64 t268, .slice Ao42 t269.length co42] 28 (0, 0))) ∧ (w'.heap[gb278]? = some (.cells #[.int .i64 t274, .slice Ao52 t302.length co52] 28 (0, 0))) ∧ (w'.heap[gb283]? = some (.cells #[.int .i64 t279, .slice Ao62 t304.length co62] 28 (0, 0))) ∧ (w'.heap[gb289]? = some (.cells #[.int .i64 t284, .slice Ao72 t285.length co72] 28 (0, 0))) ∧ (w'.heap[s_.2.2.2]? = some (.cells #[.int .i64 0, .slice none 0 0] 28 (0, 0))) ∧ (w.heap.size ≤ s_.2.2.2) ∧ (w.heap.size ≤ s_.2.2.2) ∧ (gb256 ≠ s_.2.2.2) ∧ (s_.2.2.2 ≠ gb256) ∧ (gb257 ≠ s_.2.2.2) ∧ (s_.2.2.2 ≠ gb257) ∧ (gb273 ≠ s_.2.2.2) ∧ (s_.2.2.2 ≠ gb273) ∧ (gb278 ≠ s_.2.2.2) ∧ (s_.2.2.2 ≠ gb278) ∧ (gb283 ≠ s_.2.2.2) ∧ (s_.2.2.2 ≠ gb283) ∧ (gb289 ≠ s_.2.2.2) ∧ (s_.2.2.2 ≠ gb289) ∧ (Below w.heap.size w w')) ?_ ?_
             rotate_left
             ·intro hCont
              refine two_ (i := 1) (j := 8) (Ni := some 96) (Nj := some 15) #[true, true, true, false, false, false, false, false, false, false, false] #[true, false, true, false, false, false, false, false, true, false, false] rfl rfl rfl rfl (two_of HT_.out (by kernel_rfl)) (by decide) (by decide) (fun K hK => ?_) (fun K hK => ?_)
              ·skip
               refine goes_ Tryd.func20 (by kernel_rfl) rfl #[.agg #[.int .i64 a0_0, .slice A0_1 l0_1.length c0_1]] (by rfl) rfl rfl ma_ ?_
               with_reducible refine (laws_toWhole.calls kj107 a0_0 _ _ l0_1 t309 t310 _ ?side1 ?side2 A171.out).mono ?_
               (case side1 => repeat (first | exact (Kd.C_below HR0_1.out HB.out) | (with_reducible refine Kd.C_alloc ?_ _) | (with_reducible refine Kd.C_drewN ?_ _) | (with_reducible refine Kd.C_drew ?_)))
               (case side2 => exact HC0_1.out)
               rintro e w185 ⟨v311, rfl, ho0, hb⟩
               refine ⟨_, rfl, ?_⟩
               have n0_ := am_ (Kd.R_elder' (kr_ HO_274001) (Kd.R_base ho0) hb); have n1_ := am_ (Kd.R_elder' (kr_ HO_279001) (Kd.R_base ho0) hb); have n2_ := am_ (Kd.R_elder' (kr_ HO_284001) (Kd.R_base ho0) hb); have n3_ := am_ (Kd.R_elder' (kr_ HO_290001) (Kd.R_base ho0) hb); have n4_ := am_ (Kd.R_lower (Kd.R_new' (Kd.R_new' (Kd.R_new' (Kd.R_new' ho0 (Kd.R_lt (kr_ HO_274001))) (Kd.R_lt (kr_ HO_279001))) (Kd.R_lt (kr_ HO_284001))) (Kd.R_lt (kr_ HO_290001))) (below_size (bl_ HB))); have n5_ := am_ (blk_below (bk_ BK256) hb); have n6_ := am_ (blk_below (bk_ BK257) hb); have n7_ := am_ (blk_below (bk_ BK273) hb); have n8_ := am_ (blk_below (bk_ BK278) hb); have n9_ := am_ (blk_below (bk_ BK283) hb); have n10_ := am_ (blk_below (bk_ BK289) hb); have n11_ := am_ (below_step (bl_ HB) hb); clear HO_274001 HO_279001 HO_284001 HO_290001 BK256 BK257 BK273 BK278 BK283 BK289 HB; have HO_274001 := n0_; have HO_279001 := n1_; have HO_284001 := n2_; have HO_290001 := n3_; have HO312 := n4_; have BK256 := n5_; have BK257 := n6_; have BK273 := n7_; have BK278 := n8_; have BK283 := n9_; have BK289 := n10_; have HB := n11_; clear n0_ n1_ n2_ n3_ n4_ n5_ n6_ n7_ n8_ n9_ n10_ n11_; (try clear hb); (try clear hb2); (try clear hk); (try clear hi); (try clear ho0)
               refine hK.out _ _ ⟨(blk_cell BK256.out 0).trans rfl, (blk_cell BK256.out 1).trans rfl, (blk_cell BK257.out 0).trans rfl, (blk_cell BK257.out 1).trans rfl⟩ (fun hHeld => ?_)
               clear hK K
               refine norm_ (a' := ?_) ?_ ?_
               rotate_left
               ·show Act.put _ (some 96) _ = _
                exact nm_
               refine two_ (i := 3) (j := 8) (Ni := some 98) (Nj := some 15) #[true, true, true, true, false, false, false, false, false, false, false] #[true, true, true, false, false, false, false, false, true, false, false] rfl rfl rfl rfl (two_of HT_.out (by kernel_rfl)) (by decide) (by decide) (fun K hK => ?_) (fun K hK => ?_)
               ·skip
                refine goes_ Tryd.func20 (by kernel_rfl) rfl #[.agg #[.int .i64 a1_0, .slice A1_1 l1_1.length c1_1]] (by rfl) rfl rfl ma_ ?_
                with_reducible refine (laws_toWhole.calls kj107 a1_0 _ _ l1_1 t313 t314 _ ?side1 ?side2 A172.out).mono ?_
                (case side1 => repeat (first | exact (Kd.C_below HR1_1.out HB.out) | (with_reducible refine Kd.C_alloc ?_ _) | (with_reducible refine Kd.C_drewN ?_ _) | (with_reducible refine Kd.C_drew ?_)))
                (case side2 => exact HC1_1.out)
                rintro e w186 ⟨v315, rfl, ho0, hb⟩
                refine ⟨_, rfl, ?_⟩
                have n0_ := am_ (Kd.R_elder' (kr_ HO_274001) (Kd.R_base ho0) hb); have n1_ := am_ (Kd.R_elder' (kr_ HO_279001) (Kd.R_base ho0) hb); have n2_ := am_ (Kd.R_elder' (kr_ HO_284001) (Kd.R_base ho0) hb); have n3_ := am_ (Kd.R_elder' (kr_ HO_290001) (Kd.R_base ho0) hb); have n4_ := am_ (Kd.R_elder' (kr_ HO312) (Kd.R_base ho0) hb); have n5_ := am_ (Kd.R_lower (Kd.R_new' (Kd.R_new' (Kd.R_new' (Kd.R_new' (Kd.R_new' ho0 (Kd.R_lt (kr_ HO_274001))) (Kd.R_lt (kr_ HO_279001))) (Kd.R_lt (kr_ HO_284001))) (Kd.R_lt (kr_ HO_290001))) (Kd.R_lt (kr_ HO312))) (below_size (bl_ HB))); have n6_ := am_ (blk_below (bk_ BK256) hb); have n7_ := am_ (blk_below (bk_ BK257) hb); have n8_ := am_ (blk_below (bk_ BK273) hb); have n9_ := am_ (blk_below (bk_ BK278) hb); have n10_ := am_ (blk_below (bk_ BK283) hb); have n11_ := am_ (blk_below (bk_ BK289) hb); have n12_ := am_ (below_step (bl_ HB) hb); clear HO_274001 HO_279001 HO_284001 HO_290001 HO312 BK256 BK257 BK273 BK278 BK283 BK289 HB; have HO_274001 := n0_; have HO_279001 := n1_; have HO_284001 := n2_; have HO_290001 := n3_; have HO312 := n4_; have HO316 := n5_; have BK256 := n6_; have BK257 := n7_; have BK273 := n8_; have BK278 := n9_; have BK283 := n10_; have BK289 := n11_; have HB := n12_; clear n0_ n1_ n2_ n3_ n4_ n5_ n6_ n7_ n8_ n9_ n10_ n11_ n12_; (try clear hb); (try clear hb2); (try clear hk); (try clear hi); (try clear ho0)
                obtain ⟨Ao187, co187, eo187⟩ := Kd.R_slice HO312.out
                (first | subst eo187 | (injection eo187 with f1_ f2_ f3_; have f4_ := f1_.symm; have f5_ := f3_.symm; clear f1_ f2_ f3_; subst f4_; subst f5_))
                obtain ⟨Ao188, co188, eo188⟩ := Kd.R_slice HO316.out
                (first | subst eo188 | (injection eo188 with f1_ f2_ f3_; have f4_ := f1_.symm; have f5_ := f3_.symm; clear f1_ f2_ f3_; subst f4_; subst f5_))
                refine hK.out _ _ ⟨(blk_cell BK256.out 0).trans rfl, (blk_cell BK256.out 1).trans rfl, (blk_cell BK257.out 0).trans rfl, (blk_cell BK257.out 1).trans rfl⟩ (fun hHeld => ?_)
                clear hK K
                refine norm_ (a' := ?_) ?_ ?_
                rotate_left
                ·show Act.put _ (some 98) _ = _
                 exact nm_
                refine two_ (i := 4) (j := 8) (Ni := some 99) (Nj := some 15) #[true, true, true, true, true, false, false, false, false, false, false] #[true, true, true, true, false, false, false, false, true, false, false] rfl rfl rfl rfl (two_of HT_.out (by kernel_rfl)) (by decide) (by decide) (fun K hK => ?_) (fun K hK => ?_)
                ·skip
                 refine goes_ Tryd.func38 (by kernel_rfl) rfl #[.agg #[.int .i64 t309, .slice Ao187 t310.length co187], .agg #[.int .i64 t313, .slice Ao188 t314.length co188]] (by rfl) rfl rfl ma_ ?_
                 with_reducible refine (impl_SubtractWholes.calls t309 _ _ t310 t313 _ _ t314 t317 t318 t321 _ ?side1 ?side2 ?side3 ?side4 A173.out).mono ?_
                 (case side1 => repeat (first | exact (Kd.R_reads' HO312.out).2.2 | (with_reducible refine Kd.C_alloc ?_ _) | (with_reducible refine Kd.C_drewN ?_ _) | (with_reducible refine Kd.C_drew ?_)))
                 (case side2 => exact (Kd.R_reads' HO312.out).2.1)
                 (case side3 => repeat (first | exact (Kd.R_reads' HO316.out).2.2 | (with_reducible refine Kd.C_alloc ?_ _) | (with_reducible refine Kd.C_drewN ?_ _) | (with_reducible refine Kd.C_drew ?_)))
                 (case side4 => exact (Kd.R_reads' HO316.out).2.1)
                 rintro e w189 ⟨v319, rfl, ho0, hb⟩
                 refine ⟨_, rfl, ?_⟩
                 have n0_ := am_ (Kd.R_elder' (kr_ HO_274001) (Kd.R_base ho0) hb); have n1_ := am_ (Kd.R_elder' (kr_ HO_279001) (Kd.R_base ho0) hb); have n2_ := am_ (Kd.R_elder' (kr_ HO_284001) (Kd.R_base ho0) hb); have n3_ := am_ (Kd.R_elder' (kr_ HO_290001) (Kd.R_base ho0) hb); have n4_ := am_ (Kd.R_elder' (kr_ HO312) (Kd.R_base ho0) hb); have n5_ := am_ (Kd.R_elder' (kr_ HO316) (Kd.R_base ho0) hb); have n6_ := am_ (Kd.R_lower (Kd.R_new' (Kd.R_new' (Kd.R_new' (Kd.R_new' (Kd.R_new' (Kd.R_new' ho0 (Kd.R_lt (kr_ HO_274001))) (Kd.R_lt (kr_ HO_279001))) (Kd.R_lt (kr_ HO_284001))) (Kd.R_lt (kr_ HO_290001))) (Kd.R_lt (kr_ HO312))) (Kd.R_lt (kr_ HO316))) (below_size (bl_ HB))); have n7_ := am_ (blk_below (bk_ BK256) hb); have n8_ := am_ (blk_below (bk_ BK257) hb); have n9_ := am_ (blk_below (bk_ BK273) hb); have n10_ := am_ (blk_below (bk_ BK278) hb); have n11_ := am_ (blk_below (bk_ BK283) hb); have n12_ := am_ (blk_below (bk_ BK289) hb); have n13_ := am_ (below_step (bl_ HB) hb); clear HO_274001 HO_279001 HO_284001 HO_290001 HO312 HO316 BK256 BK257 BK273 BK278 BK283 BK289 HB; have HO_274001 := n0_; have HO_279001 := n1_; have HO_284001 := n2_; have HO_290001 := n3_; have HO312 := n4_; have HO316 := n5_; have HO320 := n6_; have BK256 := n7_; have BK257 := n8_; have BK273 := n9_; have BK278 := n10_; have BK283 := n11_; have BK289 := n12_; have HB := n13_; clear n0_ n1_ n2_ n3_ n4_ n5_ n6_ n7_ n8_ n9_ n10_ n11_ n12_ n13_; (try clear hb); (try clear hb2); (try clear hk); (try clear hi); (try clear ho0)
                 refine hK.out _ _ ⟨(blk_cell BK256.out 0).trans rfl, (blk_cell BK256.out 1).trans rfl, (blk_cell BK257.out 0).trans rfl, (blk_cell BK257.out 1).trans rfl⟩ (fun hHeld => ?_)
                 clear hK K
                 refine norm_ (a' := ?_) ?_ ?_
                 rotate_left
                 ·show Act.put _ (some 99) _ = _
                  exact nm_
                 refine pure_ (i := 5) (N := some 94) (v := ?_) (a' := ?_) #[true, true, true, true, true, true, false, false, false, false, false] rfl rfl (any_of HT_.out (by kernel_rfl)) (fun _ _ _ h => h) (Or.inl ⟨by rfl, ?_⟩) ?_ ?_
                 rotate_left
                 ·intro w'
                  go_simp
                  with_reducible rfl
                 rotate_left
                 ·exact nm_
                 refine pure_ (i := 6) (N := some 100) (v := ?_) (a' := ?_) #[true, true, true, true, true, true, true, false, false, false, false] rfl rfl (any_of HT_.out (by kernel_rfl)) (fun _ _ _ h => h) (Or.inl ⟨by rfl, ?_⟩) ?_ ?_
                 rotate_left
                 ·intro w'
                  go_simp
                  with_reducible rfl
                 rotate_left
                 ·exact nm_
                 refine pure_ (i := 7) (N := some 101) (v := ?_) (a' := ?_) #[true, true, true, true, true, true, true, true, false, false, false] rfl rfl (any_of HT_.out (by kernel_rfl)) (fun _ _ _ h => h) (Or.inl ⟨by rfl, ?_⟩) ?_ ?_
                 rotate_left
                 ·intro w'
                  go_simp
                  with_reducible rfl
                 rotate_left
                 ·exact nm_
                 refine one_ (i := 8) (N := some 15) #[true, true, true, true, true, true, true, true, true, false, false] rfl rfl (one_of HT_.out (by kernel_rfl)) (by decide) (fun K hK => ?_)
                 refine box_step ?hg (N := 15) ?hd (cs := #[.int .i64 0, .slice none 0 0]) (t := 28) ?hr ?_; (case hd => rfl); (case hg => rfl); (case hr => first | (go_simp; done) | (go_simp; rfl))
                 intro gb322 hg w190 hbox hb
                 have n0_ := am_ (Kd.R_below (kr_ HO_274001) hb); have n1_ := am_ (Kd.R_below (kr_ HO_279001) hb); have n2_ := am_ (Kd.R_below (kr_ HO_284001) hb); have n3_ := am_ (Kd.R_below (kr_ HO_290001) hb); have n4_ := am_ (Kd.R_below (kr_ HO312) hb); have n5_ := am_ (Kd.R_below (kr_ HO316) hb); have n6_ := am_ (Kd.R_below (kr_ HO320) hb); have n7_ := am_ (blk_below (bk_ BK256) hb); have n8_ := am_ (blk_below (bk_ BK257) hb); have n9_ := am_ (blk_below (bk_ BK273) hb); have n10_ := am_ (blk_below (bk_ BK278) hb); have n11_ := am_ (blk_below (bk_ BK283) hb); have n12_ := am_ (blk_below (bk_ BK289) hb); have n13_ := am_ (below_step (bl_ HB) hb); have n14_ := am_ (hbox); have n15_ := am_ (gs_ hg HB); have n16_ := am_ (gs_ hg HB); have n17_ := am_ (nl_ hg BK256); have n18_ := am_ (ng_ hg BK256); have n19_ := am_ (nl_ hg BK257); have n20_ := am_ (ng_ hg BK257); have n21_ := am_ (nl_ hg BK273); have n22_ := am_ (ng_ hg BK273); have n23_ := am_ (nl_ hg BK278); have n24_ := am_ (ng_ hg BK278); have n25_ := am_ (nl_ hg BK283); have n26_ := am_ (ng_ hg BK283); have n27_ := am_ (nl_ hg BK289); have n28_ := am_ (ng_ hg BK289); clear HO_274001 HO_279001 HO_284001 HO_290001 HO312 HO316 HO320 BK256 BK257 BK273 BK278 BK283 BK289 HB; have HO_274001 := n0_; have HO_279001 := n1_; have HO_284001 := n2_; have HO_290001 := n3_; have HO312 := n4_; have HO316 := n5_; have HO320 := n6_; have BK256 := n7_; have BK257 := n8_; have BK273 := n9_; have BK278 := n10_; have BK283 := n11_; have BK289 := n12_; have HB := n13_; have BK322 := n14_; have GW322 := n15_; have GE322 := n16_; have NB256_322 := n17_; have NB322_256 := n18_; have NB257_322 := n19_; have NB322_257 := n20_; have NB273_322 := n21_; have NB322_273 := n22_; have NB278_322 := n23_; have NB322_278 := n24_; have NB283_322 := n25_; have NB322_283 := n26_; have NB289_322 := n27_; have NB322_289 := n28_; clear n0_ n1_ n2_ n3_ n4_ n5_ n6_ n7_ n8_ n9_ n10_ n11_ n12_ n13_ n14_ n15_ n16_ n17_ n18_ n19_ n20_ n21_ n22_ n23_ n24_ n25_ n26_ n27_ n28_ hb hbox hg
                 refine hK.out _ _ ⟨(blk_cell BK256.out 0).trans rfl, (blk_cell BK256.out 1).trans rfl, (blk_cell BK257.out 0).trans rfl, (blk_cell BK257.out 1).trans rfl⟩ (fun hHeld => ?_)
                 clear hK K
                 refine norm_ (a' := ?_) ?_ ?_
                 rotate_left
                 ·show Act.put _ (some 15) _ = _
                  exact nm_
                 exact norm_ (by simp only [putAll, Act.put, List.setIfInBounds_toArray, List.set_cons_zero, List.set_cons_succ]) (hCont (.slice Ao187 t310.length co187, .slice Ao188 t314.length co188, v319, gb322) _ ⟨hHeld, (km_ HO312 (fun _ hk => ⟨hk.1.2, ⟨hk.2, ⟨hk.1.1.1.1.1.2, ⟨hk.1.1.1.1.2, ⟨hk.1.1.1.2, hk.1.1.2⟩⟩⟩⟩⟩)), (km_ HO316 (fun _ hk => ⟨hk.1.2, ⟨hk.2, ⟨hk.1.1.1.1.1.2, ⟨hk.1.1.1.1.2, ⟨hk.1.1.1.2, hk.1.1.2⟩⟩⟩⟩⟩)), (km_ HO320 (fun _ hk => ⟨hk.1.2, ⟨hk.2, ⟨hk.1.1.1.1.1.2, ⟨hk.1.1.1.1.2, ⟨hk.1.1.1.2, hk.1.1.2⟩⟩⟩⟩⟩)), (km_ HO_274001 (fun _ hk => ⟨hk.1.1.2, ⟨hk.1.2, ⟨hk.2, ⟨hk.1.1.1.1, ⟨hk.1.1.1.2.1, hk.1.1.1.2.2⟩⟩⟩⟩⟩)), (km_ HO_279001 (fun _ hk => ⟨hk.1.1.2, ⟨hk.1.2, ⟨hk.2, ⟨hk.1.1.1.1, ⟨hk.1.1.1.2.1, hk.1.1.1.2.2⟩⟩⟩⟩⟩)), (km_ HO_284001 (fun _ hk => ⟨hk.1.1.2, ⟨hk.1.2, ⟨hk.2, ⟨hk.1.1.1.1, ⟨hk.1.1.1.2.1, hk.1.1.1.2.2⟩⟩⟩⟩⟩)), (km_ HO_290001 (fun _ hk => ⟨hk.1.1.2, ⟨hk.1.2, ⟨hk.2, ⟨hk.1.1.1.1, ⟨hk.1.1.1.2.1, hk.1.1.1.2.2⟩⟩⟩⟩⟩)), (bk_ BK256), (bk_ BK257), (bk_ BK273), (bk_ BK278), (bk_ BK283), (bk_ BK289), (bk_ BK322), GW322.out, GE322.out, NB256_322.out, NB322_256.out, NB257_322.out, NB322_257.out, NB273_322.out, NB322_273.out, NB278_322.out, NB322_278.out, NB283_322.out, NB322_283.out, NB289_322.out, NB322_289.out, (bl_ HB)⟩)
                ·skip
                 refine box_step ?hg (N := 15) ?hd (cs := #[.int .i64 0, .slice none 0 0]) (t := 28) ?hr ?_; (case hd => rfl); (case hg => rfl); (case hr => first | (go_simp; done) | (go_simp; rfl))
                 intro gb322 hg w187 hbox hb
                 have n0_ := am_ (Kd.R_below (kr_ HO_274001) hb); have n1_ := am_ (Kd.R_below (kr_ HO_279001) hb); have n2_ := am_ (Kd.R_below (kr_ HO_284001) hb); have n3_ := am_ (Kd.R_below (kr_ HO_290001) hb); have n4_ := am_ (Kd.R_below (kr_ HO312) hb); have n5_ := am_ (Kd.R_below (kr_ HO316) hb); have n6_ := am_ (blk_below (bk_ BK256) hb); have n7_ := am_ (blk_below (bk_ BK257) hb); have n8_ := am_ (blk_below (bk_ BK273) hb); have n9_ := am_ (blk_below (bk_ BK278) hb); have n10_ := am_ (blk_below (bk_ BK283) hb); have n11_ := am_ (blk_below (bk_ BK289) hb); have n12_ := am_ (below_step (bl_ HB) hb); have n13_ := am_ (hbox); have n14_ := am_ (gs_ hg HB); have n15_ := am_ (gs_ hg HB); have n16_ := am_ (nl_ hg BK256); have n17_ := am_ (ng_ hg BK256); have n18_ := am_ (nl_ hg BK257); have n19_ := am_ (ng_ hg BK257); have n20_ := am_ (nl_ hg BK273); have n21_ := am_ (ng_ hg BK273); have n22_ := am_ (nl_ hg BK278); have n23_ := am_ (ng_ hg BK278); have n24_ := am_ (nl_ hg BK283); have n25_ := am_ (ng_ hg BK283); have n26_ := am_ (nl_ hg BK289); have n27_ := am_ (ng_ hg BK289); clear HO_274001 HO_279001 HO_284001 HO_290001 HO312 HO316 BK256 BK257 BK273 BK278 BK283 BK289 HB; have HO_274001 := n0_; have HO_279001 := n1_; have HO_284001 := n2_; have HO_290001 := n3_; have HO312 := n4_; have HO316 := n5_; have BK256 := n6_; have BK257 := n7_; have BK273 := n8_; have BK278 := n9_; have BK283 := n10_; have BK289 := n11_; have HB := n12_; have BK322 := n13_; have GW322 := n14_; have GE322 := n15_; have NB256_322 := n16_; have NB322_256 := n17_; have NB257_322 := n18_; have NB322_257 := n19_; have NB273_322 := n20_; have NB322_273 := n21_; have NB278_322 := n22_; have NB322_278 := n23_; have NB283_322 := n24_; have NB322_283 := n25_; have NB289_322 := n26_; have NB322_289 := n27_; clear n0_ n1_ n2_ n3_ n4_ n5_ n6_ n7_ n8_ n9_ n10_ n11_ n12_ n13_ n14_ n15_ n16_ n17_ n18_ n19_ n20_ n21_ n22_ n23_ n24_ n25_ n26_ n27_ hb hbox hg
                 obtain ⟨Ao188, co188, eo188⟩ := Kd.R_slice HO312.out
                 (first | subst eo188 | (injection eo188 with f1_ f2_ f3_; have f4_ := f1_.symm; have f5_ := f3_.symm; clear f1_ f2_ f3_; subst f4_; subst f5_))
                 obtain ⟨Ao189, co189, eo189⟩ := Kd.R_slice HO316.out
                 (first | subst eo189 | (injection eo189 with f1_ f2_ f3_; have f4_ := f1_.symm; have f5_ := f3_.symm; clear f1_ f2_ f3_; subst f4_; subst f5_))
                 refine hK.out _ _ ⟨(blk_cell BK256.out 0).trans rfl, (blk_cell BK256.out 1).trans rfl, (blk_cell BK257.out 0).trans rfl, (blk_cell BK257.out 1).trans rfl⟩ (fun hHeld => ?_)
                 clear hK K
                 refine norm_ (a' := ?_) ?_ ?_
                 rotate_left
                 ·show Act.put _ (some 15) _ = _
                  exact nm_
                 refine one_ (i := 4) (N := some 99) #[true, true, true, true, true, false, false, false, true, false, false] rfl rfl (one_of HT_.out (by kernel_rfl)) (by decide) (fun K hK => ?_)
                 refine goes_ Tryd.func38 (by kernel_rfl) rfl #[.agg #[.int .i64 t309, .slice Ao188 t310.length co188], .agg #[.int .i64 t313, .slice Ao189 t314.length co189]] (by rfl) rfl rfl ma_ ?_
                 with_reducible refine (impl_SubtractWholes.calls t309 _ _ t310 t313 _ _ t314 t317 t318 t321 _ ?side1 ?side2 ?side3 ?side4 A173.out).mono ?_
                 (case side1 => repeat (first | exact (Kd.R_reads' HO312.out).2.2 | (with_reducible refine Kd.C_alloc ?_ _) | (with_reducible refine Kd.C_drewN ?_ _) | (with_reducible refine Kd.C_drew ?_)))
                 (case side2 => exact (Kd.R_reads' HO312.out).2.1)
                 (case side3 => repeat (first | exact (Kd.R_reads' HO316.out).2.2 | (with_reducible refine Kd.C_alloc ?_ _) | (with_reducible refine Kd.C_drewN ?_ _) | (with_reducible refine Kd.C_drew ?_)))
                 (case side4 => exact (Kd.R_reads' HO316.out).2.1)
                 rintro e w190 ⟨v319, rfl, ho0, hb⟩
                 refine ⟨_, rfl, ?_⟩
                 have n0_ := am_ (Kd.R_elder' (kr_ HO_274001) (Kd.R_base ho0) hb); have n1_ := am_ (Kd.R_elder' (kr_ HO_279001) (Kd.R_base ho0) hb); have n2_ := am_ (Kd.R_elder' (kr_ HO_284001) (Kd.R_base ho0) hb); have n3_ := am_ (Kd.R_elder' (kr_ HO_290001) (Kd.R_base ho0) hb); have n4_ := am_ (Kd.R_elder' (kr_ HO312) (Kd.R_base ho0) hb); have n5_ := am_ (Kd.R_elder' (kr_ HO316) (Kd.R_base ho0) hb); have n6_ := am_ (Kd.R_lower (Kd.R_new' (Kd.R_new' (Kd.R_new' (Kd.R_new' (Kd.R_new' (Kd.R_new' ho0 (Kd.R_lt (kr_ HO_274001))) (Kd.R_lt (kr_ HO_279001))) (Kd.R_lt (kr_ HO_284001))) (Kd.R_lt (kr_ HO_290001))) (Kd.R_lt (kr_ HO312))) (Kd.R_lt (kr_ HO316))) (below_size (bl_ HB))); have n7_ := am_ (blk_below (bk_ BK256) hb); have n8_ := am_ (blk_below (bk_ BK257) hb); have n9_ := am_ (blk_below (bk_ BK273) hb); have n10_ := am_ (blk_below (bk_ BK278) hb); have n11_ := am_ (blk_below (bk_ BK283) hb); have n12_ := am_ (blk_below (bk_ BK289) hb); have n13_ := am_ (blk_below (bk_ BK322) hb); have n14_ := am_ (below_step (bl_ HB) hb); clear HO_274001 HO_279001 HO_284001 HO_290001 HO312 HO316 BK256 BK257 BK273 BK278 BK283 BK289 BK322 HB; have HO_274001 := n0_; have HO_279001 := n1_; have HO_284001 := n2_; have HO_290001 := n3_; have HO312 := n4_; have HO316 := n5_; have HO320 := n6_; have BK256 := n7_; have BK257 := n8_; have BK273 := n9_; have BK278 := n10_; have BK283 := n11_; have BK289 := n12_; have BK322 := n13_; have HB := n14_; clear n0_ n1_ n2_ n3_ n4_ n5_ n6_ n7_ n8_ n9_ n10_ n11_ n12_ n13_ n14_; (try clear hb); (try clear hb2); (try clear hk); (try clear hi); (try clear ho0)
                 refine hK.out _ _ ⟨(blk_cell BK256.out 0).trans rfl, (blk_cell BK256.out 1).trans rfl, (blk_cell BK257.out 0).trans rfl, (blk_cell BK257.out 1).trans rfl⟩ (fun hHeld => ?_)
                 clear hK K
                 refine norm_ (a' := ?_) ?_ ?_
                 rotate_left
                 ·show Act.put _ (some 99) _ = _
                  exact nm_
                 refine pure_ (i := 5) (N := some 94) (v := ?_) (a' := ?_) #[true, true, true, true, true, true, false, false, true, false, false] rfl rfl (any_of HT_.out (by kernel_rfl)) (fun _ _ _ h => h) (Or.inl ⟨by rfl, ?_⟩) ?_ ?_
                 rotate_left
                 ·intro w'
                  go_simp
                  with_reducible rfl
                 rotate_left
                 ·exact nm_
                 refine pure_ (i := 6) (N := some 100) (v := ?_) (a' := ?_) #[true, true, true, true, true, true, true, false, true, false, false] rfl rfl (any_of HT_.out (by kernel_rfl)) (fun _ _ _ h => h) (Or.inl ⟨by rfl, ?_⟩) ?_ ?_
                 rotate_left
                 ·intro w'
                  go_simp
                  with_reducible rfl
                 rotate_left
                 ·exact nm_
                 refine pure_ (i := 7) (N := some 101) (v := ?_) (a' := ?_) #[true, true, true, true, true, true, true, true, true, false, false] rfl rfl (any_of HT_.out (by kernel_rfl)) (fun _ _ _ h => h) (Or.inl ⟨by rfl, ?_⟩) ?_ ?_
                 rotate_left
                 ·intro w'
                  go_simp
                  with_reducible rfl
                 rotate_left
                 ·exact nm_
                 exact norm_ (by simp only [putAll, Act.put, List.setIfInBounds_toArray, List.set_cons_zero, List.set_cons_succ]) (hCont (.slice Ao188 t310.length co188, .slice Ao189 t314.length co189, v319, gb322) _ ⟨hHeld, (km_ HO312 (fun _ hk => ⟨hk.1.2, ⟨hk.2, ⟨hk.1.1.1.1.1.2, ⟨hk.1.1.1.1.2, ⟨hk.1.1.1.2, hk.1.1.2⟩⟩⟩⟩⟩)), (km_ HO316 (fun _ hk => ⟨hk.1.2, ⟨hk.2, ⟨hk.1.1.1.1.1.2, ⟨hk.1.1.1.1.2, ⟨hk.1.1.1.2, hk.1.1.2⟩⟩⟩⟩⟩)), (km_ HO320 (fun _ hk => ⟨hk.1.2, ⟨hk.2, ⟨hk.1.1.1.1.1.2, ⟨hk.1.1.1.1.2, ⟨hk.1.1.1.2, hk.1.1.2⟩⟩⟩⟩⟩)), (km_ HO_274001 (fun _ hk => ⟨hk.1.1.2, ⟨hk.1.2, ⟨hk.2, ⟨hk.1.1.1.1, ⟨hk.1.1.1.2.1, hk.1.1.1.2.2⟩⟩⟩⟩⟩)), (km_ HO_279001 (fun _ hk => ⟨hk.1.1.2, ⟨hk.1.2, ⟨hk.2, ⟨hk.1.1.1.1, ⟨hk.1.1.1.2.1, hk.1.1.1.2.2⟩⟩⟩⟩⟩)), (km_ HO_284001 (fun _ hk => ⟨hk.1.1.2, ⟨hk.1.2, ⟨hk.2, ⟨hk.1.1.1.1, ⟨hk.1.1.1.2.1, hk.1.1.1.2.2⟩⟩⟩⟩⟩)), (km_ HO_290001 (fun _ hk => ⟨hk.1.1.2, ⟨hk.1.2, ⟨hk.2, ⟨hk.1.1.1.1, ⟨hk.1.1.1.2.1, hk.1.1.1.2.2⟩⟩⟩⟩⟩)), (bk_ BK256), (bk_ BK257), (bk_ BK273), (bk_ BK278), (bk_ BK283), (bk_ BK289), (bk_ BK322), GW322.out, GE322.out, NB256_322.out, NB322_256.out, NB257_322.out, NB322_257.out, NB273_322.out, NB322_273.out, NB278_322.out, NB322_278.out, NB283_322.out, NB322_283.out, NB289_322.out, NB322_289.out, (bl_ HB)⟩)
               ·skip
                refine box_step ?hg (N := 15) ?hd (cs := #[.int .i64 0, .slice none 0 0]) (t := 28) ?hr ?_; (case hd => rfl); (case hg => rfl); (case hr => first | (go_simp; done) | (go_simp; rfl))
                intro gb322 hg w186 hbox hb
                have n0_ := am_ (Kd.R_below (kr_ HO_274001) hb); have n1_ := am_ (Kd.R_below (kr_ HO_279001) hb); have n2_ := am_ (Kd.R_below (kr_ HO_284001) hb); have n3_ := am_ (Kd.R_below (kr_ HO_290001) hb); have n4_ := am_ (Kd.R_below (kr_ HO312) hb); have n5_ := am_ (blk_below (bk_ BK256) hb); have n6_ := am_ (blk_below (bk_ BK257) hb); have n7_ := am_ (blk_below (bk_ BK273) hb); have n8_ := am_ (blk_below (bk_ BK278) hb); have n9_ := am_ (blk_below (bk_ BK283) hb); have n10_ := am_ (blk_below (bk_ BK289) hb); have n11_ := am_ (below_step (bl_ HB) hb); have n12_ := am_ (hbox); have n13_ := am_ (gs_ hg HB); have n14_ := am_ (gs_ hg HB); have n15_ := am_ (nl_ hg BK256); have n16_ := am_ (ng_ hg BK256); have n17_ := am_ (nl_ hg BK257); have n18_ := am_ (ng_ hg BK257); have n19_ := am_ (nl_ hg BK273); have n20_ := am_ (ng_ hg BK273); have n21_ := am_ (nl_ hg BK278); have n22_ := am_ (ng_ hg BK278); have n23_ := am_ (nl_ hg BK283); have n24_ := am_ (ng_ hg BK283); have n25_ := am_ (nl_ hg BK289); have n26_ := am_ (ng_ hg BK289); clear HO_274001 HO_279001 HO_284001 HO_290001 HO312 BK256 BK257 BK273 BK278 BK283 BK289 HB; have HO_274001 := n0_; have HO_279001 := n1_; have HO_284001 := n2_; have HO_290001 := n3_; have HO312 := n4_; have BK256 := n5_; have BK257 := n6_; have BK273 := n7_; have BK278 := n8_; have BK283 := n9_; have BK289 := n10_; have HB := n11_; have BK322 := n12_; have GW322 := n13_; have GE322 := n14_; have NB256_322 := n15_; have NB322_256 := n16_; have NB257_322 := n17_; have NB322_257 := n18_; have NB273_322 := n19_; have NB322_273 := n20_; have NB278_322 := n21_; have NB322_278 := n22_; have NB283_322 := n23_; have NB322_283 := n24_; have NB289_322 := n25_; have NB322_289 := n26_; clear n0_ n1_ n2_ n3_ n4_ n5_ n6_ n7_ n8_ n9_ n10_ n11_ n12_ n13_ n14_ n15_ n16_ n17_ n18_ n19_ n20_ n21_ n22_ n23_ n24_ n25_ n26_ hb hbox hg
                refine hK.out _ _ ⟨(blk_cell BK256.out 0).trans rfl, (blk_cell BK256.out 1).trans rfl, (blk_cell BK257.out 0).trans rfl, (blk_cell BK257.out 1).trans rfl⟩ (fun hHeld => ?_)
                clear hK K
                refine norm_ (a' := ?_) ?_ ?_
                rotate_left
                ·show Act.put _ (some 15) _ = _
                 exact nm_
                refine one_ (i := 3) (N := some 98) #[true, true, true, true, false, false, false, false, true, false, false] rfl rfl (one_of HT_.out (by kernel_rfl)) (by decide) (fun K hK => ?_)
                refine goes_ Tryd.func20 (by kernel_rfl) rfl #[.agg #[.int .i64 a1_0, .slice A1_1 l1_1.length c1_1]] (by rfl) rfl rfl ma_ ?_
                with_reducible refine (laws_toWhole.calls kj107 a1_0 _ _ l1_1 t313 t314 _ ?side1 ?side2 A172.out).mono ?_
                (case side1 => repeat (first | exact (Kd.C_below HR1_1.out HB.out) | (with_reducible refine Kd.C_alloc ?_ _) | (with_reducible refine Kd.C_drewN ?_ _) | (with_reducible refine Kd.C_drew ?_)))
                (case side2 => exact HC1_1.out)
                rintro e w187 ⟨v315, rfl, ho0, hb⟩
                refine ⟨_, rfl, ?_⟩
                have n0_ := am_ (Kd.R_elder' (kr_ HO_274001) (Kd.R_base ho0) hb); have n1_ := am_ (Kd.R_elder' (kr_ HO_279001) (Kd.R_base ho0) hb); have n2_ := am_ (Kd.R_elder' (kr_ HO_284001) (Kd.R_base ho0) hb); have n3_ := am_ (Kd.R_elder' (kr_ HO_290001) (Kd.R_base ho0) hb); have n4_ := am_ (Kd.R_elder' (kr_ HO312) (Kd.R_base ho0) hb); have n5_ := am_ (Kd.R_lower (Kd.R_new' (Kd.R_new' (Kd.R_new' (Kd.R_new' (Kd.R_new' ho0 (Kd.R_lt (kr_ HO_274001))) (Kd.R_lt (kr_ HO_279001))) (Kd.R_lt (kr_ HO_284001))) (Kd.R_lt (kr_ HO_290001))) (Kd.R_lt (kr_ HO312))) (below_size (bl_ HB))); have n6_ := am_ (blk_below (bk_ BK256) hb); have n7_ := am_ (blk_below (bk_ BK257) hb); have n8_ := am_ (blk_below (bk_ BK273) hb); have n9_ := am_ (blk_below (bk_ BK278) hb); have n10_ := am_ (blk_below (bk_ BK283) hb); have n11_ := am_ (blk_below (bk_ BK289) hb); have n12_ := am_ (blk_below (bk_ BK322) hb); have n13_ := am_ (below_step (bl_ HB) hb); clear HO_274001 HO_279001 HO_284001 HO_290001 HO312 BK256 BK257 BK273 BK278 BK283 BK289 BK322 HB; have HO_274001 := n0_; have HO_279001 := n1_; have HO_284001 := n2_; have HO_290001 := n3_; have HO312 := n4_; have HO316 := n5_; have BK256 := n6_; have BK257 := n7_; have BK273 := n8_; have BK278 := n9_; have BK283 := n10_; have BK289 := n11_; have BK322 := n12_; have HB := n13_; clear n0_ n1_ n2_ n3_ n4_ n5_ n6_ n7_ n8_ n9_ n10_ n11_ n12_ n13_; (try clear hb); (try clear hb2); (try clear hk); (try clear hi); (try clear ho0)
                obtain ⟨Ao188, co188, eo188⟩ := Kd.R_slice HO312.out
                (first | subst eo188 | (injection eo188 with f1_ f2_ f3_; have f4_ := f1_.symm; have f5_ := f3_.symm; clear f1_ f2_ f3_; subst f4_; subst f5_))
                obtain ⟨Ao189, co189, eo189⟩ := Kd.R_slice HO316.out
                (first | subst eo189 | (injection eo189 with f1_ f2_ f3_; have f4_ := f1_.symm; have f5_ := f3_.symm; clear f1_ f2_ f3_; subst f4_; subst f5_))
                refine hK.out _ _ ⟨(blk_cell BK256.out 0).trans rfl, (blk_cell BK256.out 1).trans rfl, (blk_cell BK257.out 0).trans rfl, (blk_cell BK257.out 1).trans rfl⟩ (fun hHeld => ?_)
                clear hK K
                refine norm_ (a' := ?_) ?_ ?_
                rotate_left
                ·show Act.put _ (some 98) _ = _
                 exact nm_
                refine one_ (i := 4) (N := some 99) #[true, true, true, true, true, false, false, false, true, false, false] rfl rfl (one_of HT_.out (by kernel_rfl)) (by decide) (fun K hK => ?_)
                refine goes_ Tryd.func38 (by kernel_rfl) rfl #[.agg #[.int .i64 t309, .slice Ao188 t310.length co188], .agg #[.int .i64 t313, .slice Ao189 t314.length co189]] (by rfl) rfl rfl ma_ ?_
                with_reducible refine (impl_SubtractWholes.calls t309 _ _ t310 t313 _ _ t314 t317 t318 t321 _ ?side1 ?side2 ?side3 ?side4 A173.out).mono ?_
                (case side1 => repeat (first | exact (Kd.R_reads' HO312.out).2.2 | (with_reducible refine Kd.C_alloc ?_ _) | (with_reducible refine Kd.C_drewN ?_ _) | (with_reducible refine Kd.C_drew ?_)))
                (case side2 => exact (Kd.R_reads' HO312.out).2.1)
                (case side3 => repeat (first | exact (Kd.R_reads' HO316.out).2.2 | (with_reducible refine Kd.C_alloc ?_ _) | (with_reducible refine Kd.C_drewN ?_ _) | (with_reducible refine Kd.C_drew ?_)))
                (case side4 => exact (Kd.R_reads' HO316.out).2.1)
                rintro e w190 ⟨v319, rfl, ho0, hb⟩
                refine ⟨_, rfl, ?_⟩
                have n0_ := am_ (Kd.R_elder' (kr_ HO_274001) (Kd.R_base ho0) hb); have n1_ := am_ (Kd.R_elder' (kr_ HO_279001) (Kd.R_base ho0) hb); have n2_ := am_ (Kd.R_elder' (kr_ HO_284001) (Kd.R_base ho0) hb); have n3_ := am_ (Kd.R_elder' (kr_ HO_290001) (Kd.R_base ho0) hb); have n4_ := am_ (Kd.R_elder' (kr_ HO312) (Kd.R_base ho0) hb); have n5_ := am_ (Kd.R_elder' (kr_ HO316) (Kd.R_base ho0) hb); have n6_ := am_ (Kd.R_lower (Kd.R_new' (Kd.R_new' (Kd.R_new' (Kd.R_new' (Kd.R_new' (Kd.R_new' ho0 (Kd.R_lt (kr_ HO_274001))) (Kd.R_lt (kr_ HO_279001))) (Kd.R_lt (kr_ HO_284001))) (Kd.R_lt (kr_ HO_290001))) (Kd.R_lt (kr_ HO312))) (Kd.R_lt (kr_ HO316))) (below_size (bl_ HB))); have n7_ := am_ (blk_below (bk_ BK256) hb); have n8_ := am_ (blk_below (bk_ BK257) hb); have n9_ := am_ (blk_below (bk_ BK273) hb); have n10_ := am_ (blk_below (bk_ BK278) hb); have n11_ := am_ (blk_below (bk_ BK283) hb); have n12_ := am_ (blk_below (bk_ BK289) hb); have n13_ := am_ (blk_below (bk_ BK322) hb); have n14_ := am_ (below_step (bl_ HB) hb); clear HO_274001 HO_279001 HO_284001 HO_290001 HO312 HO316 BK256 BK257 BK273 BK278 BK283 BK289 BK322 HB; have HO_274001 := n0_; have HO_279001 := n1_; have HO_284001 := n2_; have HO_290001 := n3_; have HO312 := n4_; have HO316 := n5_; have HO320 := n6_; have BK256 := n7_; have BK257 := n8_; have BK273 := n9_; have BK278 := n10_; have BK283 := n11_; have BK289 := n12_; have BK322 := n13_; have HB := n14_; clear n0_ n1_ n2_ n3_ n4_ n5_ n6_ n7_ n8_ n9_ n10_ n11_ n12_ n13_ n14_; (try clear hb); (try clear hb2); (try clear hk); (try clear hi); (try clear ho0)
                refine hK.out _ _ ⟨(blk_cell BK256.out 0).trans rfl, (blk_cell BK256.out 1).trans rfl, (blk_cell BK257.out 0).trans rfl, (blk_cell BK257.out 1).trans rfl⟩ (fun hHeld => ?_)
                clear hK K
                refine norm_ (a' := ?_) ?_ ?_
                rotate_left
                ·show Act.put _ (some 99) _ = _
                 exact nm_
                refine pure_ (i := 5) (N := some 94) (v := ?_) (a' := ?_) #[true, true, true, true, true, true, false, false, true, false, false] rfl rfl (any_of HT_.out (by kernel_rfl)) (fun _ _ _ h => h) (Or.inl ⟨by rfl, ?_⟩) ?_ ?_
                rotate_left
                ·intro w'
                 go_simp
                 with_reducible rfl
                rotate_left
                ·exact nm_
                refine pure_ (i := 6) (N := some 100) (v := ?_) (a' := ?_) #[true, true, true, true, true, true, true, false, true, false, false] rfl rfl (any_of HT_.out (by kernel_rfl)) (fun _ _ _ h => h) (Or.inl ⟨by rfl, ?_⟩) ?_ ?_
                rotate_left
                ·intro w'
                 go_simp
                 with_reducible rfl
                rotate_left
                ·exact nm_
                refine pure_ (i := 7) (N := some 101) (v := ?_) (a' := ?_) #[true, true, true, true, true, true, true, true, true, false, false] rfl rfl (any_of HT_.out (by kernel_rfl)) (fun _ _ _ h => h) (Or.inl ⟨by rfl, ?_⟩) ?_ ?_
                rotate_left
                ·intro w'
                 go_simp
                 with_reducible rfl
                rotate_left
                ·exact nm_
                exact norm_ (by simp only [putAll, Act.put, List.setIfInBounds_toArray, List.set_cons_zero, List.set_cons_succ]) (hCont (.slice Ao188 t310.length co188, .slice Ao189 t314.length co189, v319, gb322) _ ⟨hHeld, (km_ HO312 (fun _ hk => ⟨hk.1.2, ⟨hk.2, ⟨hk.1.1.1.1.1.2, ⟨hk.1.1.1.1.2, ⟨hk.1.1.1.2, hk.1.1.2⟩⟩⟩⟩⟩)), (km_ HO316 (fun _ hk => ⟨hk.1.2, ⟨hk.2, ⟨hk.1.1.1.1.1.2, ⟨hk.1.1.1.1.2, ⟨hk.1.1.1.2, hk.1.1.2⟩⟩⟩⟩⟩)), (km_ HO320 (fun _ hk => ⟨hk.1.2, ⟨hk.2, ⟨hk.1.1.1.1.1.2, ⟨hk.1.1.1.1.2, ⟨hk.1.1.1.2, hk.1.1.2⟩⟩⟩⟩⟩)), (km_ HO_274001 (fun _ hk => ⟨hk.1.1.2, ⟨hk.1.2, ⟨hk.2, ⟨hk.1.1.1.1, ⟨hk.1.1.1.2.1, hk.1.1.1.2.2⟩⟩⟩⟩⟩)), (km_ HO_279001 (fun _ hk => ⟨hk.1.1.2, ⟨hk.1.2, ⟨hk.2, ⟨hk.1.1.1.1, ⟨hk.1.1.1.2.1, hk.1.1.1.2.2⟩⟩⟩⟩⟩)), (km_ HO_284001 (fun _ hk => ⟨hk.1.1.2, ⟨hk.1.2, ⟨hk.2, ⟨hk.1.1.1.1, ⟨hk.1.1.1.2.1, hk.1.1.1.2.2⟩⟩⟩⟩⟩)), (km_ HO_290001 (fun _ hk => ⟨hk.1.1.2, ⟨hk.1.2, ⟨hk.2, ⟨hk.1.1.1.1, ⟨hk.1.1.1.2.1, hk.1.1.1.2.2⟩⟩⟩⟩⟩)), (bk_ BK256), (bk_ BK257), (bk_ BK273), (bk_ BK278), (bk_ BK283), (bk_ BK289), (bk_ BK322), GW322.out, GE322.out, NB256_322.out, NB322_256.out, NB257_322.out, NB322_257.out, NB273_322.out, NB322_273.out, NB278_322.out, NB322_278.out, NB283_322.out, NB322_283.out, NB289_322.out, NB322_289.out, (bl_ HB)⟩)
              ·skip
               refine box_step ?hg (N := 15) ?hd (cs := #[.int .i64 0, .slice none 0 0]) (t := 28) ?hr ?_; (case hd => rfl); (case hg => rfl); (case hr => first | (go_simp; done) | (go_simp; rfl))
               intro gb322 hg w185 hbox hb
               have n0_ := am_ (Kd.R_below (kr_ HO_274001) hb); have n1_ := am_ (Kd.R_below (kr_ HO_279001) hb); have n2_ := am_ (Kd.R_below (kr_ HO_284001) hb); have n3_ := am_ (Kd.R_below (kr_ HO_290001) hb); have n4_ := am_ (blk_below (bk_ BK256) hb); have n5_ := am_ (blk_below (bk_ BK257) hb); have n6_ := am_ (blk_below (bk_ BK273) hb); have n7_ := am_ (blk_below (bk_ BK278) hb); have n8_ := am_ (blk_below (bk_ BK283) hb); have n9_ := am_ (blk_below (bk_ BK289) hb); have n10_ := am_ (below_step (bl_ HB) hb); have n11_ := am_ (hbox); have n12_ := am_ (gs_ hg HB); have n13_ := am_ (gs_ hg HB); have n14_ := am_ (nl_ hg BK256); have n15_ := am_ (ng_ hg BK256); have n16_ := am_ (nl_ hg BK257); have n17_ := am_ (ng_ hg BK257); have n18_ := am_ (nl_ hg BK273); have n19_ := am_ (ng_ hg BK273); have n20_ := am_ (nl_ hg BK278); have n21_ := am_ (ng_ hg BK278); have n22_ := am_ (nl_ hg BK283); have n23_ := am_ (ng_ hg BK283); have n24_ := am_ (nl_ hg BK289); have n25_ := am_ (ng_ hg BK289); clear HO_274001 HO_279001 HO_284001 HO_290001 BK256 BK257 BK273 BK278 BK283 BK289 HB; have HO_274001 := n0_; have HO_279001 := n1_; have HO_284001 := n2_; have HO_290001 := n3_; have BK256 := n4_; have BK257 := n5_; have BK273 := n6_; have BK278 := n7_; have BK283 := n8_; have BK289 := n9_; have HB := n10_; have BK322 := n11_; have GW322 := n12_; have GE322 := n13_; have NB256_322 := n14_; have NB322_256 := n15_; have NB257_322 := n16_; have NB322_257 := n17_; have NB273_322 := n18_; have NB322_273 := n19_; have NB278_322 := n20_; have NB322_278 := n21_; have NB283_322 := n22_; have NB322_283 := n23_; have NB289_322 := n24_; have NB322_289 := n25_; clear n0_ n1_ n2_ n3_ n4_ n5_ n6_ n7_ n8_ n9_ n10_ n11_ n12_ n13_ n14_ n15_ n16_ n17_ n18_ n19_ n20_ n21_ n22_ n23_ n24_ n25_ hb hbox hg
               refine hK.out _ _ ⟨(blk_cell BK256.out 0).trans rfl, (blk_cell BK256.out 1).trans rfl, (blk_cell BK257.out 0).trans rfl, (blk_cell BK257.out 1).trans rfl⟩ (fun hHeld => ?_)
               clear hK K
               refine norm_ (a' := ?_) ?_ ?_
               rotate_left
               ·show Act.put _ (some 15) _ = _
                exact nm_
               refine one_ (i := 1) (N := some 96) #[true, true, true, false, false, false, false, false, true, false, false] rfl rfl (one_of HT_.out (by kernel_rfl)) (by decide) (fun K hK => ?_)
               refine goes_ Tryd.func20 (by kernel_rfl) rfl #[.agg #[.int .i64 a0_0, .slice A0_1 l0_1.length c0_1]] (by rfl) rfl rfl ma_ ?_
               with_reducible refine (laws_toWhole.calls kj107 a0_0 _ _ l0_1 t309 t310 _ ?side1 ?side2 A171.out).mono ?_
               (case side1 => repeat (first | exact (Kd.C_below HR0_1.out HB.out) | (with_reducible refine Kd.C_alloc ?_ _) | (with_reducible refine Kd.C_drewN ?_ _) | (with_reducible refine Kd.C_drew ?_)))
               (case side2 => exact HC0_1.out)
               rintro e w186 ⟨v311, rfl, ho0, hb⟩
               refine ⟨_, rfl, ?_⟩
               have n0_ := am_ (Kd.R_elder' (kr_ HO_274001) (Kd.R_base ho0) hb); have n1_ := am_ (Kd.R_elder' (kr_ HO_279001) (Kd.R_base ho0) hb); have n2_ := am_ (Kd.R_elder' (kr_ HO_284001) (Kd.R_base ho0) hb); have n3_ := am_ (Kd.R_elder' (kr_ HO_290001) (Kd.R_base ho0) hb); have n4_ := am_ (Kd.R_lower (Kd.R_new' (Kd.R_new' (Kd.R_new' (Kd.R_new' ho0 (Kd.R_lt (kr_ HO_274001))) (Kd.R_lt (kr_ HO_279001))) (Kd.R_lt (kr_ HO_284001))) (Kd.R_lt (kr_ HO_290001))) (below_size (bl_ HB))); have n5_ := am_ (blk_below (bk_ BK256) hb); have n6_ := am_ (blk_below (bk_ BK257) hb); have n7_ := am_ (blk_below (bk_ BK273) hb); have n8_ := am_ (blk_below (bk_ BK278) hb); have n9_ := am_ (blk_below (bk_ BK283) hb); have n10_ := am_ (blk_below (bk_ BK289) hb); have n11_ := am_ (blk_below (bk_ BK322) hb); have n12_ := am_ (below_step (bl_ HB) hb); clear HO_274001 HO_279001 HO_284001 HO_290001 BK256 BK257 BK273 BK278 BK283 BK289 BK322 HB; have HO_274001 := n0_; have HO_279001 := n1_; have HO_284001 := n2_; have HO_290001 := n3_; have HO312 := n4_; have BK256 := n5_; have BK257 := n6_; have BK273 := n7_; have BK278 := n8_; have BK283 := n9_; have BK289 := n10_; have BK322 := n11_; have HB := n12_; clear n0_ n1_ n2_ n3_ n4_ n5_ n6_ n7_ n8_ n9_ n10_ n11_ n12_; (try clear hb); (try clear hb2); (try clear hk); (try clear hi); (try clear ho0)
               refine hK.out _ _ ⟨(blk_cell BK256.out 0).trans rfl, (blk_cell BK256.out 1).trans rfl, (blk_cell BK257.out 0).trans rfl, (blk_cell BK257.out 1).trans rfl⟩ (fun hHeld => ?_)
               clear hK K
               refine norm_ (a' := ?_) ?_ ?_
               rotate_left
               ·show Act.put _ (some 96) _ = _
                exact nm_
               refine one_ (i := 3) (N := some 98) #[true, true, true, true, false, false, false, false, true, false, false] rfl rfl (one_of HT_.out (by kernel_rfl)) (by decide) (fun K hK => ?_)
               refine goes_ Tryd.func20 (by kernel_rfl) rfl #[.agg #[.int .i64 a1_0, .slice A1_1 l1_1.length c1_1]] (by rfl) rfl rfl ma_ ?_
               with_reducible refine (laws_toWhole.calls kj107 a1_0 _ _ l1_1 t313 t314 _ ?side1 ?side2 A172.out).mono ?_
               (case side1 => repeat (first | exact (Kd.C_below HR1_1.out HB.out) | (with_reducible refine Kd.C_alloc ?_ _) | (with_reducible refine Kd.C_drewN ?_ _) | (with_reducible refine Kd.C_drew ?_)))
               (case side2 => exact HC1_1.out)
               rintro e w187 ⟨v315, rfl, ho0, hb⟩
               refine ⟨_, rfl, ?_⟩
               have n0_ := am_ (Kd.R_elder' (kr_ HO_274001) (Kd.R_base ho0) hb); have n1_ := am_ (Kd.R_elder' (kr_ HO_279001) (Kd.R_base ho0) hb); have n2_ := am_ (Kd.R_elder' (kr_ HO_284001) (Kd.R_base ho0) hb); have n3_ := am_ (Kd.R_elder' (kr_ HO_290001) (Kd.R_base ho0) hb); have n4_ := am_ (Kd.R_elder' (kr_ HO312) (Kd.R_base ho0) hb); have n5_ := am_ (Kd.R_lower (Kd.R_new' (Kd.R_new' (Kd.R_new' (Kd.R_new' (Kd.R_new' ho0 (Kd.R_lt (kr_ HO_274001))) (Kd.R_lt (kr_ HO_279001))) (Kd.R_lt (kr_ HO_284001))) (Kd.R_lt (kr_ HO_290001))) (Kd.R_lt (kr_ HO312))) (below_size (bl_ HB))); have n6_ := am_ (blk_below (bk_ BK256) hb); have n7_ := am_ (blk_below (bk_ BK257) hb); have n8_ := am_ (blk_below (bk_ BK273) hb); have n9_ := am_ (blk_below (bk_ BK278) hb); have n10_ := am_ (blk_below (bk_ BK283) hb); have n11_ := am_ (blk_below (bk_ BK289) hb); have n12_ := am_ (blk_below (bk_ BK322) hb); have n13_ := am_ (below_step (bl_ HB) hb); clear HO_274001 HO_279001 HO_284001 HO_290001 HO312 BK256 BK257 BK273 BK278 BK283 BK289 BK322 HB; have HO_274001 := n0_; have HO_279001 := n1_; have HO_284001 := n2_; have HO_290001 := n3_; have HO312 := n4_; have HO316 := n5_; have BK256 := n6_; have BK257 := n7_; have BK273 := n8_; have BK278 := n9_; have BK283 := n10_; have BK289 := n11_; have BK322 := n12_; have HB := n13_; clear n0_ n1_ n2_ n3_ n4_ n5_ n6_ n7_ n8_ n9_ n10_ n11_ n12_ n13_; (try clear hb); (try clear hb2); (try clear hk); (try clear hi); (try clear ho0)
               obtain ⟨Ao188, co188, eo188⟩ := Kd.R_slice HO312.out
               (first | subst eo188 | (injection eo188 with f1_ f2_ f3_; have f4_ := f1_.symm; have f5_ := f3_.symm; clear f1_ f2_ f3_; subst f4_; subst f5_))
               obtain ⟨Ao189, co189, eo189⟩ := Kd.R_slice HO316.out
               (first | subst eo189 | (injection eo189 with f1_ f2_ f3_; have f4_ := f1_.symm; have f5_ := f3_.symm; clear f1_ f2_ f3_; subst f4_; subst f5_))
               refine hK.out _ _ ⟨(blk_cell BK256.out 0).trans rfl, (blk_cell BK256.out 1).trans rfl, (blk_cell BK257.out 0).trans rfl, (blk_cell BK257.out 1).trans rfl⟩ (fun hHeld => ?_)
               clear hK K
               refine norm_ (a' := ?_) ?_ ?_
               rotate_left
               ·show Act.put _ (some 98) _ = _
                exact nm_
               refine one_ (i := 4) (N := some 99) #[true, true, true, true, true, false, false, false, true, false, false] rfl rfl (one_of HT_.out (by kernel_rfl)) (by decide) (fun K hK => ?_)
               refine goes_ Tryd.func38 (by kernel_rfl) rfl #[.agg #[.int .i64 t309, .slice Ao188 t310.length co188], .agg #[.int .i64 t313, .slice Ao189 t314.length co189]] (by rfl) rfl rfl ma_ ?_
               with_reducible refine (impl_SubtractWholes.calls t309 _ _ t310 t313 _ _ t314 t317 t318 t321 _ ?side1 ?side2 ?side3 ?side4 A173.out).mono ?_
               (case side1 => repeat (first | exact (Kd.R_reads' HO312.out).2.2 | (with_reducible refine Kd.C_alloc ?_ _) | (with_reducible refine Kd.C_drewN ?_ _) | (with_reducible refine Kd.C_drew ?_)))
               (case side2 => exact (Kd.R_reads' HO312.out).2.1)
               (case side3 => repeat (first | exact (Kd.R_reads' HO316.out).2.2 | (with_reducible refine Kd.C_alloc ?_ _) | (with_reducible refine Kd.C_drewN ?_ _) | (with_reducible refine Kd.C_drew ?_)))
               (case side4 => exact (Kd.R_reads' HO316.out).2.1)
               rintro e w190 ⟨v319, rfl, ho0, hb⟩
               refine ⟨_, rfl, ?_⟩
               have n0_ := am_ (Kd.R_elder' (kr_ HO_274001) (Kd.R_base ho0) hb); have n1_ := am_ (Kd.R_elder' (kr_ HO_279001) (Kd.R_base ho0) hb); have n2_ := am_ (Kd.R_elder' (kr_ HO_284001) (Kd.R_base ho0) hb); have n3_ := am_ (Kd.R_elder' (kr_ HO_290001) (Kd.R_base ho0) hb); have n4_ := am_ (Kd.R_elder' (kr_ HO312) (Kd.R_base ho0) hb); have n5_ := am_ (Kd.R_elder' (kr_ HO316) (Kd.R_base ho0) hb); have n6_ := am_ (Kd.R_lower (Kd.R_new' (Kd.R_new' (Kd.R_new' (Kd.R_new' (Kd.R_new' (Kd.R_new' ho0 (Kd.R_lt (kr_ HO_274001))) (Kd.R_lt (kr_ HO_279001))) (Kd.R_lt (kr_ HO_284001))) (Kd.R_lt (kr_ HO_290001))) (Kd.R_lt (kr_ HO312))) (Kd.R_lt (kr_ HO316))) (below_size (bl_ HB))); have n7_ := am_ (blk_below (bk_ BK256) hb); have n8_ := am_ (blk_below (bk_ BK257) hb); have n9_ := am_ (blk_below (bk_ BK273) hb); have n10_ := am_ (blk_below (bk_ BK278) hb); have n11_ := am_ (blk_below (bk_ BK283) hb); have n12_ := am_ (blk_below (bk_ BK289) hb); have n13_ := am_ (blk_below (bk_ BK322) hb); have n14_ := am_ (below_step (bl_ HB) hb); clear HO_274001 HO_279001 HO_284001 HO_290001 HO312 HO316 BK256 BK257 BK273 BK278 BK283 BK289 BK322 HB; have HO_274001 := n0_; have HO_279001 := n1_; have HO_284001 := n2_; have HO_290001 := n3_; have HO312 := n4_; have HO316 := n5_; have HO320 := n6_; have BK256 := n7_; have BK257 := n8_; have BK273 := n9_; have BK278 := n10_; have BK283 := n11_; have BK289 := n12_; have BK322 := n13_; have HB := n14_; clear n0_ n1_ n2_ n3_ n4_ n5_ n6_ n7_ n8_ n9_ n10_ n11_ n12_ n13_ n14_; (try clear hb); (try clear hb2); (try clear hk); (try clear hi); (try clear ho0)
               refine hK.out _ _ ⟨(blk_cell BK256.out 0).trans rfl, (blk_cell BK256.out 1).trans rfl, (blk_cell BK257.out 0).trans rfl, (blk_cell BK257.out 1).trans rfl⟩ (fun hHeld => ?_)
               clear hK K
               refine norm_ (a' := ?_) ?_ ?_
               rotate_left
               ·show Act.put _ (some 99) _ = _
                exact nm_
               refine pure_ (i := 5) (N := some 94) (v := ?_) (a' := ?_) #[true, true, true, true, true, true, false, false, true, false, false] rfl rfl (any_of HT_.out (by kernel_rfl)) (fun _ _ _ h => h) (Or.inl ⟨by rfl, ?_⟩) ?_ ?_
               rotate_left
               ·intro w'
                go_simp
                with_reducible rfl
               rotate_left
               ·exact nm_
               refine pure_ (i := 6) (N := some 100) (v := ?_) (a' := ?_) #[true, true, true, true, true, true, true, false, true, false, false] rfl rfl (any_of HT_.out (by kernel_rfl)) (fun _ _ _ h => h) (Or.inl ⟨by rfl, ?_⟩) ?_ ?_
               rotate_left
               ·intro w'
                go_simp
                with_reducible rfl
               rotate_left
               ·exact nm_
               refine pure_ (i := 7) (N := some 101) (v := ?_) (a' := ?_) #[true, true, true, true, true, true, true, true, true, false, false] rfl rfl (any_of HT_.out (by kernel_rfl)) (fun _ _ _ h => h) (Or.inl ⟨by rfl, ?_⟩) ?_ ?_
               rotate_left
               ·intro w'
                go_simp
                with_reducible rfl
               rotate_left
               ·exact nm_
               exact norm_ (by simp only [putAll, Act.put, List.setIfInBounds_toArray, List.set_cons_zero, List.set_cons_succ]) (hCont (.slice Ao188 t310.length co188, .slice Ao189 t314.length co189, v319, gb322) _ ⟨hHeld, (km_ HO312 (fun _ hk => ⟨hk.1.2, ⟨hk.2, ⟨hk.1.1.1.1.1.2, ⟨hk.1.1.1.1.2, ⟨hk.1.1.1.2, hk.1.1.2⟩⟩⟩⟩⟩)), (km_ HO316 (fun _ hk => ⟨hk.1.2, ⟨hk.2, ⟨hk.1.1.1.1.1.2, ⟨hk.1.1.1.1.2, ⟨hk.1.1.1.2, hk.1.1.2⟩⟩⟩⟩⟩)), (km_ HO320 (fun _ hk => ⟨hk.1.2, ⟨hk.2, ⟨hk.1.1.1.1.1.2, ⟨hk.1.1.1.1.2, ⟨hk.1.1.1.2, hk.1.1.2⟩⟩⟩⟩⟩)), (km_ HO_274001 (fun _ hk => ⟨hk.1.1.2, ⟨hk.1.2, ⟨hk.2, ⟨hk.1.1.1.1, ⟨hk.1.1.1.2.1, hk.1.1.1.2.2⟩⟩⟩⟩⟩)), (km_ HO_279001 (fun _ hk => ⟨hk.1.1.2, ⟨hk.1.2, ⟨hk.2, ⟨hk.1.1.1.1, ⟨hk.1.1.1.2.1, hk.1.1.1.2.2⟩⟩⟩⟩⟩)), (km_ HO_284001 (fun _ hk => ⟨hk.1.1.2, ⟨hk.1.2, ⟨hk.2, ⟨hk.1.1.1.1, ⟨hk.1.1.1.2.1, hk.1.1.1.2.2⟩⟩⟩⟩⟩)), (km_ HO_290001 (fun _ hk => ⟨hk.1.1.2, ⟨hk.1.2, ⟨hk.2, ⟨hk.1.1.1.1, ⟨hk.1.1.1.2.1, hk.1.1.1.2.2⟩⟩⟩⟩⟩)), (bk_ BK256), (bk_ BK257), (bk_ BK273), (bk_ BK278), (bk_ BK283), (bk_ BK289), (bk_ BK322), GW322.out, GE322.out, NB256_322.out, NB322_256.out, NB257_322.out, NB322_257.out, NB273_322.out, NB322_273.out, NB278_322.out, NB322_278.out, NB283_322.out, NB322_283.out, NB289_322.out, NB322_289.out, (bl_ HB)⟩)
             rintro ⟨v311, v315, v319, gb322⟩ w191 ⟨hS_, h0_, h1_, h2_, h3_, h4_, h5_, h6_, h7_, h8_, h9_, h10_, h11_, h12_, h13_, h14_, h15_, h16_, h17_, h18_, h19_, h20_, h21_, h22_, h23_, h24_, h25_, h26_, h27_, h28_⟩
             have n0_ : Aside0 (Kd.R (Kd.int .i64) 2 w191 w.heap.size (fun k_ => some k_ ≠ (v315 : Value).ownBlock ∧ some k_ ≠ (v319 : Value).ownBlock ∧ some k_ ≠ (.slice Ao42 t269.length co42 : Value).ownBlock ∧ some k_ ≠ (.slice Ao52 t302.length co52 : Value).ownBlock ∧ some k_ ≠ (.slice Ao62 t304.length co62 : Value).ownBlock ∧ some k_ ≠ (.slice Ao72 t285.length co72 : Value).ownBlock) v311 t310) := ⟨h0_⟩
             have n1_ : Aside0 (Kd.R (Kd.int .i64) 2 w191 w.heap.size (fun k_ => some k_ ≠ (v311 : Value).ownBlock ∧ some k_ ≠ (v319 : Value).ownBlock ∧ some k_ ≠ (.slice Ao42 t269.length co42 : Value).ownBlock ∧ some k_ ≠ (.slice Ao52 t302.length co52 : Value).ownBlock ∧ some k_ ≠ (.slice Ao62 t304.length co62 : Value).ownBlock ∧ some k_ ≠ (.slice Ao72 t285.length co72 : Value).ownBlock) v315 t314) := ⟨h1_⟩
             have n2_ : Aside0 (Kd.R (Kd.int .i64) 2 w191 w.heap.size (fun k_ => some k_ ≠ (v311 : Value).ownBlock ∧ some k_ ≠ (v315 : Value).ownBlock ∧ some k_ ≠ (.slice Ao42 t269.length co42 : Value).ownBlock ∧ some k_ ≠ (.slice Ao52 t302.length co52 : Value).ownBlock ∧ some k_ ≠ (.slice Ao62 t304.length co62 : Value).ownBlock ∧ some k_ ≠ (.slice Ao72 t285.length co72 : Value).ownBlock) v319 t318) := ⟨h2_⟩
             have n3_ : Aside0 (Kd.R (Kd.int .i64) 2 w191 w.heap.size (fun k_ => some k_ ≠ (v311 : Value).ownBlock ∧ some k_ ≠ (v315 : Value).ownBlock ∧ some k_ ≠ (v319 : Value).ownBlock ∧ some k_ ≠ (.slice Ao52 t302.length co52 : Value).ownBlock ∧ some k_ ≠ (.slice Ao62 t304.length co62 : Value).ownBlock ∧ some k_ ≠ (.slice Ao72 t285.length co72 : Value).ownBlock) (.slice Ao42 t269.length co42) t269) := ⟨h3_⟩
             have n4_ : Aside0 (Kd.R (Kd.int .i64) 2 w191 w.heap.size (fun k_ => some k_ ≠ (v311 : Value).ownBlock ∧ some k_ ≠ (v315 : Value).ownBlock ∧ some k_ ≠ (v319 : Value).ownBlock ∧ some k_ ≠ (.slice Ao42 t269.length co42 : Value).ownBlock ∧ some k_ ≠ (.slice Ao62 t304.length co62 : Value).ownBlock ∧ some k_ ≠ (.slice Ao72 t285.length co72 : Value).ownBlock) (.slice Ao52 t302.length co52) t302) := ⟨h4_⟩
             have n5_ : Aside0 (Kd.R (Kd.int .i64) 2 w191 w.heap.size (fun k_ => some k_ ≠ (v311 : Value).ownBlock ∧ some k_ ≠ (v315 : Value).ownBlock ∧ some k_ ≠ (v319 : Value).ownBlock ∧ some k_ ≠ (.slice Ao42 t269.length co42 : Value).ownBlock ∧ some k_ ≠ (.slice Ao52 t302.length co52 : Value).ownBlock ∧ some k_ ≠ (.slice Ao72 t285.length co72 : Value).ownBlock) (.slice Ao62 t304.length co62) t304) := ⟨h5_⟩
             have n6_ : Aside0 (Kd.R (Kd.int .i64) 2 w191 w.heap.size (fun k_ => some k_ ≠ (v311 : Value).ownBlock ∧ some k_ ≠ (v315 : Value).ownBlock ∧ some k_ ≠ (v319 : Value).ownBlock ∧ some k_ ≠ (.slice Ao42 t269.length co42 : Value).ownBlock ∧ some k_ ≠ (.slice Ao52 t302.length co52 : Value).ownBlock ∧ some k_ ≠ (.slice Ao62 t304.length co62 : Value).ownBlock) (.slice Ao72 t285.length co72) t307) := ⟨h6_⟩
             have n7_ : Aside0 (w191.heap[gb256]? = some (.cells #[.int .i64 a0_0, .slice A0_1 l0_1.length c0_1] 24 (0, 0))) := ⟨h7_⟩
             have n8_ : Aside0 (w191.heap[gb257]? = some (.cells #[.int .i64 a1_0, .slice A1_1 l1_1.length c1_1] 24 (0, 0))) := ⟨h8_⟩
             have n9_ : Aside0 (w191.heap[gb273]? = some (.cells #[.int .i64 t268, .slice Ao42 t269.length co42] 28 (0, 0))) := ⟨h9_⟩
             have n10_ : Aside0 (w191.heap[gb278]? = some (.cells #[.int .i64 t274, .slice Ao52 t302.length co52] 28 (0, 0))) := ⟨h10_⟩
             have n11_ : Aside0 (w191.heap[gb283]? = some (.cells #[.int .i64 t279, .slice Ao62 t304.length co62] 28 (0, 0))) := ⟨h11_⟩
             have n12_ : Aside0 (w191.heap[gb289]? = some (.cells #[.int .i64 t284, .slice Ao72 t285.length co72] 28 (0, 0))) := ⟨h12_⟩
             have n13_ : Aside0 (w191.heap[gb322]? = some (.cells #[.int .i64 0, .slice none 0 0] 28 (0, 0))) := ⟨h13_⟩
             have n14_ : Aside0 (w.heap.size ≤ gb322) := ⟨h14_⟩
             have n15_ : Aside0 (w.heap.size ≤ gb322) := ⟨h15_⟩
             have n16_ : Aside0 (gb256 ≠ gb322) := ⟨h16_⟩
             have n17_ : Aside0 (gb322 ≠ gb256) := ⟨h17_⟩
             have n18_ : Aside0 (gb257 ≠ gb322) := ⟨h18_⟩
             have n19_ : Aside0 (gb322 ≠ gb257) := ⟨h19_⟩
             have n20_ : Aside0 (gb273 ≠ gb322) := ⟨h20_⟩
             have n21_ : Aside0 (gb322 ≠ gb273) := ⟨h21_⟩
             have n22_ : Aside0 (gb278 ≠ gb322) := ⟨h22_⟩
             have n23_ : Aside0 (gb322 ≠ gb278) := ⟨h23_⟩
             have n24_ : Aside0 (gb283 ≠ gb322) := ⟨h24_⟩
             have n25_ : Aside0 (gb322 ≠ gb283) := ⟨h25_⟩
             have n26_ : Aside0 (gb289 ≠ gb322) := ⟨h26_⟩
             have n27_ : Aside0 (gb322 ≠ gb289) := ⟨h27_⟩
             have n28_ : Aside0 (Below w.heap.size w w191) := ⟨h28_⟩
             clear HO_274001 HO_279001 HO_284001 HO_290001 BK256 BK257 BK273 BK278 BK283 BK289 HB h0_ h1_ h2_ h3_ h4_ h5_ h6_ h7_ h8_ h9_ h10_ h11_ h12_ h13_ h14_ h15_ h16_ h17_ h18_ h19_ h20_ h21_ h22_ h23_ h24_ h25_ h26_ h27_ h28_; have HO312 := n0_; have HO316 := n1_; have HO320 := n2_; have HO_274001 := n3_; have HO_279001 := n4_; have HO_284001 := n5_; have HO_290001 := n6_; have BK256 := n7_; have BK257 := n8_; have BK273 := n9_; have BK278 := n10_; have BK283 := n11_; have BK289 := n12_; have BK322 := n13_; have GW322 := n14_; have GE322 := n15_; have NB256_322 := n16_; have NB322_256 := n17_; have NB257_322 := n18_; have NB322_257 := n19_; have NB273_322 := n20_; have NB322_273 := n21_; have NB278_322 := n22_; have NB322_278 := n23_; have NB283_322 := n24_; have NB322_283 := n25_; have NB289_322 := n26_; have NB322_289 := n27_; have HB := n28_; clear n0_ n1_ n2_ n3_ n4_ n5_ n6_ n7_ n8_ n9_ n10_ n11_ n12_ n13_ n14_ n15_ n16_ n17_ n18_ n19_ n20_ n21_ n22_ n23_ n24_ n25_ n26_ n27_ n28_
             have hHeld : w191.cell? ⟨gb256, 0, none⟩ = some (.int .i64 a0_0) ∧ w191.cell? ⟨gb256, 1, none⟩ = some (.slice A0_1 l0_1.length c0_1) ∧ w191.cell? ⟨gb257, 0, none⟩ = some (.int .i64 a1_0) ∧ w191.cell? ⟨gb257, 1, none⟩ = some (.slice A1_1 l1_1.length c1_1) := hS_
             obtain ⟨Ao193, co193, eo193⟩ := Kd.R_slice HO320.out
             (first | subst eo193 | (injection eo193 with f1_ f2_ f3_; have f4_ := f1_.symm; have f5_ := f3_.symm; clear f1_ f2_ f3_; subst f4_; subst f5_))
             refine norm_ (a' := ?_) ?_ ?_
             rotate_left
             ·simp only [putAll, Act.put, List.setIfInBounds_toArray, List.set_cons_zero, List.set_cons_succ]
              rfl
             refine one_ (i := 9) (N := none) #[true, true, true, true, true, true, true, true, true, true, false] rfl rfl (one_of HT_.out (by kernel_rfl)) (by decide) (fun K hK => ?_)
             have hs192 : w191.cell? ⟨gb322, 0, none⟩ = some (.int .i64 0) := (blk_cell BK322.out 0).trans rfl
             have hfs192 := blk_frozen BK322.out 0; have hns192_0 := NB256_322.out; have hns192_1 := NB257_322.out; have hns192_2 := NB273_322.out; have hns192_3 := NB278_322.out; have hns192_4 := NB283_322.out; have hns192_5 := NB289_322.out; have hms192_0 := NB322_256.out; have hms192_1 := NB322_257.out; have hms192_2 := NB322_273.out; have hms192_3 := NB322_278.out; have hms192_4 := NB322_283.out; have hms192_5 := NB322_289.out
             have hs194 : w191.cell? ⟨gb322, 1, none⟩ = some (.slice none 0 0) := (blk_cell BK322.out 1).trans rfl
             have hfs194 := blk_frozen BK322.out 1; have hns194_0 := NB256_322.out; have hns194_1 := NB257_322.out; have hns194_2 := NB273_322.out; have hns194_3 := NB278_322.out; have hns194_4 := NB283_322.out; have hns194_5 := NB289_322.out; have hms194_0 := NB322_256.out; have hms194_1 := NB322_257.out; have hms194_2 := NB322_273.out; have hms194_3 := NB322_278.out; have hms194_4 := NB322_283.out; have hms194_5 := NB322_289.out
             refine skip_ (w1 := ?_) (by rfl) rfl ?_ ?_
             rotate_left
             ·go_simp
              rfl
             refine hK.out _ _ ⟨((cell_far (p := ⟨gb322, _, none⟩) NB256_322.out _).trans (((cell_far (p := ⟨gb322, _, none⟩) NB256_322.out _).trans (hHeld.1)))), ((cell_far (p := ⟨gb322, _, none⟩) NB256_322.out _).trans (((cell_far (p := ⟨gb322, _, none⟩) NB256_322.out _).trans (hHeld.2.1)))), ((cell_far (p := ⟨gb322, _, none⟩) NB257_322.out _).trans (((cell_far (p := ⟨gb322, _, none⟩) NB257_322.out _).trans (hHeld.2.2.1)))), ((cell_far (p := ⟨gb322, _, none⟩) NB257_322.out _).trans (((cell_far (p := ⟨gb322, _, none⟩) NB257_322.out _).trans (hHeld.2.2.2))))⟩ (fun hHeld => ?_)
             clear hK K
             refine pure_ (i := 10) (N := some 16) (v := ?_) (a' := ?_) #[true, true, true, true, true, true, true, true, true, true, true] rfl rfl (any_of HT_.out (by kernel_rfl)) (fun _ _ _ h => h) (Or.inl ⟨by rfl, ?_⟩) ?_ ?_
             rotate_left
             ·intro w'
              go_simp
              with_reducible rfl
             rotate_left
             ·exact nm_
             refine done_ (done_of HT_.out (by kernel_rfl)) ?_
             go_upto_region 32 with (fail)
             go_cut [110] (fun v110 wc => ∃ (kq : Nat) (x110_173 : Bool), v110 = .bool x110_173 ∧ Aside0 (laws_FnExactSubtractWholes.j2 kq t306 x110_173 t284 t307 = some r) ∧ Aside0 (kq ≤ kj107) ∧ Aside0 (Kd.R (Kd.int .i64) 2 wc w.heap.size (fun k_ => some k_ ≠ ((.slice Ao52 t302.length co52) : Value).ownBlock ∧ some k_ ≠ ((.slice Ao62 t304.length co62) : Value).ownBlock ∧ some k_ ≠ ((.slice Ao72 t285.length co72) : Value).ownBlock ∧ some k_ ≠ ((.slice Ao193 t318.length co193) : Value).ownBlock) (.slice Ao42 t269.length co42) t269) ∧ Aside0 (Kd.R (Kd.int .i64) 2 wc w.heap.size (fun k_ => some k_ ≠ ((.slice Ao42 t269.length co42) : Value).ownBlock ∧ some k_ ≠ ((.slice Ao62 t304.length co62) : Value).ownBlock ∧ some k_ ≠ ((.slice Ao72 t285.length co72) : Value).ownBlock ∧ some k_ ≠ ((.slice Ao193 t318.length co193) : Value).ownBlock) (.slice Ao52 t302.length co52) t302) ∧ Aside0 (Kd.R (Kd.int .i64) 2 wc w.heap.size (fun k_ => some k_ ≠ ((.slice Ao42 t269.length co42) : Value).ownBlock ∧ some k_ ≠ ((.slice Ao52 t302.length co52) : Value).ownBlock ∧ some k_ ≠ ((.slice Ao72 t285.length co72) : Value).ownBlock ∧ some k_ ≠ ((.slice Ao193 t318.length co193) : Value).ownBlock) (.slice Ao62 t304.length co62) t304) ∧ Aside0 (Kd.R (Kd.int .i64) 2 wc w.heap.size (fun k_ => some k_ ≠ ((.slice Ao42 t269.length co42) : Value).ownBlock ∧ some k_ ≠ ((.slice Ao52 t302.length co52) : Value).ownBlock ∧ some k_ ≠ ((.slice Ao62 t304.length co62) : Value).ownBlock ∧ some k_ ≠ ((.slice Ao193 t318.length co193) : Value).ownBlock) (.slice Ao72 t285.length co72) t307) ∧ Aside0 (Kd.R (Kd.int .i64) 2 wc w.heap.size (fun k_ => some k_ ≠ ((.slice Ao42 t269.length co42) : Value).ownBlock ∧ some k_ ≠ ((.slice Ao52 t302.length co52) : Value).ownBlock ∧ some k_ ≠ ((.slice Ao62 t304.length co62) : Value).ownBlock ∧ some k_ ≠ ((.slice Ao72 t285.length co72) : Value).ownBlock) (.slice Ao193 t318.length co193) t318) ∧ Aside0 (wc.heap[gb256]? = some (.cells #[.int .i64 a0_0, (.slice A0_1 l0_1.length c0_1)] 24 (0, 0))) ∧ Aside0 (wc.heap[gb257]? = some (.cells #[.int .i64 a1_0, (.slice A1_1 l1_1.length c1_1)] 24 (0, 0))) ∧ Aside0 (wc.heap[gb273]? = some (.cells #[.int .i64 t268, (.slice Ao42 t269.length co42)] 28 (0, 0))) ∧ Aside0 (wc.heap[gb278]? = some (.cells #[.int .i64 t274, (.slice Ao52 t302.length co52)] 28 (0, 0))) ∧ Aside0 (wc.heap[gb283]? = some (.cells #[.int .i64 t279, (.slice Ao62 t304.length co62)] 28 (0, 0))) ∧ Aside0 (wc.heap[gb289]? = some (.cells #[.int .i64 t284, (.slice Ao72 t285.length co72)] 28 (0, 0))) ∧ Aside0 (wc.heap[gb322]? = some (.cells #[.int .i64 t317, (.slice Ao193 t318.length co193)] 28 (0, 0))) ∧ Aside0 (Below w.heap.size w wc))
             case first =>
              have H := HC174.out; clear HC174
              replace H := Option.bind_eq_some_iff.mp H
              obtain ⟨t323, A1950, H⟩ := H
              replace H : (if t323 = true then (laws_FnExactSubtractWholes.j2 kj107 t306 (t321 != t272) t284 t307) else (laws_FnExactSubtractWholes.j2 kj107 t306 true t284 t307)) = some r := H
              have A195 := Aside0.mk A1950; clear A1950
              by_cases c196 : t323 = true
              ·subst c196
               have H1 : (laws_FnExactSubtractWholes.j2 kj107 t306 (t321 != t272) t284 t307) = some r := by rw [if_pos rfl] at H; exact H
               clear H; have H := H1; clear H1
               have H' := Aside0.mk H
               clear H; have hnb197 := NB322_256.out; have hnc197 := NB256_322.out; have hnb198 := NB322_257.out; have hnc198 := NB257_322.out; have hnb199 := NB322_273.out; have hnc199 := NB273_322.out; have hnb200 := NB322_278.out; have hnc200 := NB278_322.out; have hnb201 := NB322_283.out; have hnc201 := NB283_322.out; have hnb202 := NB322_289.out; have hnc202 := NB289_322.out
               have hcz203_0 : w191.cell? ⟨gb322, 0, none⟩ = some (.int .i64 0) := (blk_cell BK322.out 0).trans rfl
               have hcz203_1 : w191.cell? ⟨gb322, 1, none⟩ = some (.slice none 0 0) := (blk_cell BK322.out 1).trans rfl
               have hfz203_0 := blk_frozen BK322.out 0; have hfz203_1 := blk_frozen BK322.out 1; have hnb204 := NB273_256.out; have hnc204 := NB256_273.out; have hnb205 := NB273_257.out; have hnc205 := NB257_273.out; have hnb206 := NB273_278.out; have hnc206 := NB278_273.out; have hnb207 := NB273_283.out; have hnc207 := NB283_273.out; have hnb208 := NB273_289.out; have hnc208 := NB289_273.out
               have hcz209_0 : w191.cell? ⟨gb273, 0, none⟩ = some (.int .i64 t268) := (blk_cell BK273.out 0).trans rfl
               have hcz209_1 : w191.cell? ⟨gb273, 1, none⟩ = some (.slice Ao42 t269.length co42) := (blk_cell BK273.out 1).trans rfl
               have hfz209_0 := blk_frozen BK273.out 0; have hfz209_1 := blk_frozen BK273.out 1
               go_wp2_with (first | ((with_reducible refine gate_callee (f := 22) rfl ?_); refine goesL_ (some 104) rfl rfl Tryd.func22 (by kernel_rfl) rfl #[.agg #[.int .i64 t317, .slice Ao193 t318.length co193], .agg #[.int .i64 t268, .slice Ao42 t269.length co42]] rfl ma_ ?_; (with_reducible refine (laws_eqWhole.calls kj107 t317 _ _ t318 t268 _ _ t269 true _ ?side1 ?side2 ?side3 ?side4 A195.out).mono ?_); (case side1 => refine (Kd.R_reads' (e := 2) (base := w.heap.size) (ok := fun k_ => (some k_ ≠ (v311 : Value).ownBlock ∧ (some k_ ≠ (v315 : Value).ownBlock ∧ (some k_ ≠ (.slice Ao42 t269.length co42 : Value).ownBlock ∧ (some k_ ≠ (.slice Ao52 t302.length co52 : Value).ownBlock ∧ (some k_ ≠ (.slice Ao62 t304.length co62 : Value).ownBlock ∧ some k_ ≠ (.slice Ao72 t285.length co72 : Value).ownBlock)))))) (n := t318.length) (c := co193) ?_).2.2; exact (rg_ HO320 BK322)); (case side2 => exact (Kd.R_reads' HO320.out).2.1); (case side3 => refine (Kd.R_reads' (e := 2) (base := w.heap.size) (ok := fun k_ => (some k_ ≠ (v311 : Value).ownBlock ∧ (some k_ ≠ (v315 : Value).ownBlock ∧ (some k_ ≠ (.slice Ao193 t318.length co193 : Value).ownBlock ∧ (some k_ ≠ (.slice Ao52 t302.length co52 : Value).ownBlock ∧ (some k_ ≠ (.slice Ao62 t304.length co62 : Value).ownBlock ∧ some k_ ≠ (.slice Ao72 t285.length co72 : Value).ownBlock)))))) (n := t269.length) (c := co42) ?_).2.2; exact (rg_ HO_274001 BK322)); (case side4 => exact (Kd.R_reads' HO_274001.out).2.1); rintro e w210 ⟨rfl, hb⟩; refine ⟨_, rfl, ?_⟩; have n0_ := am_ (Kd.R_below (rg_ HO_274001 BK322) hb); have n1_ := am_ (Kd.R_below (rg_ HO_279001 BK322) hb); have n2_ := am_ (Kd.R_below (rg_ HO_284001 BK322) hb); have n3_ := am_ (Kd.R_below (rg_ HO_290001 BK322) hb); have n4_ := am_ (Kd.R_below (rg_ HO312 BK322) hb); have n5_ := am_ (Kd.R_below (rg_ HO316 BK322) hb); have n6_ := am_ (Kd.R_below (rg_ HO320 BK322) hb); have n7_ := am_ (blk_below (bk_ BK256) hb); have n8_ := am_ (blk_below (bk_ BK257) hb); have n9_ := am_ (blk_below (bk_ BK273) hb); have n10_ := am_ (blk_below (bk_ BK278) hb); have n11_ := am_ (blk_below (bk_ BK283) hb); have n12_ := am_ (blk_below (bk_ BK289) hb); have n13_ := am_ (blk_below (g := gb322) (o := .cells #[.int .i64 t317, .slice Ao193 t318.length co193] 28 (0, 0)) (by (with_reducible repeat (first | refine blk_drewN ?_ _ | refine blk_drew ?_ | refine blk_alloc ?_ _)); refine blk_put (cs := #[.int .i64 t317, .slice none 0 0]) ?_ 1 _ rfl; (with_reducible repeat (first | refine blk_drewN ?_ _ | refine blk_drew ?_ | refine blk_alloc ?_ _)); refine blk_put (cs := #[.int .i64 0, .slice none 0 0]) ?_ 0 _ rfl; (with_reducible repeat (first | refine blk_drewN ?_ _ | refine blk_drew ?_ | refine blk_alloc ?_ _)); exact BK322.out) hb); have n14_ := am_ (below_step (bl_ HB) hb); clear HO_274001; clear HO_279001; clear HO_284001; clear HO_290001; clear HO312; clear HO316; clear HO320; clear BK256; clear BK257; clear BK273; clear BK278; clear BK283; clear BK289; clear BK322; clear HB; have HO_274001 := n0_; have HO_279001 := n1_; have HO_284001 := n2_; have HO_290001 := n3_; have HO312 := n4_; have HO316 := n5_; have HO320 := n6_; have BK256 := n7_; have BK257 := n8_; have BK273 := n9_; have BK278 := n10_; have BK283 := n11_; have BK289 := n12_; have BK322 := n13_; have HB := n14_; clear n0_ n1_ n2_ n3_ n4_ n5_ n6_ n7_ n8_ n9_ n10_ n11_ n12_ n13_ n14_; (try clear hb); (try clear hb2); (try clear hk); (try clear hi)))
               go_meet
               case rel => exact ⟨_, ((t321 != t272)), (by first | rfl | (simp; done) | (simp [*]; done)), H', ⟨by have := HJ24.out; have := HJ107.out; first | omega | exact Nat.le_refl _⟩, ⟨by (try simp only [hl279001_107]); (try simp only [hl284001_107]); (with_reducible repeat (first | apply Kd.R_alloc | apply Kd.R_drewN | apply Kd.R_drew)); exact Kd.R_mono HO_274001.out (fun _ hk => ⟨hk.2.2.2.1, ⟨hk.2.2.2.2.1, ⟨hk.2.2.2.2.2, hk.2.2.1⟩⟩⟩)⟩, ⟨by (try simp only [hl279001_107]); (try simp only [hl284001_107]); (with_reducible repeat (first | apply Kd.R_alloc | apply Kd.R_drewN | apply Kd.R_drew)); exact Kd.R_mono HO_279001.out (fun _ hk => ⟨hk.2.2.2.1, ⟨hk.2.2.2.2.1, ⟨hk.2.2.2.2.2, hk.2.2.1⟩⟩⟩)⟩, ⟨by (try simp only [hl279001_107]); (try simp only [hl284001_107]); (with_reducible repeat (first | apply Kd.R_alloc | apply Kd.R_drewN | apply Kd.R_drew)); exact Kd.R_mono HO_284001.out (fun _ hk => ⟨hk.2.2.2.1, ⟨hk.2.2.2.2.1, ⟨hk.2.2.2.2.2, hk.2.2.1⟩⟩⟩)⟩, ⟨by (try simp only [hl279001_107]); (try simp only [hl284001_107]); (with_reducible repeat (first | apply Kd.R_alloc | apply Kd.R_drewN | apply Kd.R_drew)); exact Kd.R_mono HO_290001.out (fun _ hk => ⟨hk.2.2.2.1, ⟨hk.2.2.2.2.1, ⟨hk.2.2.2.2.2, hk.2.2.1⟩⟩⟩)⟩, ⟨by (try simp only [hl279001_107]); (try simp only [hl284001_107]); (with_reducible repeat (first | apply Kd.R_alloc | apply Kd.R_drewN | apply Kd.R_drew)); exact Kd.R_mono HO320.out (fun _ hk => ⟨hk.2.2.1, ⟨hk.2.2.2.1, ⟨hk.2.2.2.2.1, hk.2.2.2.2.2⟩⟩⟩)⟩, ⟨by (try simp only [hl279001_107]); (try simp only [hl284001_107]); (with_reducible repeat (first | refine blk_drewN ?_ _ | refine blk_drew ?_ | refine blk_alloc ?_ _)); exact BK256.out⟩, ⟨by (try simp only [hl279001_107]); (try simp only [hl284001_107]); (with_reducible repeat (first | refine blk_drewN ?_ _ | refine blk_drew ?_ | refine blk_alloc ?_ _)); exact BK257.out⟩, ⟨by (try simp only [hl279001_107]); (try simp only [hl284001_107]); (with_reducible repeat (first | refine blk_drewN ?_ _ | refine blk_drew ?_ | refine blk_alloc ?_ _)); exact BK273.out⟩, ⟨by (try simp only [hl279001_107]); (try simp only [hl284001_107]); (with_reducible repeat (first | refine blk_drewN ?_ _ | refine blk_drew ?_ | refine blk_alloc ?_ _)); exact BK278.out⟩, ⟨by (try simp only [hl279001_107]); (try simp only [hl284001_107]); (with_reducible repeat (first | refine blk_drewN ?_ _ | refine blk_drew ?_ | refine blk_alloc ?_ _)); exact BK283.out⟩, ⟨by (try simp only [hl279001_107]); (try simp only [hl284001_107]); (with_reducible repeat (first | refine blk_drewN ?_ _ | refine blk_drew ?_ | refine blk_alloc ?_ _)); exact BK289.out⟩, ⟨by (try simp only [hl279001_107]); (try simp only [hl284001_107]); (with_reducible repeat (first | refine blk_drewN ?_ _ | refine blk_drew ?_ | refine blk_alloc ?_ _)); exact BK322.out⟩, ⟨bl_ HB⟩⟩
              ·replace c196 := Bool.eq_false_iff.mpr c196
               subst c196
               have H1 : (laws_FnExactSubtractWholes.j2 kj107 t306 true t284 t307) = some r := by rw [if_neg (show ¬ (false = true) by decide)] at H; exact H
               clear H; have H := H1; clear H1
               have H' := Aside0.mk H
               clear H; have hnb211 := NB322_256.out; have hnc211 := NB256_322.out; have hnb212 := NB322_257.out; have hnc212 := NB257_322.out; have hnb213 := NB322_273.out; have hnc213 := NB273_322.out; have hnb214 := NB322_278.out; have hnc214 := NB278_322.out; have hnb215 := NB322_283.out; have hnc215 := NB283_322.out; have hnb216 := NB322_289.out; have hnc216 := NB289_322.out
               have hcz217_0 : w191.cell? ⟨gb322, 0, none⟩ = some (.int .i64 0) := (blk_cell BK322.out 0).trans rfl
               have hcz217_1 : w191.cell? ⟨gb322, 1, none⟩ = some (.slice none 0 0) := (blk_cell BK322.out 1).trans rfl
               have hfz217_0 := blk_frozen BK322.out 0; have hfz217_1 := blk_frozen BK322.out 1; have hnb218 := NB273_256.out; have hnc218 := NB256_273.out; have hnb219 := NB273_257.out; have hnc219 := NB257_273.out; have hnb220 := NB273_278.out; have hnc220 := NB278_273.out; have hnb221 := NB273_283.out; have hnc221 := NB283_273.out; have hnb222 := NB273_289.out; have hnc222 := NB289_273.out
               have hcz223_0 : w191.cell? ⟨gb273, 0, none⟩ = some (.int .i64 t268) := (blk_cell BK273.out 0).trans rfl
               have hcz223_1 : w191.cell? ⟨gb273, 1, none⟩ = some (.slice Ao42 t269.length co42) := (blk_cell BK273.out 1).trans rfl
               have hfz223_0 := blk_frozen BK273.out 0; have hfz223_1 := blk_frozen BK273.out 1
               go_wp2_with (first | ((with_reducible refine gate_callee (f := 22) rfl ?_); refine goesL_ (some 104) rfl rfl Tryd.func22 (by kernel_rfl) rfl #[.agg #[.int .i64 t317, .slice Ao193 t318.length co193], .agg #[.int .i64 t268, .slice Ao42 t269.length co42]] rfl ma_ ?_; (with_reducible refine (laws_eqWhole.calls kj107 t317 _ _ t318 t268 _ _ t269 false _ ?side1 ?side2 ?side3 ?side4 A195.out).mono ?_); (case side1 => refine (Kd.R_reads' (e := 2) (base := w.heap.size) (ok := fun k_ => (some k_ ≠ (v311 : Value).ownBlock ∧ (some k_ ≠ (v315 : Value).ownBlock ∧ (some k_ ≠ (.slice Ao42 t269.length co42 : Value).ownBlock ∧ (some k_ ≠ (.slice Ao52 t302.length co52 : Value).ownBlock ∧ (some k_ ≠ (.slice Ao62 t304.length co62 : Value).ownBlock ∧ some k_ ≠ (.slice Ao72 t285.length co72 : Value).ownBlock)))))) (n := t318.length) (c := co193) ?_).2.2; exact (rg_ HO320 BK322)); (case side2 => exact (Kd.R_reads' HO320.out).2.1); (case side3 => refine (Kd.R_reads' (e := 2) (base := w.heap.size) (ok := fun k_ => (some k_ ≠ (v311 : Value).ownBlock ∧ (some k_ ≠ (v315 : Value).ownBlock ∧ (some k_ ≠ (.slice Ao193 t318.length co193 : Value).ownBlock ∧ (some k_ ≠ (.slice Ao52 t302.length co52 : Value).ownBlock ∧ (some k_ ≠ (.slice Ao62 t304.length co62 : Value).ownBlock ∧ some k_ ≠ (.slice Ao72 t285.length co72 : Value).ownBlock)))))) (n := t269.length) (c := co42) ?_).2.2; exact (rg_ HO_274001 BK322)); (case side4 => exact (Kd.R_reads' HO_274001.out).2.1); rintro e w224 ⟨rfl, hb⟩; refine ⟨_, rfl, ?_⟩; have n0_ := am_ (Kd.R_below (rg_ HO_274001 BK322) hb); have n1_ := am_ (Kd.R_below (rg_ HO_279001 BK322) hb); have n2_ := am_ (Kd.R_below (rg_ HO_284001 BK322) hb); have n3_ := am_ (Kd.R_below (rg_ HO_290001 BK322) hb); have n4_ := am_ (Kd.R_below (rg_ HO312 BK322) hb); have n5_ := am_ (Kd.R_below (rg_ HO316 BK322) hb); have n6_ := am_ (Kd.R_below (rg_ HO320 BK322) hb); have n7_ := am_ (blk_below (bk_ BK256) hb); have n8_ := am_ (blk_below (bk_ BK257) hb); have n9_ := am_ (blk_below (bk_ BK273) hb); have n10_ := am_ (blk_below (bk_ BK278) hb); have n11_ := am_ (blk_below (bk_ BK283) hb); have n12_ := am_ (blk_below (bk_ BK289) hb); have n13_ := am_ (blk_below (g := gb322) (o := .cells #[.int .i64 t317, .slice Ao193 t318.length co193] 28 (0, 0)) (by (with_reducible repeat (first | refine blk_drewN ?_ _ | refine blk_drew ?_ | refine blk_alloc ?_ _)); refine blk_put (cs := #[.int .i64 t317, .slice none 0 0]) ?_ 1 _ rfl; (with_reducible repeat (first | refine blk_drewN ?_ _ | refine blk_drew ?_ | refine blk_alloc ?_ _)); refine blk_put (cs := #[.int .i64 0, .slice none 0 0]) ?_ 0 _ rfl; (with_reducible repeat (first | refine blk_drewN ?_ _ | refine blk_drew ?_ | refine blk_alloc ?_ _)); exact BK322.out) hb); have n14_ := am_ (below_step (bl_ HB) hb); clear HO_274001; clear HO_279001; clear HO_284001; clear HO_290001; clear HO312; clear HO316; clear HO320; clear BK256; clear BK257; clear BK273; clear BK278; clear BK283; clear BK289; clear BK322; clear HB; have HO_274001 := n0_; have HO_279001 := n1_; have HO_284001 := n2_; have HO_290001 := n3_; have HO312 := n4_; have HO316 := n5_; have HO320 := n6_; have BK256 := n7_; have BK257 := n8_; have BK273 := n9_; have BK278 := n10_; have BK283 := n11_; have BK289 := n12_; have BK322 := n13_; have HB := n14_; clear n0_ n1_ n2_ n3_ n4_ n5_ n6_ n7_ n8_ n9_ n10_ n11_ n12_ n13_ n14_; (try clear hb); (try clear hb2); (try clear hk); (try clear hi)))
               go_meet
               case rel => exact ⟨_, (true), (by first | rfl | (simp; done) | (simp [*]; done)), H', ⟨by have := HJ24.out; have := HJ107.out; first | omega | exact Nat.le_refl _⟩, ⟨by (try simp only [hl279001_107]); (try simp only [hl284001_107]); (with_reducible repeat (first | apply Kd.R_alloc | apply Kd.R_drewN | apply Kd.R_drew)); exact Kd.R_mono HO_274001.out (fun _ hk => ⟨hk.2.2.2.1, ⟨hk.2.2.2.2.1, ⟨hk.2.2.2.2.2, hk.2.2.1⟩⟩⟩)⟩, ⟨by (try simp only [hl279001_107]); (try simp only [hl284001_107]); (with_reducible repeat (first | apply Kd.R_alloc | apply Kd.R_drewN | apply Kd.R_drew)); exact Kd.R_mono HO_279001.out (fun _ hk => ⟨hk.2.2.2.1, ⟨hk.2.2.2.2.1, ⟨hk.2.2.2.2.2, hk.2.2.1⟩⟩⟩)⟩, ⟨by (try simp only [hl279001_107]); (try simp only [hl284001_107]); (with_reducible repeat (first | apply Kd.R_alloc | apply Kd.R_drewN | apply Kd.R_drew)); exact Kd.R_mono HO_284001.out (fun _ hk => ⟨hk.2.2.2.1, ⟨hk.2.2.2.2.1, ⟨hk.2.2.2.2.2, hk.2.2.1⟩⟩⟩)⟩, ⟨by (try simp only [hl279001_107]); (try simp only [hl284001_107]); (with_reducible repeat (first | apply Kd.R_alloc | apply Kd.R_drewN | apply Kd.R_drew)); exact Kd.R_mono HO_290001.out (fun _ hk => ⟨hk.2.2.2.1, ⟨hk.2.2.2.2.1, ⟨hk.2.2.2.2.2, hk.2.2.1⟩⟩⟩)⟩, ⟨by (try simp only [hl279001_107]); (try simp only [hl284001_107]); (with_reducible repeat (first | apply Kd.R_alloc | apply Kd.R_drewN | apply Kd.R_drew)); exact Kd.R_mono HO320.out (fun _ hk => ⟨hk.2.2.1, ⟨hk.2.2.2.1, ⟨hk.2.2.2.2.1, hk.2.2.2.2.2⟩⟩⟩)⟩, ⟨by (try simp only [hl279001_107]); (try simp only [hl284001_107]); (with_reducible repeat (first | refine blk_drewN ?_ _ | refine blk_drew ?_ | refine blk_alloc ?_ _)); exact BK256.out⟩, ⟨by (try simp only [hl279001_107]); (try simp only [hl284001_107]); (with_reducible repeat (first | refine blk_drewN ?_ _ | refine blk_drew ?_ | refine blk_alloc ?_ _)); exact BK257.out⟩, ⟨by (try simp only [hl279001_107]); (try simp only [hl284001_107]); (with_reducible repeat (first | refine blk_drewN ?_ _ | refine blk_drew ?_ | refine blk_alloc ?_ _)); exact BK273.out⟩, ⟨by (try simp only [hl279001_107]); (try simp only [hl284001_107]); (with_reducible repeat (first | refine blk_drewN ?_ _ | refine blk_drew ?_ | refine blk_alloc ?_ _)); exact BK278.out⟩, ⟨by (try simp only [hl279001_107]); (try simp only [hl284001_107]); (with_reducible repeat (first | refine blk_drewN ?_ _ | refine blk_drew ?_ | refine blk_alloc ?_ _)); exact BK283.out⟩, ⟨by (try simp only [hl279001_107]); (try simp only [hl284001_107]); (with_reducible repeat (first | refine blk_drewN ?_ _ | refine blk_drew ?_ | refine blk_alloc ?_ _)); exact BK289.out⟩, ⟨by (try simp only [hl279001_107]); (try simp only [hl284001_107]); (with_reducible repeat (first | refine blk_drewN ?_ _ | refine blk_drew ?_ | refine blk_alloc ?_ _)); exact BK322.out⟩, ⟨bl_ HB⟩⟩
             case rest =>
              clear HC174; try clear c1; try clear c2; try clear p2; try clear c3; try clear c19; try clear c20; try clear c21; try clear c22; try clear c38; try clear c196; try clear c197; try clear c198; try clear c199; try clear c200; try clear c201; try clear c202; try clear c204; try clear c205; try clear c206; try clear c207; try clear c208; try clear c211; try clear c212; try clear c213; try clear c214; try clear c215; try clear c216; try clear c218; try clear c219; try clear c220; try clear c221; try clear c222; try clear hcz203_0; try clear hcz203_1; try clear hcz209_0; try clear hcz209_1; try clear hcz217_0; try clear hcz217_1; try clear hcz223_0; try clear hcz223_1; try clear hfz203_0; try clear hfz203_1; try clear hfz209_0; try clear hfz209_1; try clear hfz217_0; try clear hfz217_1; try clear hfz223_0; try clear hfz223_1
              obtain ⟨kq, x110_173, rfl, HA, HJ173, HO_274001, HO_279001, HO_284001, HO_290001, HO_323001, BK256, BK257, BK273, BK278, BK283, BK289, BK322, HB⟩ := hcut
              have hl290001_173 := (Kd.R_reads' HO_290001.out).1
              rw [hl290001_173] at HO_290001
              (try simp only [hl290001_173])
              (try simp only [hl290001_173] at BK256)
              (try simp only [hl290001_173] at BK257)
              (try simp only [hl290001_173] at BK273)
              (try simp only [hl290001_173] at BK278)
              (try simp only [hl290001_173] at BK283)
              (try simp only [hl290001_173] at BK289)
              (try simp only [hl290001_173] at BK322)
              (try simp only [hl290001_173] at HO_274001)
              (try simp only [hl290001_173] at HO_279001)
              (try simp only [hl290001_173] at HO_284001)
              (try simp only [hl290001_173] at HO_323001)
              cases kq with
              | zero => exact absurd HA.out (by simp [laws_FnExactSubtractWholes.j2])
              | succ kj173 =>
               have H := HA.out; clear HA
               simp only [laws_FnExactSubtractWholes.j2] at H
               by_cases c225 : x110_173 = true
               ·subst c225
                have H1 : (some false) = some r := by rw [if_pos rfl] at H; exact H
                clear H; have H := H1; clear H1; obtain rfl := Option.some.inj H
                go_wp2
                go_ret
                exact ⟨by first | rfl | (simp [errW_none, errW_some] <;> rfl) | (simp [*, errW_none, errW_some] <;> rfl), bl_ HB⟩
               ·replace c225 := Bool.eq_false_iff.mpr c225
                subst c225
                have H1 : ((laws_heldWhole.f kj173 t284 t307 1).bind fun t324 => (if t324 < 0 then (some false) else (if t324 = t306 then (some true) else (some false)))) = some r := by rw [if_neg (show ¬ (false = true) by decide)] at H; exact H
                clear H; have H := H1; clear H1
                replace H := Option.bind_eq_some_iff.mp H
                obtain ⟨t324, A2260, H⟩ := H
                replace H : (if t324 < 0 then (some false) else (if t324 = t306 then (some true) else (some false))) = some r := H
                have A226 := Aside0.mk A2260; clear A2260
                by_cases c227 : t324 < 0
                ·rw [if_pos c227] at H
                 have c227b0 : decide (t324 < 0) = true := decide_eq_true c227
                 clear c227; obtain rfl := Option.some.inj H; have hnb228 := NB289_256.out; have hnc228 := NB256_289.out; have hnb229 := NB289_257.out; have hnc229 := NB257_289.out; have hnb230 := NB289_273.out; have hnc230 := NB273_289.out; have hnb231 := NB289_278.out; have hnc231 := NB278_289.out; have hnb232 := NB289_283.out; have hnc232 := NB283_289.out; have hnb233 := NB289_322.out; have hnc233 := NB322_289.out
                 have hcz234_0 : wc.cell? ⟨gb289, 0, none⟩ = some (.int .i64 t284) := (blk_cell BK289.out 0).trans rfl
                 have hcz234_1 : wc.cell? ⟨gb289, 1, none⟩ = some (.slice Ao72 t307.length co72) := (blk_cell BK289.out 1).trans rfl
                 have hfz234_0 := blk_frozen BK289.out 0; have hfz234_1 := blk_frozen BK289.out 1
                 go_wp2_with (first | ((with_reducible refine gate_callee (f := 26) rfl ?_); refine goesL_ (some 113) rfl rfl Tryd.func26 (by kernel_rfl) rfl #[.agg #[.int .i64 t284, .slice Ao72 t307.length co72], .int .i64 1] rfl ma_ ?_; (with_reducible refine (laws_heldWhole.calls kj173 t284 _ _ t307 1 t324 _ ?side1 ?side2 A226.out).mono ?_); (case side1 => repeat (first | exact (Kd.R_reads' HO_290001.out).2.2 | (with_reducible refine Kd.C_alloc ?_ _) | (with_reducible refine Kd.C_drewN ?_ _) | (with_reducible refine Kd.C_drew ?_))); (case side2 => exact (Kd.R_reads' HO_290001.out).2.1); rintro e w235 ⟨rfl, hb⟩; refine ⟨_, rfl, ?_⟩; have n0_ := am_ (Kd.R_below (kr_ HO_274001) hb); have n1_ := am_ (Kd.R_below (kr_ HO_279001) hb); have n2_ := am_ (Kd.R_below (kr_ HO_284001) hb); have n3_ := am_ (Kd.R_below (kr_ HO_290001) hb); have n4_ := am_ (Kd.R_below (kr_ HO_323001) hb); have n5_ := am_ (blk_below (bk_ BK256) hb); have n6_ := am_ (blk_below (bk_ BK257) hb); have n7_ := am_ (blk_below (bk_ BK273) hb); have n8_ := am_ (blk_below (bk_ BK278) hb); have n9_ := am_ (blk_below (bk_ BK283) hb); have n10_ := am_ (blk_below (bk_ BK289) hb); have n11_ := am_ (blk_below (bk_ BK322) hb); have n12_ := am_ (below_step (bl_ HB) hb); clear HO_274001; clear HO_279001; clear HO_284001; clear HO_290001; clear HO_323001; clear BK256; clear BK257; clear BK273; clear BK278; clear BK283; clear BK289; clear BK322; clear HB; have HO_274001 := n0_; have HO_279001 := n1_; have HO_284001 := n2_; have HO_290001 := n3_; have HO_323001 := n4_; have BK256 := n5_; have BK257 := n6_; have BK273 := n7_; have BK278 := n8_; have BK283 := n9_; have BK289 := n10_; have BK322 := n11_; have HB := n12_; clear n0_ n1_ n2_ n3_ n4_ n5_ n6_ n7_ n8_ n9_ n10_ n11_ n12_; (try clear hb); (try clear hb2); (try clear hk); (try clear hi)))
                 go_ret
                 exact ⟨by first | rfl | (simp [errW_none, errW_some] <;> rfl) | (simp [*, errW_none, errW_some] <;> rfl), bl_ HB⟩
                ·rw [if_neg c227] at H
                 have c227b0 : decide (t324 < 0) = false := decide_eq_false c227
                 clear c227
                 by_cases c236 : t324 = t306
                 ·rw [if_pos c236] at H
                  have c236b0 : (t324 == t306) = true := beq_iff_eq.mpr c236
                  have c236b1 : (t324 != t306) = false := bne_eq_false_iff_eq.mpr c236
                  clear c236; obtain rfl := Option.some.inj H; have hnb237 := NB289_256.out; have hnc237 := NB256_289.out; have hnb238 := NB289_257.out; have hnc238 := NB257_289.out; have hnb239 := NB289_273.out; have hnc239 := NB273_289.out; have hnb240 := NB289_278.out; have hnc240 := NB278_289.out; have hnb241 := NB289_283.out; have hnc241 := NB283_289.out; have hnb242 := NB289_322.out; have hnc242 := NB322_289.out
                  have hcz243_0 : wc.cell? ⟨gb289, 0, none⟩ = some (.int .i64 t284) := (blk_cell BK289.out 0).trans rfl
                  have hcz243_1 : wc.cell? ⟨gb289, 1, none⟩ = some (.slice Ao72 t307.length co72) := (blk_cell BK289.out 1).trans rfl
                  have hfz243_0 := blk_frozen BK289.out 0; have hfz243_1 := blk_frozen BK289.out 1
                  go_wp2_with (first | ((with_reducible refine gate_callee (f := 26) rfl ?_); refine goesL_ (some 113) rfl rfl Tryd.func26 (by kernel_rfl) rfl #[.agg #[.int .i64 t284, .slice Ao72 t307.length co72], .int .i64 1] rfl ma_ ?_; (with_reducible refine (laws_heldWhole.calls kj173 t284 _ _ t307 1 t324 _ ?side1 ?side2 A226.out).mono ?_); (case side1 => repeat (first | exact (Kd.R_reads' HO_290001.out).2.2 | (with_reducible refine Kd.C_alloc ?_ _) | (with_reducible refine Kd.C_drewN ?_ _) | (with_reducible refine Kd.C_drew ?_))); (case side2 => exact (Kd.R_reads' HO_290001.out).2.1); rintro e w244 ⟨rfl, hb⟩; refine ⟨_, rfl, ?_⟩; have n0_ := am_ (Kd.R_below (kr_ HO_274001) hb); have n1_ := am_ (Kd.R_below (kr_ HO_279001) hb); have n2_ := am_ (Kd.R_below (kr_ HO_284001) hb); have n3_ := am_ (Kd.R_below (kr_ HO_290001) hb); have n4_ := am_ (Kd.R_below (kr_ HO_323001) hb); have n5_ := am_ (blk_below (bk_ BK256) hb); have n6_ := am_ (blk_below (bk_ BK257) hb); have n7_ := am_ (blk_below (bk_ BK273) hb); have n8_ := am_ (blk_below (bk_ BK278) hb); have n9_ := am_ (blk_below (bk_ BK283) hb); have n10_ := am_ (blk_below (bk_ BK289) hb); have n11_ := am_ (blk_below (bk_ BK322) hb); have n12_ := am_ (below_step (bl_ HB) hb); clear HO_274001; clear HO_279001; clear HO_284001; clear HO_290001; clear HO_323001; clear BK256; clear BK257; clear BK273; clear BK278; clear BK283; clear BK289; clear BK322; clear HB; have HO_274001 := n0_; have HO_279001 := n1_; have HO_284001 := n2_; have HO_290001 := n3_; have HO_323001 := n4_; have BK256 := n5_; have BK257 := n6_; have BK273 := n7_; have BK278 := n8_; have BK283 := n9_; have BK289 := n10_; have BK322 := n11_; have HB := n12_; clear n0_ n1_ n2_ n3_ n4_ n5_ n6_ n7_ n8_ n9_ n10_ n11_ n12_; (try clear hb); (try clear hb2); (try clear hk); (try clear hi)))
                  go_ret
                  exact ⟨by first | rfl | (simp [errW_none, errW_some] <;> rfl) | (simp [*, errW_none, errW_some] <;> rfl), bl_ HB⟩
                 ·rw [if_neg c236] at H
                  have c236b0 : (t324 == t306) = false := beq_eq_false_iff_ne.mpr c236
                  have c236b1 : (t324 != t306) = true := bne_iff_ne.mpr c236
                  obtain rfl := Option.some.inj H; have hnb245 := NB289_256.out; have hnc245 := NB256_289.out; have hnb246 := NB289_257.out; have hnc246 := NB257_289.out; have hnb247 := NB289_273.out; have hnc247 := NB273_289.out; have hnb248 := NB289_278.out; have hnc248 := NB278_289.out; have hnb249 := NB289_283.out; have hnc249 := NB283_289.out; have hnb250 := NB289_322.out; have hnc250 := NB322_289.out
                  have hcz251_0 : wc.cell? ⟨gb289, 0, none⟩ = some (.int .i64 t284) := (blk_cell BK289.out 0).trans rfl
                  have hcz251_1 : wc.cell? ⟨gb289, 1, none⟩ = some (.slice Ao72 t307.length co72) := (blk_cell BK289.out 1).trans rfl
                  have hfz251_0 := blk_frozen BK289.out 0; have hfz251_1 := blk_frozen BK289.out 1
                  go_wp2_with (first | ((with_reducible refine gate_callee (f := 26) rfl ?_); refine goesL_ (some 113) rfl rfl Tryd.func26 (by kernel_rfl) rfl #[.agg #[.int .i64 t284, .slice Ao72 t307.length co72], .int .i64 1] rfl ma_ ?_; (with_reducible refine (laws_heldWhole.calls kj173 t284 _ _ t307 1 t324 _ ?side1 ?side2 A226.out).mono ?_); (case side1 => repeat (first | exact (Kd.R_reads' HO_290001.out).2.2 | (with_reducible refine Kd.C_alloc ?_ _) | (with_reducible refine Kd.C_drewN ?_ _) | (with_reducible refine Kd.C_drew ?_))); (case side2 => exact (Kd.R_reads' HO_290001.out).2.1); rintro e w252 ⟨rfl, hb⟩; refine ⟨_, rfl, ?_⟩; have n0_ := am_ (Kd.R_below (kr_ HO_274001) hb); have n1_ := am_ (Kd.R_below (kr_ HO_279001) hb); have n2_ := am_ (Kd.R_below (kr_ HO_284001) hb); have n3_ := am_ (Kd.R_below (kr_ HO_290001) hb); have n4_ := am_ (Kd.R_below (kr_ HO_323001) hb); have n5_ := am_ (blk_below (bk_ BK256) hb); have n6_ := am_ (blk_below (bk_ BK257) hb); have n7_ := am_ (blk_below (bk_ BK273) hb); have n8_ := am_ (blk_below (bk_ BK278) hb); have n9_ := am_ (blk_below (bk_ BK283) hb); have n10_ := am_ (blk_below (bk_ BK289) hb); have n11_ := am_ (blk_below (bk_ BK322) hb); have n12_ := am_ (below_step (bl_ HB) hb); clear HO_274001; clear HO_279001; clear HO_284001; clear HO_290001; clear HO_323001; clear BK256; clear BK257; clear BK273; clear BK278; clear BK283; clear BK289; clear BK322; clear HB; have HO_274001 := n0_; have HO_279001 := n1_; have HO_284001 := n2_; have HO_290001 := n3_; have HO_323001 := n4_; have BK256 := n5_; have BK257 := n6_; have BK273 := n7_; have BK278 := n8_; have BK283 := n9_; have BK289 := n10_; have BK322 := n11_; have HB := n12_; clear n0_ n1_ n2_ n3_ n4_ n5_ n6_ n7_ n8_ n9_ n10_ n11_ n12_; (try clear hb); (try clear hb2); (try clear hk); (try clear hi)))
                  go_ret
                  exact ⟨by first | rfl | (simp [errW_none, errW_some] <;> rfl) | (simp [*, errW_none, errW_some] <;> rfl), bl_ HB⟩
            ·rw [if_neg c170] at H
             have c170b0 : (t308 == t306) = false := beq_eq_false_iff_ne.mpr c170
             have c170b1 : (t308 != t306) = true := bne_iff_ne.mpr c170
             obtain rfl := Option.some.inj H; have hnb253 := NB289_256.out; have hnc253 := NB256_289.out; have hnb254 := NB289_257.out; have hnc254 := NB257_289.out; have hnb255 := NB289_273.out; have hnc255 := NB273_289.out; have hnb256 := NB289_278.out; have hnc256 := NB278_289.out; have hnb257 := NB289_283.out; have hnc257 := NB283_289.out
             have hcz258_0 : wc.cell? ⟨gb289, 0, none⟩ = some (.int .i64 t284) := (blk_cell BK289.out 0).trans rfl
             have hcz258_1 : wc.cell? ⟨gb289, 1, none⟩ = some (.slice Ao72 t285.length co72) := (blk_cell BK289.out 1).trans rfl
             have hfz258_0 := blk_frozen BK289.out 0; have hfz258_1 := blk_frozen BK289.out 1
             go_wp2_with (first | ((with_reducible refine gate_callee (f := 25) rfl ?_); refine goesL_ (some 85) rfl rfl Tryd.func25 (by kernel_rfl) rfl #[.agg #[.int .i64 t284, .slice Ao72 t285.length co72], .int .i64 1] rfl ma_ ?_; (with_reducible refine (laws_markWhole.calls kj107 t284 (fun k_ => some k_ = (.slice Ao72 t285.length co72 : Value).ownBlock) (.slice Ao72 t285.length co72) t285 1 t306 t307 w _ ?side1 ?side2 A158.out).mono ?_); (case side1 => repeat (first | (with_reducible first | exact HB.out | apply below_alloc | apply pw_below_drewN | apply below_drew1 | refine below_set ?_ GE256.out | refine below_set ?_ GE257.out | refine below_set ?_ GE273.out | refine below_set ?_ GE278.out | refine below_set ?_ GE283.out | refine below_set ?_ GE289.out) | exact HB.out)); (case side2 => exact Kd.R_tight rfl HO_290001.out); rintro e w259 ⟨rfl, hy0, hb, hkp⟩; refine ⟨_, rfl, ?_⟩; have n0_ := am_ (Kd.R_mono (ok' := fun k_ => some k_ ≠ (.slice Ao52 t302.length co52 : Value).ownBlock ∧ some k_ ≠ (.slice Ao62 t304.length co62 : Value).ownBlock ∧ some k_ ≠ (.slice Ao72 t285.length co72 : Value).ownBlock) (Kd.R_keptB (HO_274001.out) hkp (fun k_ hk_ hs_ => (hk_.2.2) hs_)) (fun k_ hk_ => ⟨hk_.1.1, hk_.1.2.1, hk_.1.2.2⟩)); have n1_ := am_ (Kd.R_mono (ok' := fun k_ => some k_ ≠ (.slice Ao42 t269.length co42 : Value).ownBlock ∧ some k_ ≠ (.slice Ao62 t304.length co62 : Value).ownBlock ∧ some k_ ≠ (.slice Ao72 t285.length co72 : Value).ownBlock) (Kd.R_keptB (HO_279001.out) hkp (fun k_ hk_ hs_ => (hk_.2.2) hs_)) (fun k_ hk_ => ⟨hk_.1.1, hk_.1.2.1, hk_.1.2.2⟩)); have n2_ := am_ (Kd.R_mono (ok' := fun k_ => some k_ ≠ (.slice Ao42 t269.length co42 : Value).ownBlock ∧ some k_ ≠ (.slice Ao52 t302.length co52 : Value).ownBlock ∧ some k_ ≠ (.slice Ao72 t285.length co72 : Value).ownBlock) (Kd.R_keptB (HO_284001.out) hkp (fun k_ hk_ hs_ => (hk_.2.2) hs_)) (fun k_ hk_ => ⟨hk_.1.1, hk_.1.2.1, hk_.1.2.2⟩)); have n3_ := am_ (Kd.R_reok rfl hy0 (fun k_ e_ => HO_290001.out.1 k_ e_)); have n4_ := am_ (blk_kept (bk_ BK256) hkp (fun hs_ => (fun e_ => (Kd.R_ne HO_290001.out BK256.out (by decide)) e_) hs_)); have n5_ := am_ (blk_kept (bk_ BK257) hkp (fun hs_ => (fun e_ => (Kd.R_ne HO_290001.out BK257.out (by decide)) e_) hs_)); have n6_ := am_ (blk_kept (bk_ BK273) hkp (fun hs_ => (fun e_ => (Kd.R_ne HO_290001.out BK273.out (by decide)) e_) hs_)); have n7_ := am_ (blk_kept (bk_ BK278) hkp (fun hs_ => (fun e_ => (Kd.R_ne HO_290001.out BK278.out (by decide)) e_) hs_)); have n8_ := am_ (blk_kept (bk_ BK283) hkp (fun hs_ => (fun e_ => (Kd.R_ne HO_290001.out BK283.out (by decide)) e_) hs_)); have n9_ := am_ (blk_kept (bk_ BK289) hkp (fun hs_ => (fun e_ => (Kd.R_ne HO_290001.out BK289.out (by decide)) e_) hs_)); have n10_ := am_ (hb); clear HO_274001; clear HO_279001; clear HO_284001; clear HO_290001; clear BK256; clear BK257; clear BK273; clear BK278; clear BK283; clear BK289; clear HB; have HO_274001 := n0_; have HO_279001 := n1_; have HO_284001 := n2_; have HO_290001 := n3_; have BK256 := n4_; have BK257 := n5_; have BK273 := n6_; have BK278 := n7_; have BK283 := n8_; have BK289 := n9_; have HB := n10_; clear n0_ n1_ n2_ n3_ n4_ n5_ n6_ n7_ n8_ n9_ n10_; (try clear hb); (try clear hkp); (try clear hy0); have hcz260_0 : w259.cell? ⟨gb289, 0, none⟩ = some (.int .i64 t284) := (blk_cell BK289.out 0).trans rfl; have hcz260_1 : w259.cell? ⟨gb289, 1, none⟩ = some (.slice Ao72 t285.length co72) := (blk_cell BK289.out 1).trans rfl; have hfz260_0 := blk_frozen BK289.out 0; have hfz260_1 := blk_frozen BK289.out 1) | ((with_reducible refine gate_callee (f := 26) rfl ?_); refine goesL_ (some 88) rfl rfl Tryd.func26 (by kernel_rfl) rfl #[.agg #[.int .i64 t284, .slice Ao72 t307.length co72], .int .i64 1] rfl (by (try simp only [List.map_toArray, List.map_cons, List.map_nil]); first | done | (rw [show t307.length = t285.length from (Kd.R_reads' HO_290001.out).1.symm] <;> rfl) | rfl | (simp only [List.length_drop, List.length_take]; rfl)) ?_; (with_reducible refine (laws_heldWhole.calls kj107 t284 _ _ t307 1 t308 _ ?side1 ?side2 A159.out).mono ?_); (case side1 => repeat (first | exact (Kd.R_reads' HO_290001.out).2.2 | (with_reducible refine Kd.C_alloc ?_ _) | (with_reducible refine Kd.C_drewN ?_ _) | (with_reducible refine Kd.C_drew ?_))); (case side2 => rw [show t307.length = t285.length from (Kd.R_reads' HO_290001.out).1.symm]; exact (Kd.R_reads' HO_290001.out).2.1); rintro e w261 ⟨rfl, hb⟩; refine ⟨_, rfl, ?_⟩; have n0_ := am_ (Kd.R_below (kr_ HO_274001) hb); have n1_ := am_ (Kd.R_below (kr_ HO_279001) hb); have n2_ := am_ (Kd.R_below (kr_ HO_284001) hb); have n3_ := am_ (Kd.R_below (kr_ HO_290001) hb); have n4_ := am_ (blk_below (bk_ BK256) hb); have n5_ := am_ (blk_below (bk_ BK257) hb); have n6_ := am_ (blk_below (bk_ BK273) hb); have n7_ := am_ (blk_below (bk_ BK278) hb); have n8_ := am_ (blk_below (bk_ BK283) hb); have n9_ := am_ (blk_below (bk_ BK289) hb); have n10_ := am_ (below_step (bl_ HB) hb); clear HO_274001; clear HO_279001; clear HO_284001; clear HO_290001; clear BK256; clear BK257; clear BK273; clear BK278; clear BK283; clear BK289; clear HB; have HO_274001 := n0_; have HO_279001 := n1_; have HO_284001 := n2_; have HO_290001 := n3_; have BK256 := n4_; have BK257 := n5_; have BK273 := n6_; have BK278 := n7_; have BK283 := n8_; have BK289 := n9_; have HB := n10_; clear n0_ n1_ n2_ n3_ n4_ n5_ n6_ n7_ n8_ n9_ n10_; (try clear hb); (try clear hb2); (try clear hk); (try clear hi)))
             go_ret
             exact ⟨by first | rfl | (simp [errW_none, errW_some] <;> rfl) | (simp [*, errW_none, errW_some] <;> rfl), bl_ HB⟩
       ·replace c105 := Bool.eq_false_iff.mpr c105
        subst c105
        have H1 : (some false) = some r := by rw [if_neg (show ¬ (false = true) by decide)] at H; exact H
        clear H; have H := H1; clear H1; obtain rfl := Option.some.inj H
        try go_wp2
        have n0_ := am_ (Kd.R_drew HO_274001.out); have n1_ := am_ (Kd.R_drew HO_279001.out); have n2_ := am_ (Kd.R_drew HO_284001.out); have n3_ := am_ (Kd.R_drew HO_290001.out); have n4_ := am_ (blk_drew BK256.out); have n5_ := am_ (blk_drew BK257.out); have n6_ := am_ (blk_drew BK273.out); have n7_ := am_ (blk_drew BK278.out); have n8_ := am_ (blk_drew BK283.out); have n9_ := am_ (blk_drew BK289.out); have n10_ := am_ (below_drew1 HB.out); clear HO_274001 HO_279001 HO_284001 HO_290001 BK256 BK257 BK273 BK278 BK283 BK289 HB; have HO_274001 := n0_; have HO_279001 := n1_; have HO_284001 := n2_; have HO_290001 := n3_; have BK256 := n4_; have BK257 := n5_; have BK273 := n6_; have BK278 := n7_; have BK283 := n8_; have BK289 := n9_; have HB := n10_; clear n0_ n1_ n2_ n3_ n4_ n5_ n6_ n7_ n8_ n9_ n10_
        refine start_ (n := 5) (S := fun w' => w'.cell? ⟨gb278, 0, none⟩ = some (.int .i64 t274) ∧ w'.cell? ⟨gb278, 1, none⟩ = some (.slice Ao52 t275.length co52) ∧ w'.cell? ⟨gb256, 0, none⟩ = some (.int .i64 a0_0) ∧ w'.cell? ⟨gb256, 1, none⟩ = some (.slice A0_1 l0_1.length c0_1)) (ds := []) #[false, false, false, false, false] (by kernel_rfl) rfl rfl ⟨(blk_cell BK278.out 0).trans rfl, (blk_cell BK278.out 1).trans rfl, (blk_cell BK256.out 0).trans rfl, (blk_cell BK256.out 1).trans rfl⟩ (fun hHeld => ?_)
        generalize wc.drew = w262 at HO_274001 HO_279001 HO_284001 HO_290001 BK256 BK257 BK273 BK278 BK283 BK289 HB hHeld ⊢
        refine take_ (i := 0) (N := some 54) (v := ?_) (a' := ?_) #[true, false, false, false, false] rfl rfl (by kernel_rfl) (fun _ _ _ h => h) (Or.inl ⟨by rfl, ?_⟩) hHeld ?_ ?_
        rotate_left
        ·rintro w' ⟨s0, s1, s2, s3⟩
         go_simp
         with_reducible rfl
        rotate_left
        ·exact nm_
        refine take_ (i := 1) (N := some 55) (v := ?_) (a' := ?_) #[true, true, false, false, false] rfl rfl (by kernel_rfl) (fun _ _ _ h => h) (Or.inl ⟨by rfl, ?_⟩) hHeld ?_ ?_
        rotate_left
        ·rintro w' ⟨s0, s1, s2, s3⟩
         go_simp
         with_reducible rfl
        rotate_left
        ·exact nm_
        refine one_ (i := 2) (N := some 56) #[true, true, true, false, false] rfl rfl (by kernel_rfl) (by decide) (fun K hK => ?_)
        refine goes_ Tryd.func20 (by kernel_rfl) rfl #[.agg #[.int .i64 a0_0, .slice A0_1 l0_1.length c0_1]] (by rfl) rfl rfl ma_ ?_
        with_reducible refine (laws_toWhole.calls kj24 a0_0 _ _ l0_1 t291 t292 _ ?side1 ?side2 A100.out).mono ?_
        (case side1 => repeat (first | exact (Kd.C_below HR0_1.out HB.out) | (with_reducible refine Kd.C_alloc ?_ _) | (with_reducible refine Kd.C_drewN ?_ _) | (with_reducible refine Kd.C_drew ?_)))
        (case side2 => exact HC0_1.out)
        rintro e w263 ⟨v293, rfl, ho0, hb⟩
        refine ⟨_, rfl, ?_⟩
        have n0_ := am_ (Kd.R_elder' (kr_ HO_274001) (Kd.R_base ho0) hb); have n1_ := am_ (Kd.R_elder' (kr_ HO_279001) (Kd.R_base ho0) hb); have n2_ := am_ (Kd.R_elder' (kr_ HO_284001) (Kd.R_base ho0) hb); have n3_ := am_ (Kd.R_elder' (kr_ HO_290001) (Kd.R_base ho0) hb); have n4_ := am_ (Kd.R_lower (Kd.R_new' (Kd.R_new' (Kd.R_new' (Kd.R_new' ho0 (Kd.R_lt (kr_ HO_274001))) (Kd.R_lt (kr_ HO_279001))) (Kd.R_lt (kr_ HO_284001))) (Kd.R_lt (kr_ HO_290001))) (below_size (bl_ HB))); have n5_ := am_ (blk_below (bk_ BK256) hb); have n6_ := am_ (blk_below (bk_ BK257) hb); have n7_ := am_ (blk_below (bk_ BK273) hb); have n8_ := am_ (blk_below (bk_ BK278) hb); have n9_ := am_ (blk_below (bk_ BK283) hb); have n10_ := am_ (blk_below (bk_ BK289) hb); have n11_ := am_ (below_step (bl_ HB) hb); clear HO_274001 HO_279001 HO_284001 HO_290001 BK256 BK257 BK273 BK278 BK283 BK289 HB; have HO_274001 := n0_; have HO_279001 := n1_; have HO_284001 := n2_; have HO_290001 := n3_; have HO294 := n4_; have BK256 := n5_; have BK257 := n6_; have BK273 := n7_; have BK278 := n8_; have BK283 := n9_; have BK289 := n10_; have HB := n11_; clear n0_ n1_ n2_ n3_ n4_ n5_ n6_ n7_ n8_ n9_ n10_ n11_; (try clear hb); (try clear hb2); (try clear hk); (try clear hi); (try clear ho0)
        obtain ⟨Ao264, co264, eo264⟩ := Kd.R_slice HO294.out
        (first | subst eo264 | (injection eo264 with f1_ f2_ f3_; have f4_ := f1_.symm; have f5_ := f3_.symm; clear f1_ f2_ f3_; subst f4_; subst f5_))
        refine hK.out _ _ ⟨(blk_cell BK278.out 0).trans rfl, (blk_cell BK278.out 1).trans rfl, (blk_cell BK256.out 0).trans rfl, (blk_cell BK256.out 1).trans rfl⟩ (fun hHeld => ?_)
        clear hK K
        refine norm_ (a' := ?_) ?_ ?_
        rotate_left
        ·show Act.put _ (some 56) _ = _
         exact nm_
        refine one_ (i := 3) (N := some 57) #[true, true, true, true, false] rfl rfl (by kernel_rfl) (by decide) (fun K hK => ?_)
        refine goes_ Tryd.func22 (by kernel_rfl) rfl #[.agg #[.int .i64 t274, .slice Ao52 t275.length co52], .agg #[.int .i64 t291, .slice Ao264 t292.length co264]] (by rfl) rfl rfl ma_ ?_
        with_reducible refine (laws_eqWhole.calls kj24 t274 _ _ t275 t291 _ _ t292 true _ ?side1 ?side2 ?side3 ?side4 A101.out).mono ?_
        (case side1 => repeat (first | exact (Kd.R_reads' HO_279001.out).2.2 | (with_reducible refine Kd.C_alloc ?_ _) | (with_reducible refine Kd.C_drewN ?_ _) | (with_reducible refine Kd.C_drew ?_)))
        (case side2 => exact (Kd.R_reads' HO_279001.out).2.1)
        (case side3 => repeat (first | exact (Kd.R_reads' HO294.out).2.2 | (with_reducible refine Kd.C_alloc ?_ _) | (with_reducible refine Kd.C_drewN ?_ _) | (with_reducible refine Kd.C_drew ?_)))
        (case side4 => exact (Kd.R_reads' HO294.out).2.1)
        rintro e w265 ⟨rfl, hb⟩
        refine ⟨_, rfl, ?_⟩
        have n0_ := am_ (Kd.R_below (kr_ HO_274001) hb); have n1_ := am_ (Kd.R_below (kr_ HO_279001) hb); have n2_ := am_ (Kd.R_below (kr_ HO_284001) hb); have n3_ := am_ (Kd.R_below (kr_ HO_290001) hb); have n4_ := am_ (Kd.R_below (kr_ HO294) hb); have n5_ := am_ (blk_below (bk_ BK256) hb); have n6_ := am_ (blk_below (bk_ BK257) hb); have n7_ := am_ (blk_below (bk_ BK273) hb); have n8_ := am_ (blk_below (bk_ BK278) hb); have n9_ := am_ (blk_below (bk_ BK283) hb); have n10_ := am_ (blk_below (bk_ BK289) hb); have n11_ := am_ (below_step (bl_ HB) hb); clear HO_274001 HO_279001 HO_284001 HO_290001 HO294 BK256 BK257 BK273 BK278 BK283 BK289 HB; have HO_274001 := n0_; have HO_279001 := n1_; have HO_284001 := n2_; have HO_290001 := n3_; have HO294 := n4_; have BK256 := n5_; have BK257 := n6_; have BK273 := n7_; have BK278 := n8_; have BK283 := n9_; have BK289 := n10_; have HB := n11_; clear n0_ n1_ n2_ n3_ n4_ n5_ n6_ n7_ n8_ n9_ n10_ n11_; (try clear hb); (try clear hb2); (try clear hk); (try clear hi)
        refine hK.out _ _ ⟨(blk_cell BK278.out 0).trans rfl, (blk_cell BK278.out 1).trans rfl, (blk_cell BK256.out 0).trans rfl, (blk_cell BK256.out 1).trans rfl⟩ (fun hHeld => ?_)
        clear hK K
        refine norm_ (a' := ?_) ?_ ?_
        rotate_left
        ·show Act.put _ (some 57) _ = _
         exact nm_
        refine pure_ (i := 4) (N := some 58) (v := ?_) (a' := ?_) #[true, true, true, true, true] rfl rfl (by kernel_rfl) (fun _ _ _ h => h) (Or.inl ⟨by rfl, ?_⟩) ?_ ?_
        rotate_left
        ·intro w'
         go_simp
         with_reducible rfl
        rotate_left
        ·exact nm_
        refine done_ (by kernel_rfl) ?_
        try go_wp2
        have n0_ := am_ (Kd.R_drew HO_274001.out); have n1_ := am_ (Kd.R_drew HO_279001.out); have n2_ := am_ (Kd.R_drew HO_284001.out); have n3_ := am_ (Kd.R_drew HO_290001.out); have n4_ := am_ (Kd.R_drew HO294.out); have n5_ := am_ (blk_drew BK256.out); have n6_ := am_ (blk_drew BK257.out); have n7_ := am_ (blk_drew BK273.out); have n8_ := am_ (blk_drew BK278.out); have n9_ := am_ (blk_drew BK283.out); have n10_ := am_ (blk_drew BK289.out); have n11_ := am_ (below_drew1 HB.out); clear HO_274001 HO_279001 HO_284001 HO_290001 HO294 BK256 BK257 BK273 BK278 BK283 BK289 HB; have HO_274001 := n0_; have HO_279001 := n1_; have HO_284001 := n2_; have HO_290001 := n3_; have HO294 := n4_; have BK256 := n5_; have BK257 := n6_; have BK273 := n7_; have BK278 := n8_; have BK283 := n9_; have BK289 := n10_; have HB := n11_; clear n0_ n1_ n2_ n3_ n4_ n5_ n6_ n7_ n8_ n9_ n10_ n11_
        refine start_ (n := 5) (S := fun w' => w'.cell? ⟨gb283, 0, none⟩ = some (.int .i64 t279) ∧ w'.cell? ⟨gb283, 1, none⟩ = some (.slice Ao62 t280.length co62) ∧ w'.cell? ⟨gb257, 0, none⟩ = some (.int .i64 a1_0) ∧ w'.cell? ⟨gb257, 1, none⟩ = some (.slice A1_1 l1_1.length c1_1)) (ds := []) #[false, false, false, false, false] (by kernel_rfl) rfl rfl ⟨(blk_cell BK283.out 0).trans rfl, (blk_cell BK283.out 1).trans rfl, (blk_cell BK257.out 0).trans rfl, (blk_cell BK257.out 1).trans rfl⟩ (fun hHeld => ?_)
        generalize w265.drew = w266 at HO_274001 HO_279001 HO_284001 HO_290001 HO294 BK256 BK257 BK273 BK278 BK283 BK289 HB hHeld ⊢
        refine take_ (i := 0) (N := some 59) (v := ?_) (a' := ?_) #[true, false, false, false, false] rfl rfl (by kernel_rfl) (fun _ _ _ h => h) (Or.inl ⟨by rfl, ?_⟩) hHeld ?_ ?_
        rotate_left
        ·rintro w' ⟨s0, s1, s2, s3⟩
         go_simp
         with_reducible rfl
        rotate_left
        ·exact nm_
        refine take_ (i := 1) (N := some 60) (v := ?_) (a' := ?_) #[true, true, false, false, false] rfl rfl (by kernel_rfl) (fun _ _ _ h => h) (Or.inl ⟨by rfl, ?_⟩) hHeld ?_ ?_
        rotate_left
        ·rintro w' ⟨s0, s1, s2, s3⟩
         go_simp
         with_reducible rfl
        rotate_left
        ·exact nm_
        refine one_ (i := 2) (N := some 61) #[true, true, true, false, false] rfl rfl (by kernel_rfl) (by decide) (fun K hK => ?_)
        refine goes_ Tryd.func20 (by kernel_rfl) rfl #[.agg #[.int .i64 a1_0, .slice A1_1 l1_1.length c1_1]] (by rfl) rfl rfl ma_ ?_
        with_reducible refine (laws_toWhole.calls kj24 a1_0 _ _ l1_1 t296 t297 _ ?side1 ?side2 A103.out).mono ?_
        (case side1 => repeat (first | exact (Kd.C_below HR1_1.out HB.out) | (with_reducible refine Kd.C_alloc ?_ _) | (with_reducible refine Kd.C_drewN ?_ _) | (with_reducible refine Kd.C_drew ?_)))
        (case side2 => exact HC1_1.out)
        rintro e w267 ⟨v298, rfl, ho0, hb⟩
        refine ⟨_, rfl, ?_⟩
        have n0_ := am_ (Kd.R_elder' (kr_ HO_274001) (Kd.R_base ho0) hb); have n1_ := am_ (Kd.R_elder' (kr_ HO_279001) (Kd.R_base ho0) hb); have n2_ := am_ (Kd.R_elder' (kr_ HO_284001) (Kd.R_base ho0) hb); have n3_ := am_ (Kd.R_elder' (kr_ HO_290001) (Kd.R_base ho0) hb); have n4_ := am_ (Kd.R_elder' (kr_ HO294) (Kd.R_base ho0) hb); have n5_ := am_ (Kd.R_lower (Kd.R_new' (Kd.R_new' (Kd.R_new' (Kd.R_new' (Kd.R_new' ho0 (Kd.R_lt (kr_ HO_274001))) (Kd.R_lt (kr_ HO_279001))) (Kd.R_lt (kr_ HO_284001))) (Kd.R_lt (kr_ HO_290001))) (Kd.R_lt (kr_ HO294))) (below_size (bl_ HB))); have n6_ := am_ (blk_below (bk_ BK256) hb); have n7_ := am_ (blk_below (bk_ BK257) hb); have n8_ := am_ (blk_below (bk_ BK273) hb); have n9_ := am_ (blk_below (bk_ BK278) hb); have n10_ := am_ (blk_below (bk_ BK283) hb); have n11_ := am_ (blk_below (bk_ BK289) hb); have n12_ := am_ (below_step (bl_ HB) hb); clear HO_274001 HO_279001 HO_284001 HO_290001 HO294 BK256 BK257 BK273 BK278 BK283 BK289 HB; have HO_274001 := n0_; have HO_279001 := n1_; have HO_284001 := n2_; have HO_290001 := n3_; have HO294 := n4_; have HO299 := n5_; have BK256 := n6_; have BK257 := n7_; have BK273 := n8_; have BK278 := n9_; have BK283 := n10_; have BK289 := n11_; have HB := n12_; clear n0_ n1_ n2_ n3_ n4_ n5_ n6_ n7_ n8_ n9_ n10_ n11_ n12_; (try clear hb); (try clear hb2); (try clear hk); (try clear hi); (try clear ho0)
        obtain ⟨Ao268, co268, eo268⟩ := Kd.R_slice HO299.out
        (first | subst eo268 | (injection eo268 with f1_ f2_ f3_; have f4_ := f1_.symm; have f5_ := f3_.symm; clear f1_ f2_ f3_; subst f4_; subst f5_))
        refine hK.out _ _ ⟨(blk_cell BK283.out 0).trans rfl, (blk_cell BK283.out 1).trans rfl, (blk_cell BK257.out 0).trans rfl, (blk_cell BK257.out 1).trans rfl⟩ (fun hHeld => ?_)
        clear hK K
        refine norm_ (a' := ?_) ?_ ?_
        rotate_left
        ·show Act.put _ (some 61) _ = _
         exact nm_
        refine one_ (i := 3) (N := some 62) #[true, true, true, true, false] rfl rfl (by kernel_rfl) (by decide) (fun K hK => ?_)
        refine goes_ Tryd.func22 (by kernel_rfl) rfl #[.agg #[.int .i64 t279, .slice Ao62 t280.length co62], .agg #[.int .i64 t296, .slice Ao268 t297.length co268]] (by rfl) rfl rfl ma_ ?_
        with_reducible refine (laws_eqWhole.calls kj24 t279 _ _ t280 t296 _ _ t297 false _ ?side1 ?side2 ?side3 ?side4 A104.out).mono ?_
        (case side1 => repeat (first | exact (Kd.R_reads' HO_284001.out).2.2 | (with_reducible refine Kd.C_alloc ?_ _) | (with_reducible refine Kd.C_drewN ?_ _) | (with_reducible refine Kd.C_drew ?_)))
        (case side2 => exact (Kd.R_reads' HO_284001.out).2.1)
        (case side3 => repeat (first | exact (Kd.R_reads' HO299.out).2.2 | (with_reducible refine Kd.C_alloc ?_ _) | (with_reducible refine Kd.C_drewN ?_ _) | (with_reducible refine Kd.C_drew ?_)))
        (case side4 => exact (Kd.R_reads' HO299.out).2.1)
        rintro e w269 ⟨rfl, hb⟩
        refine ⟨_, rfl, ?_⟩
        have n0_ := am_ (Kd.R_below (kr_ HO_274001) hb); have n1_ := am_ (Kd.R_below (kr_ HO_279001) hb); have n2_ := am_ (Kd.R_below (kr_ HO_284001) hb); have n3_ := am_ (Kd.R_below (kr_ HO_290001) hb); have n4_ := am_ (Kd.R_below (kr_ HO294) hb); have n5_ := am_ (Kd.R_below (kr_ HO299) hb); have n6_ := am_ (blk_below (bk_ BK256) hb); have n7_ := am_ (blk_below (bk_ BK257) hb); have n8_ := am_ (blk_below (bk_ BK273) hb); have n9_ := am_ (blk_below (bk_ BK278) hb); have n10_ := am_ (blk_below (bk_ BK283) hb); have n11_ := am_ (blk_below (bk_ BK289) hb); have n12_ := am_ (below_step (bl_ HB) hb); clear HO_274001 HO_279001 HO_284001 HO_290001 HO294 HO299 BK256 BK257 BK273 BK278 BK283 BK289 HB; have HO_274001 := n0_; have HO_279001 := n1_; have HO_284001 := n2_; have HO_290001 := n3_; have HO294 := n4_; have HO299 := n5_; have BK256 := n6_; have BK257 := n7_; have BK273 := n8_; have BK278 := n9_; have BK283 := n10_; have BK289 := n11_; have HB := n12_; clear n0_ n1_ n2_ n3_ n4_ n5_ n6_ n7_ n8_ n9_ n10_ n11_ n12_; (try clear hb); (try clear hb2); (try clear hk); (try clear hi)
        refine hK.out _ _ ⟨(blk_cell BK283.out 0).trans rfl, (blk_cell BK283.out 1).trans rfl, (blk_cell BK257.out 0).trans rfl, (blk_cell BK257.out 1).trans rfl⟩ (fun hHeld => ?_)
        clear hK K
        refine norm_ (a' := ?_) ?_ ?_
        rotate_left
        ·show Act.put _ (some 62) _ = _
         exact nm_
        refine pure_ (i := 4) (N := some 63) (v := ?_) (a' := ?_) #[true, true, true, true, true] rfl rfl (by kernel_rfl) (fun _ _ _ h => h) (Or.inl ⟨by rfl, ?_⟩) ?_ ?_
        rotate_left
        ·intro w'
         go_simp
         with_reducible rfl
        rotate_left
        ·exact nm_
        refine done_ (by kernel_rfl) ?_
        try go_wp2
        go_ret
        exact ⟨by first | rfl | (simp [errW_none, errW_some] <;> rfl) | (simp [*, errW_none, errW_some] <;> rfl), bl_ HB⟩
      ·replace c102 := Bool.eq_false_iff.mpr c102
       subst c102
       have H1 : (some false) = some r := by rw [if_neg (show ¬ (false = true) by decide)] at H; exact H
       clear H; have H := H1; clear H1; obtain rfl := Option.some.inj H
       try go_wp2
       have n0_ := am_ (Kd.R_drew HO_274001.out); have n1_ := am_ (Kd.R_drew HO_279001.out); have n2_ := am_ (Kd.R_drew HO_284001.out); have n3_ := am_ (Kd.R_drew HO_290001.out); have n4_ := am_ (blk_drew BK256.out); have n5_ := am_ (blk_drew BK257.out); have n6_ := am_ (blk_drew BK273.out); have n7_ := am_ (blk_drew BK278.out); have n8_ := am_ (blk_drew BK283.out); have n9_ := am_ (blk_drew BK289.out); have n10_ := am_ (below_drew1 HB.out); clear HO_274001 HO_279001 HO_284001 HO_290001 BK256 BK257 BK273 BK278 BK283 BK289 HB; have HO_274001 := n0_; have HO_279001 := n1_; have HO_284001 := n2_; have HO_290001 := n3_; have BK256 := n4_; have BK257 := n5_; have BK273 := n6_; have BK278 := n7_; have BK283 := n8_; have BK289 := n9_; have HB := n10_; clear n0_ n1_ n2_ n3_ n4_ n5_ n6_ n7_ n8_ n9_ n10_
       refine start_ (n := 5) (S := fun w' => w'.cell? ⟨gb278, 0, none⟩ = some (.int .i64 t274) ∧ w'.cell? ⟨gb278, 1, none⟩ = some (.slice Ao52 t275.length co52) ∧ w'.cell? ⟨gb256, 0, none⟩ = some (.int .i64 a0_0) ∧ w'.cell? ⟨gb256, 1, none⟩ = some (.slice A0_1 l0_1.length c0_1)) (ds := []) #[false, false, false, false, false] (by kernel_rfl) rfl rfl ⟨(blk_cell BK278.out 0).trans rfl, (blk_cell BK278.out 1).trans rfl, (blk_cell BK256.out 0).trans rfl, (blk_cell BK256.out 1).trans rfl⟩ (fun hHeld => ?_)
       generalize wc.drew = w270 at HO_274001 HO_279001 HO_284001 HO_290001 BK256 BK257 BK273 BK278 BK283 BK289 HB hHeld ⊢
       refine take_ (i := 0) (N := some 54) (v := ?_) (a' := ?_) #[true, false, false, false, false] rfl rfl (by kernel_rfl) (fun _ _ _ h => h) (Or.inl ⟨by rfl, ?_⟩) hHeld ?_ ?_
       rotate_left
       ·rintro w' ⟨s0, s1, s2, s3⟩
        go_simp
        with_reducible rfl
       rotate_left
       ·exact nm_
       refine take_ (i := 1) (N := some 55) (v := ?_) (a' := ?_) #[true, true, false, false, false] rfl rfl (by kernel_rfl) (fun _ _ _ h => h) (Or.inl ⟨by rfl, ?_⟩) hHeld ?_ ?_
       rotate_left
       ·rintro w' ⟨s0, s1, s2, s3⟩
        go_simp
        with_reducible rfl
       rotate_left
       ·exact nm_
       refine one_ (i := 2) (N := some 56) #[true, true, true, false, false] rfl rfl (by kernel_rfl) (by decide) (fun K hK => ?_)
       refine goes_ Tryd.func20 (by kernel_rfl) rfl #[.agg #[.int .i64 a0_0, .slice A0_1 l0_1.length c0_1]] (by rfl) rfl rfl ma_ ?_
       with_reducible refine (laws_toWhole.calls kj24 a0_0 _ _ l0_1 t291 t292 _ ?side1 ?side2 A100.out).mono ?_
       (case side1 => repeat (first | exact (Kd.C_below HR0_1.out HB.out) | (with_reducible refine Kd.C_alloc ?_ _) | (with_reducible refine Kd.C_drewN ?_ _) | (with_reducible refine Kd.C_drew ?_)))
       (case side2 => exact HC0_1.out)
       rintro e w271 ⟨v293, rfl, ho0, hb⟩
       refine ⟨_, rfl, ?_⟩
       have n0_ := am_ (Kd.R_elder' (kr_ HO_274001) (Kd.R_base ho0) hb); have n1_ := am_ (Kd.R_elder' (kr_ HO_279001) (Kd.R_base ho0) hb); have n2_ := am_ (Kd.R_elder' (kr_ HO_284001) (Kd.R_base ho0) hb); have n3_ := am_ (Kd.R_elder' (kr_ HO_290001) (Kd.R_base ho0) hb); have n4_ := am_ (Kd.R_lower (Kd.R_new' (Kd.R_new' (Kd.R_new' (Kd.R_new' ho0 (Kd.R_lt (kr_ HO_274001))) (Kd.R_lt (kr_ HO_279001))) (Kd.R_lt (kr_ HO_284001))) (Kd.R_lt (kr_ HO_290001))) (below_size (bl_ HB))); have n5_ := am_ (blk_below (bk_ BK256) hb); have n6_ := am_ (blk_below (bk_ BK257) hb); have n7_ := am_ (blk_below (bk_ BK273) hb); have n8_ := am_ (blk_below (bk_ BK278) hb); have n9_ := am_ (blk_below (bk_ BK283) hb); have n10_ := am_ (blk_below (bk_ BK289) hb); have n11_ := am_ (below_step (bl_ HB) hb); clear HO_274001 HO_279001 HO_284001 HO_290001 BK256 BK257 BK273 BK278 BK283 BK289 HB; have HO_274001 := n0_; have HO_279001 := n1_; have HO_284001 := n2_; have HO_290001 := n3_; have HO294 := n4_; have BK256 := n5_; have BK257 := n6_; have BK273 := n7_; have BK278 := n8_; have BK283 := n9_; have BK289 := n10_; have HB := n11_; clear n0_ n1_ n2_ n3_ n4_ n5_ n6_ n7_ n8_ n9_ n10_ n11_; (try clear hb); (try clear hb2); (try clear hk); (try clear hi); (try clear ho0)
       obtain ⟨Ao272, co272, eo272⟩ := Kd.R_slice HO294.out
       (first | subst eo272 | (injection eo272 with f1_ f2_ f3_; have f4_ := f1_.symm; have f5_ := f3_.symm; clear f1_ f2_ f3_; subst f4_; subst f5_))
       refine hK.out _ _ ⟨(blk_cell BK278.out 0).trans rfl, (blk_cell BK278.out 1).trans rfl, (blk_cell BK256.out 0).trans rfl, (blk_cell BK256.out 1).trans rfl⟩ (fun hHeld => ?_)
       clear hK K
       refine norm_ (a' := ?_) ?_ ?_
       rotate_left
       ·show Act.put _ (some 56) _ = _
        exact nm_
       refine one_ (i := 3) (N := some 57) #[true, true, true, true, false] rfl rfl (by kernel_rfl) (by decide) (fun K hK => ?_)
       refine goes_ Tryd.func22 (by kernel_rfl) rfl #[.agg #[.int .i64 t274, .slice Ao52 t275.length co52], .agg #[.int .i64 t291, .slice Ao272 t292.length co272]] (by rfl) rfl rfl ma_ ?_
       with_reducible refine (laws_eqWhole.calls kj24 t274 _ _ t275 t291 _ _ t292 false _ ?side1 ?side2 ?side3 ?side4 A101.out).mono ?_
       (case side1 => repeat (first | exact (Kd.R_reads' HO_279001.out).2.2 | (with_reducible refine Kd.C_alloc ?_ _) | (with_reducible refine Kd.C_drewN ?_ _) | (with_reducible refine Kd.C_drew ?_)))
       (case side2 => exact (Kd.R_reads' HO_279001.out).2.1)
       (case side3 => repeat (first | exact (Kd.R_reads' HO294.out).2.2 | (with_reducible refine Kd.C_alloc ?_ _) | (with_reducible refine Kd.C_drewN ?_ _) | (with_reducible refine Kd.C_drew ?_)))
       (case side4 => exact (Kd.R_reads' HO294.out).2.1)
       rintro e w273 ⟨rfl, hb⟩
       refine ⟨_, rfl, ?_⟩
       have n0_ := am_ (Kd.R_below (kr_ HO_274001) hb); have n1_ := am_ (Kd.R_below (kr_ HO_279001) hb); have n2_ := am_ (Kd.R_below (kr_ HO_284001) hb); have n3_ := am_ (Kd.R_below (kr_ HO_290001) hb); have n4_ := am_ (Kd.R_below (kr_ HO294) hb); have n5_ := am_ (blk_below (bk_ BK256) hb); have n6_ := am_ (blk_below (bk_ BK257) hb); have n7_ := am_ (blk_below (bk_ BK273) hb); have n8_ := am_ (blk_below (bk_ BK278) hb); have n9_ := am_ (blk_below (bk_ BK283) hb); have n10_ := am_ (blk_below (bk_ BK289) hb); have n11_ := am_ (below_step (bl_ HB) hb); clear HO_274001 HO_279001 HO_284001 HO_290001 HO294 BK256 BK257 BK273 BK278 BK283 BK289 HB; have HO_274001 := n0_; have HO_279001 := n1_; have HO_284001 := n2_; have HO_290001 := n3_; have HO294 := n4_; have BK256 := n5_; have BK257 := n6_; have BK273 := n7_; have BK278 := n8_; have BK283 := n9_; have BK289 := n10_; have HB := n11_; clear n0_ n1_ n2_ n3_ n4_ n5_ n6_ n7_ n8_ n9_ n10_ n11_; (try clear hb); (try clear hb2); (try clear hk); (try clear hi)
       refine hK.out _ _ ⟨(blk_cell BK278.out 0).trans rfl, (blk_cell BK278.out 1).trans rfl, (blk_cell BK256.out 0).trans rfl, (blk_cell BK256.out 1).trans rfl⟩ (fun hHeld => ?_)
       clear hK K
       refine norm_ (a' := ?_) ?_ ?_
       rotate_left
       ·show Act.put _ (some 57) _ = _
        exact nm_
       refine pure_ (i := 4) (N := some 58) (v := ?_) (a' := ?_) #[true, true, true, true, true] rfl rfl (by kernel_rfl) (fun _ _ _ h => h) (Or.inl ⟨by rfl, ?_⟩) ?_ ?_
       rotate_left
       ·intro w'
        go_simp
        with_reducible rfl
       rotate_left
       ·exact nm_
       refine done_ (by kernel_rfl) ?_
       try go_wp2
       go_ret
       exact ⟨by first | rfl | (simp [errW_none, errW_some] <;> rfl) | (simp [*, errW_none, errW_some] <;> rfl), bl_ HB⟩

end Go.Proofs.YtbmjakaoniegfaaDoor.X
