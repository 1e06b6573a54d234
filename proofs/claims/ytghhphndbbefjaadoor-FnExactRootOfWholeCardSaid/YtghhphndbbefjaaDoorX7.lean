/- Functions of the program as plain Lean functions, each with a proof that its call does what that function says. Printed by a program over the kit's print; conditions stand in each contract. -/
import Derived.Test.YtghhphndbbefjaaDoorSq
import Derived.Test.YtghhphndbbefjaaDoorBnd9
import Derived.Test.YtghhphndbbefjaaDoorX0
import Derived.Test.YtghhphndbbefjaaDoorX1
import Derived.Test.YtghhphndbbefjaaDoorX6
namespace Go.Proofs.YtghhphndbbefjaaDoor.X
open Go.RowKit Go.Proofs.YtghhphndbbefjaaDoorW.PrintWords Go.Proofs.YtghhphndbbefjaaDoorW.PrintLast Go.Proofs.YtghhphndbbefjaaDoorW.PrintMore Go.Proofs.YtghhphndbbefjaaDoor.Sq
attribute [local go_sem] max2_int min2_int max_two min_two max_three min_three max_four min_four   -- for this text's walks alone
set_option linter.unusedVariables false
set_option linter.unusedSimpArgs false

/-! ### laws_FnExactRootOfWhole: function 5 -/
mutual
def laws_FnExactRootOfWhole.j0 : Nat → Int → Int → Bool → Int → List Int → Int → List Int → Int → List Int → Int → List Int → Option (Bool)
  | 0, _, _, _, _, _, _, _, _, _, _, _ => none
  | k + 1, x5, x8, x40, x297000, x297001, x308000, x308001, x313000, x313001, x319000, x319001 => if x40 = true then (some false) else ((laws_toWhole.f k x297000 x297001).bind fun bt320 => ((laws_eqWhole.f k x313000 x313001 bt320.1 bt320.2).bind fun t324 => (if t324 = true then ((laws_markWhole.f k x313000 x313001 1).bind fun bt325 => (if bt325.1 < 0 then (laws_FnExactRootOfWhole.j1 k x5 true x297000 x297001 x308000 x308001 x319000 x319001) else ((laws_eqWhole.f k x319000 x319001 x308000 x308001).bind fun t327 => (if t327 = true then (laws_FnExactRootOfWhole.j1 k x5 (x8 != x5) x297000 x297001 x308000 x308001 x319000 x319001) else (laws_FnExactRootOfWhole.j1 k x5 true x297000 x297001 x308000 x308001 x319000 x319001))))) else (some false))))
def laws_FnExactRootOfWhole.j1 : Nat → Int → Bool → Int → List Int → Int → List Int → Int → List Int → Option (Bool)
  | 0, _, _, _, _, _, _, _, _ => none
  | k + 1, x5, x61, x297000, x297001, x308000, x308001, x319000, x319001 => if x61 = true then (some false) else ((laws_markWhole.f k x319000 x319001 1).bind fun bt328 => ((laws_heldWhole.f k x319000 bt328.2 1).bind fun t330 => (if t330 < 0 then (some false) else (if t330 = bt328.1 then ((laws_toWhole.f k x297000 x297001).bind fun bt331 => ((impl_RootOfWhole.f bt331.1 bt331.2).bind fun bt335 => ((laws_eqWhole.f k bt335.1 bt335.2.1 x308000 x308001).bind fun t341 => (if t341 = true then (laws_FnExactRootOfWhole.j2 k bt328.1 (bt335.2.2 != x5) x319000 bt328.2) else (laws_FnExactRootOfWhole.j2 k bt328.1 true x319000 bt328.2))))) else (some false)))))
def laws_FnExactRootOfWhole.j2 : Nat → Int → Bool → Int → List Int → Option (Bool)
  | 0, _, _, _, _ => none
  | k + 1, x10, x87, x319000, x319001 => if x87 = true then (some false) else ((laws_heldWhole.f k x319000 x319001 1).bind fun t342 => (if t342 < 0 then (some false) else (if t342 = x10 then (some true) else (some false))))
end
def laws_FnExactRootOfWhole.f (k : Nat) (a0_0 : Int) (l0_1 : List Int) : Option (Bool) := (laws_szWhole.f a0_0 l0_1 1048576).bind fun t297 => (if t297 < 0 then (some true) else ((laws_toWhole.f k a0_0 l0_1).bind fun bt298 => ((spec_RootOfWhole.f k bt298.1 bt298.2).bind fun bt302 => ((laws_toWhole.f k a0_0 l0_1).bind fun bt308 => ((impl_RootOfWhole.f bt308.1 bt308.2).bind fun bt313 => ((laws_eqWhole.f k bt313.1 bt313.2.1 bt302.1 bt302.2.1).bind fun t319 => (if t319 = true then (laws_FnExactRootOfWhole.j0 k bt302.2.2 bt313.2.2 (bt313.2.2 != bt302.2.2) a0_0 l0_1 bt302.1 bt302.2.1 bt308.1 bt308.2 bt313.1 bt313.2.1) else (laws_FnExactRootOfWhole.j0 k bt302.2.2 bt313.2.2 true a0_0 l0_1 bt302.1 bt302.2.1 bt308.1 bt308.2 bt313.1 bt313.2.1))))))))
theorem laws_FnExactRootOfWhole.mono_l : ∀ k, (∀ y0 y1 y2 y3 y4 y5 y6 y7 y8 y9 y10, LeO (laws_FnExactRootOfWhole.j0 k y0 y1 y2 y3 y4 y5 y6 y7 y8 y9 y10) (laws_FnExactRootOfWhole.j0 (k + 1) y0 y1 y2 y3 y4 y5 y6 y7 y8 y9 y10)) ∧ (∀ y0 y1 y2 y3 y4 y5 y6 y7, LeO (laws_FnExactRootOfWhole.j1 k y0 y1 y2 y3 y4 y5 y6 y7) (laws_FnExactRootOfWhole.j1 (k + 1) y0 y1 y2 y3 y4 y5 y6 y7)) ∧ (∀ y0 y1 y2 y3, LeO (laws_FnExactRootOfWhole.j2 k y0 y1 y2 y3) (laws_FnExactRootOfWhole.j2 (k + 1) y0 y1 y2 y3))
  | 0 => ⟨fun _ _ _ _ _ _ _ _ _ _ _ r h => by simp [laws_FnExactRootOfWhole.j0] at h, fun _ _ _ _ _ _ _ _ r h => by simp [laws_FnExactRootOfWhole.j1] at h, fun _ _ _ _ r h => by simp [laws_FnExactRootOfWhole.j2] at h⟩
  | k + 1 => by
    obtain ⟨ih0, ih1, ih2⟩ := laws_FnExactRootOfWhole.mono_l k
    refine ⟨?_, ?_, ?_⟩
    · intro y0 y1 y2 y3 y4 y5 y6 y7 y8 y9 y10
      unfold laws_FnExactRootOfWhole.j0
      repeat' first
      | (with_reducible exact ih0 _ _ _ _ _ _ _ _ _ _ _)
      | (with_reducible exact ih1 _ _ _ _ _ _ _ _)
      | (with_reducible exact ih2 _ _ _ _)
      | (with_reducible exact laws_eqWhole.mono _ _ _ _ _)
      | (with_reducible exact laws_heldWhole.mono _ _ _ _)
      | (with_reducible exact laws_markWhole.mono _ _ _ _)
      | (with_reducible exact laws_toWhole.mono _ _ _)
      | (with_reducible exact spec_RootOfWhole.mono _ _ _)
      | (with_reducible exact LeO.refl _)
      | (with_reducible exact LeO.none _)
      | (with_reducible refine LeO.ite ?_ ?_)
      | (with_reducible refine LeO.bind ?_ (fun _ => ?_))
      | exact ih0 _ _ _ _ _ _ _ _ _ _ _
      | exact ih1 _ _ _ _ _ _ _ _
      | exact ih2 _ _ _ _
      | exact laws_eqWhole.mono _ _ _ _ _
      | exact laws_heldWhole.mono _ _ _ _
      | exact laws_markWhole.mono _ _ _ _
      | exact laws_toWhole.mono _ _ _
      | exact spec_RootOfWhole.mono _ _ _
      | exact LeO.none _
      | refine LeO.ite ?_ ?_
      | refine LeO.bind ?_ (fun _ => ?_)
    · intro y0 y1 y2 y3 y4 y5 y6 y7
      unfold laws_FnExactRootOfWhole.j1
      repeat' first
      | (with_reducible exact ih0 _ _ _ _ _ _ _ _ _ _ _)
      | (with_reducible exact ih1 _ _ _ _ _ _ _ _)
      | (with_reducible exact ih2 _ _ _ _)
      | (with_reducible exact laws_eqWhole.mono _ _ _ _ _)
      | (with_reducible exact laws_heldWhole.mono _ _ _ _)
      | (with_reducible exact laws_markWhole.mono _ _ _ _)
      | (with_reducible exact laws_toWhole.mono _ _ _)
      | (with_reducible exact spec_RootOfWhole.mono _ _ _)
      | (with_reducible exact LeO.refl _)
      | (with_reducible exact LeO.none _)
      | (with_reducible refine LeO.ite ?_ ?_)
      | (with_reducible refine LeO.bind ?_ (fun _ => ?_))
      | exact ih0 _ _ _ _ _ _ _ _ _ _ _
      | exact ih1 _ _ _ _ _ _ _ _
      | exact ih2 _ _ _ _
      | exact laws_eqWhole.mono _ _ _ _ _
      | exact laws_heldWhole.mono _ _ _ _
      | exact laws_markWhole.mono _ _ _ _
      | exact laws_toWhole.mono _ _ _
      | exact spec_RootOfWhole.mono _ _ _
      | exact LeO.none _
      | refine LeO.ite ?_ ?_
      | refine LeO.bind ?_ (fun _ => ?_)
    · intro y0 y1 y2 y3
      unfold laws_FnExactRootOfWhole.j2
      repeat' first
      | (with_reducible exact ih0 _ _ _ _ _ _ _ _ _ _ _)
      | (with_reducible exact ih1 _ _ _ _ _ _ _ _)
      | (with_reducible exact ih2 _ _ _ _)
      | (with_reducible exact laws_eqWhole.mono _ _ _ _ _)
      | (with_reducible exact laws_heldWhole.mono _ _ _ _)
      | (with_reducible exact laws_markWhole.mono _ _ _ _)
      | (with_reducible exact laws_toWhole.mono _ _ _)
      | (with_reducible exact spec_RootOfWhole.mono _ _ _)
      | (with_reducible exact LeO.refl _)
      | (with_reducible exact LeO.none _)
      | (with_reducible refine LeO.ite ?_ ?_)
      | (with_reducible refine LeO.bind ?_ (fun _ => ?_))
      | exact ih0 _ _ _ _ _ _ _ _ _ _ _
      | exact ih1 _ _ _ _ _ _ _ _
      | exact ih2 _ _ _ _
      | exact laws_eqWhole.mono _ _ _ _ _
      | exact laws_heldWhole.mono _ _ _ _
      | exact laws_markWhole.mono _ _ _ _
      | exact laws_toWhole.mono _ _ _
      | exact spec_RootOfWhole.mono _ _ _
      | exact LeO.none _
      | refine LeO.ite ?_ ?_
      | refine LeO.bind ?_ (fun _ => ?_)
theorem laws_FnExactRootOfWhole.mono : ∀ a0 a1 k, LeO (laws_FnExactRootOfWhole.f k a0 a1) (laws_FnExactRootOfWhole.f (k + 1) a0 a1) := by
  intro a0 a1 k
  obtain ⟨ih0, ih1, ih2⟩ := laws_FnExactRootOfWhole.mono_l k
  unfold laws_FnExactRootOfWhole.f
  repeat' first
      | (with_reducible exact ih0 _ _ _ _ _ _ _ _ _ _ _)
      | (with_reducible exact ih1 _ _ _ _ _ _ _ _)
      | (with_reducible exact ih2 _ _ _ _)
      | (with_reducible exact laws_eqWhole.mono _ _ _ _ _)
      | (with_reducible exact laws_heldWhole.mono _ _ _ _)
      | (with_reducible exact laws_markWhole.mono _ _ _ _)
      | (with_reducible exact laws_toWhole.mono _ _ _)
      | (with_reducible exact spec_RootOfWhole.mono _ _ _)
      | (with_reducible exact LeO.refl _)
      | (with_reducible exact LeO.none _)
      | (with_reducible refine LeO.ite ?_ ?_)
      | (with_reducible refine LeO.bind ?_ (fun _ => ?_))
      | exact ih0 _ _ _ _ _ _ _ _ _ _ _
      | exact ih1 _ _ _ _ _ _ _ _
      | exact ih2 _ _ _ _
      | exact laws_eqWhole.mono _ _ _ _ _
      | exact laws_heldWhole.mono _ _ _ _
      | exact laws_markWhole.mono _ _ _ _
      | exact laws_toWhole.mono _ _ _
      | exact spec_RootOfWhole.mono _ _ _
      | exact LeO.none _
      | refine LeO.ite ?_ ?_
      | refine LeO.bind ?_ (fun _ => ?_)
set_option maxHeartbeats 8000000 in
set_option maxRecDepth 100000 in
theorem laws_FnExactRootOfWhole.calls (k : Nat) (a0_0 : Int) (A0_1 : Option Addr) (c0_1 : Nat) (l0_1 : List Int) (r : Bool) (w : World) (hr0_1 : Kd.C (Kd.int .i64) w A0_1 l0_1.length l0_1) (hc0_1 : l0_1.length ≤ c0_1) (h : laws_FnExactRootOfWhole.f k a0_0 l0_1 = some r) :
  Calls Tryd.prog 5 #[.agg #[.int .i64 a0_0, .slice A0_1 l0_1.length c0_1]] w fun e w' => e = .returned (.bool r) ∧ Below w.heap.size w w' := by
 have hu24 := Tryd.underlying24; have hu26 := Tryd.underlying26; have HR0_1 := Aside0.mk hr0_1; have HC0_1 := Aside0.mk hc0_1; clear hr0_1 hc0_1; have HB := am_ (Below.refl w.heap.size w)
 have H : ((laws_szWhole.f a0_0 l0_1 1048576).bind fun t297 => (if t297 < 0 then (some true) else ((laws_toWhole.f k a0_0 l0_1).bind fun bt298 => ((spec_RootOfWhole.f k bt298.1 bt298.2).bind fun bt302 => ((laws_toWhole.f k a0_0 l0_1).bind fun bt308 => ((impl_RootOfWhole.f bt308.1 bt308.2).bind fun bt313 => ((laws_eqWhole.f k bt313.1 bt313.2.1 bt302.1 bt302.2.1).bind fun t319 => (if t319 = true then (laws_FnExactRootOfWhole.j0 k bt302.2.2 bt313.2.2 (bt313.2.2 != bt302.2.2) a0_0 l0_1 bt302.1 bt302.2.1 bt308.1 bt308.2 bt313.1 bt313.2.1) else (laws_FnExactRootOfWhole.j0 k bt302.2.2 bt313.2.2 true a0_0 l0_1 bt302.1 bt302.2.1 bt308.1 bt308.2 bt313.1 bt313.2.1))))))))) = some r := h
 clear h
 replace H := Option.bind_eq_some_iff.mp H
 obtain ⟨t297, A20, H⟩ := H
 replace H : (if t297 < 0 then (some true) else ((laws_toWhole.f k a0_0 l0_1).bind fun bt298 => ((spec_RootOfWhole.f k bt298.1 bt298.2).bind fun bt302 => ((laws_toWhole.f k a0_0 l0_1).bind fun bt308 => ((impl_RootOfWhole.f bt308.1 bt308.2).bind fun bt313 => ((laws_eqWhole.f k bt313.1 bt313.2.1 bt302.1 bt302.2.1).bind fun t319 => (if t319 = true then (laws_FnExactRootOfWhole.j0 k bt302.2.2 bt313.2.2 (bt313.2.2 != bt302.2.2) a0_0 l0_1 bt302.1 bt302.2.1 bt308.1 bt308.2 bt313.1 bt313.2.1) else (laws_FnExactRootOfWhole.j0 k bt302.2.2 bt313.2.2 true a0_0 l0_1 bt302.1 bt302.2.1 bt308.1 bt308.2 bt313.1 bt313.2.1)))))))) = some r := H
 have A2 := Aside0.mk A20; clear A20
 by_cases c3 : t297 < 0
 ·rw [if_pos c3] at H
  have c3b0 : decide (t297 < 0) = true := decide_eq_true c3
  clear c3; obtain rfl := Option.some.inj H
  go_enter Tryd.func5, Tryd.ntmps5
  go_wp2_with (first | ((with_reducible refine gate_dst (N := 1) rfl ?_); refine box_event ?hg (N := 1) ?hd (cs := #[.int .i64 a0_0, .slice A0_1 l0_1.length c0_1]) (t := 24) ?hr ?_; (case hd => rfl); (case hg => rfl); (case hr => first | (go_simp; done) | (go_simp; rfl)); intro gb296 hg w4 hbox hb; have BK296 := am_ (hbox); have GW296 := am_ (gs_ hg HB); have GE296 := am_ (gs_ hg HB); replace HB := am_ (below_step (bl_ HB) hb); clear hb hbox hg; have hcz5_0 : w4.cell? ⟨gb296, 0, none⟩ = some (.int .i64 a0_0) := bc_ BK296 0; have hcz5_1 : w4.cell? ⟨gb296, 1, none⟩ = some (.slice A0_1 l0_1.length c0_1) := bc_ BK296 1; have hfz5_0 := blk_frozen BK296.out 0; have hfz5_1 := blk_frozen BK296.out 1) | ((with_reducible refine gate_callee (f := 11) rfl ?_); refine goesL_ (some 16) rfl rfl Tryd.func11 (by kernel_rfl) rfl #[.agg #[.int .i64 a0_0, .slice A0_1 l0_1.length c0_1], .int .i64 1048576] rfl ma_ ?_; (with_reducible refine (laws_szWhole.calls a0_0 _ _ l0_1 1048576 t297 _ ?side1 ?side2 A2.out).mono ?_); (case side1 => exact cb_ HR0_1 HB); (case side2 => exact HC0_1.out); rintro e w6 ⟨rfl, hb⟩; refine ⟨_, rfl, ?_⟩; replace BK296 := am_ (blk_below (bk_ BK296) hb); replace HB := am_ (below_step (bl_ HB) hb); (try clear hb); (try clear hb2); (try clear hk); (try clear hi)))
  go_ret
  exact ⟨by first | rfl | (simp [errW_none, errW_some] <;> rfl) | (simp [*, errW_none, errW_some] <;> rfl), bl_ HB⟩
 ·rw [if_neg c3] at H
  have c3b0 : decide (t297 < 0) = false := decide_eq_false c3
  clear c3
  replace H := Option.bind_eq_some_iff.mp H
  obtain ⟨⟨t298, t299⟩, A70, H⟩ := H
  replace H : ((spec_RootOfWhole.f k t298 t299).bind fun bt302 => ((laws_toWhole.f k a0_0 l0_1).bind fun bt308 => ((impl_RootOfWhole.f bt308.1 bt308.2).bind fun bt313 => ((laws_eqWhole.f k bt313.1 bt313.2.1 bt302.1 bt302.2.1).bind fun t319 => (if t319 = true then (laws_FnExactRootOfWhole.j0 k bt302.2.2 bt313.2.2 (bt313.2.2 != bt302.2.2) a0_0 l0_1 bt302.1 bt302.2.1 bt308.1 bt308.2 bt313.1 bt313.2.1) else (laws_FnExactRootOfWhole.j0 k bt302.2.2 bt313.2.2 true a0_0 l0_1 bt302.1 bt302.2.1 bt308.1 bt308.2 bt313.1 bt313.2.1)))))) = some r := H
  have A7 := Aside0.mk A70; clear A70
  replace H := Option.bind_eq_some_iff.mp H
  obtain ⟨⟨t302, t303, t306⟩, A80, H⟩ := H
  replace H : ((laws_toWhole.f k a0_0 l0_1).bind fun bt308 => ((impl_RootOfWhole.f bt308.1 bt308.2).bind fun bt313 => ((laws_eqWhole.f k bt313.1 bt313.2.1 t302 t303).bind fun t319 => (if t319 = true then (laws_FnExactRootOfWhole.j0 k t306 bt313.2.2 (bt313.2.2 != t306) a0_0 l0_1 t302 t303 bt308.1 bt308.2 bt313.1 bt313.2.1) else (laws_FnExactRootOfWhole.j0 k t306 bt313.2.2 true a0_0 l0_1 t302 t303 bt308.1 bt308.2 bt313.1 bt313.2.1))))) = some r := H
  have A8 := Aside0.mk A80; clear A80
  replace H := Option.bind_eq_some_iff.mp H
  obtain ⟨⟨t308, t309⟩, A90, H⟩ := H
  replace H : ((impl_RootOfWhole.f t308 t309).bind fun bt313 => ((laws_eqWhole.f k bt313.1 bt313.2.1 t302 t303).bind fun t319 => (if t319 = true then (laws_FnExactRootOfWhole.j0 k t306 bt313.2.2 (bt313.2.2 != t306) a0_0 l0_1 t302 t303 t308 t309 bt313.1 bt313.2.1) else (laws_FnExactRootOfWhole.j0 k t306 bt313.2.2 true a0_0 l0_1 t302 t303 t308 t309 bt313.1 bt313.2.1)))) = some r := H
  have A9 := Aside0.mk A90; clear A90
  replace H := Option.bind_eq_some_iff.mp H
  obtain ⟨⟨t313, t314, t317⟩, A100, H⟩ := H
  replace H : ((laws_eqWhole.f k t313 t314 t302 t303).bind fun t319 => (if t319 = true then (laws_FnExactRootOfWhole.j0 k t306 t317 (t317 != t306) a0_0 l0_1 t302 t303 t308 t309 t313 t314) else (laws_FnExactRootOfWhole.j0 k t306 t317 true a0_0 l0_1 t302 t303 t308 t309 t313 t314))) = some r := H
  have A10 := Aside0.mk A100; clear A100; have HC11 := Aside0.mk H; clear H
  go_enter Tryd.func5, Tryd.ntmps5
  go_upto_region 8 with (first | ((with_reducible refine gate_dst (N := 1) rfl ?_); refine box_event ?hg (N := 1) ?hd (cs := #[.int .i64 a0_0, .slice A0_1 l0_1.length c0_1]) (t := 24) ?hr ?_; (case hd => rfl); (case hg => rfl); (case hr => first | (go_simp; done) | (go_simp; rfl)); intro gb296 hg w12 hbox hb; have BK296 := am_ (hbox); have GW296 := am_ (gs_ hg HB); have GE296 := am_ (gs_ hg HB); replace HB := am_ (below_step (bl_ HB) hb); clear hb hbox hg; have hcz13_0 : w12.cell? ⟨gb296, 0, none⟩ = some (.int .i64 a0_0) := bc_ BK296 0; have hcz13_1 : w12.cell? ⟨gb296, 1, none⟩ = some (.slice A0_1 l0_1.length c0_1) := bc_ BK296 1; have hfz13_0 := blk_frozen BK296.out 0; have hfz13_1 := blk_frozen BK296.out 1) | ((with_reducible refine gate_callee (f := 11) rfl ?_); refine goesL_ (some 16) rfl rfl Tryd.func11 (by kernel_rfl) rfl #[.agg #[.int .i64 a0_0, .slice A0_1 l0_1.length c0_1], .int .i64 1048576] rfl ma_ ?_; (with_reducible refine (laws_szWhole.calls a0_0 _ _ l0_1 1048576 t297 _ ?side1 ?side2 A2.out).mono ?_); (case side1 => exact cb_ HR0_1 HB); (case side2 => exact HC0_1.out); rintro e w14 ⟨rfl, hb⟩; refine ⟨_, rfl, ?_⟩; replace BK296 := am_ (blk_below (bk_ BK296) hb); replace HB := am_ (below_step (bl_ HB) hb); (try clear hb); (try clear hb2); (try clear hk); (try clear hi); have hcz15_0 : w14.cell? ⟨gb296, 0, none⟩ = some (.int .i64 a0_0) := bc_ BK296 0; have hcz15_1 : w14.cell? ⟨gb296, 1, none⟩ = some (.slice A0_1 l0_1.length c0_1) := bc_ BK296 1; have hfz15_0 := blk_frozen BK296.out 0; have hfz15_1 := blk_frozen BK296.out 1) | ((with_reducible refine gate_callee (f := 13) rfl ?_); refine goesL_ (some 21) rfl rfl Tryd.func13 (by kernel_rfl) rfl #[.agg #[.int .i64 a0_0, .slice A0_1 l0_1.length c0_1]] rfl ma_ ?_; (with_reducible refine (laws_toWhole.calls k a0_0 _ _ l0_1 t298 t299 _ ?side1 ?side2 A7.out).mono ?_); (case side1 => exact cb_ HR0_1 HB); (case side2 => exact HC0_1.out); rintro e w16 ⟨v300, rfl, ho0, hb⟩; refine ⟨_, rfl, ?_⟩; have HO301 := am_ (Kd.R_lower ho0 (below_size (bl_ HB))); replace BK296 := am_ (blk_below (bk_ BK296) hb); replace HB := am_ (below_step (bl_ HB) hb); (try clear hb); (try clear hb2); (try clear hk); (try clear hi); (try clear ho0); obtain ⟨Ao17, co17, eo17⟩ := Kd.R_slice HO301.out; subst eo17) | ((with_reducible refine gate_callee (f := 20) rfl ?_); refine goesL_ (some 22) rfl rfl Tryd.func20 (by kernel_rfl) rfl #[.agg #[.int .i64 t298, .slice Ao17 t299.length co17]] rfl ma_ ?_; (with_reducible refine (spec_RootOfWhole.calls k t298 _ _ t299 t302 t303 t306 _ ?side1 ?side2 A8.out).mono ?_); (case side1 => exact cr_ HO301); (case side2 => exact (Kd.R_reads' HO301.out).2.1); rintro e w18 ⟨v304, rfl, ho0, hb⟩; refine ⟨_, rfl, ?_⟩; have HO305 := am_ (Kd.R_lower (Kd.R_new' ho0 (Kd.R_lt (kr_ HO301))) (below_size (bl_ HB))); replace HO301 := am_ (Kd.R_elder' (kr_ HO301) (Kd.R_base ho0) hb); replace BK296 := am_ (blk_below (bk_ BK296) hb); replace HB := am_ (below_step (bl_ HB) hb); (try clear hb); (try clear hb2); (try clear hk); (try clear hi); (try clear ho0)) | ((with_reducible refine gate_dst (N := 4) rfl ?_); refine box_event ?hg (N := 4) ?hd (cs := #[.int .i64 0, .slice none 0 0]) (t := 26) ?hr ?_; (case hd => rfl); (case hg => rfl); (case hr => first | (go_simp; done) | (go_simp; rfl)); intro gb307 hg w19 hbox hb; have BK307 := am_ (hbox); have GW307 := am_ (gs_ hg HB); have GE307 := am_ (gs_ hg HB); have NB296_307 := am_ (nl_ hg BK296); have NB307_296 := am_ (ng_ hg BK296); replace HO301 := am_ (Kd.R_below (kr_ HO301) hb); replace HO305 := am_ (Kd.R_below (kr_ HO305) hb); replace BK296 := am_ (blk_below (bk_ BK296) hb); replace HB := am_ (below_step (bl_ HB) hb); clear hb hbox hg; have hnb20 := NB307_296.out; have hnc20 := NB296_307.out; have hcz21_0 : w19.cell? ⟨gb307, 0, none⟩ = some (.int .i64 0) := bc_ BK307 0; have hcz21_1 : w19.cell? ⟨gb307, 1, none⟩ = some (.slice none 0 0) := bc_ BK307 1; have hfz21_0 := blk_frozen BK307.out 0; have hfz21_1 := blk_frozen BK307.out 1; obtain ⟨Ao22, co22, eo22⟩ := Kd.R_slice HO305.out; subst eo22; have hcz23_0 : w19.cell? ⟨gb296, 0, none⟩ = some (.int .i64 a0_0) := bc_ BK296 0; have hcz23_1 : w19.cell? ⟨gb296, 1, none⟩ = some (.slice A0_1 l0_1.length c0_1) := bc_ BK296 1; have hfz23_0 := blk_frozen BK296.out 0; have hfz23_1 := blk_frozen BK296.out 1) | ((with_reducible refine gate_callee (f := 13) rfl ?_); refine goesL_ (some 26) rfl rfl Tryd.func13 (by kernel_rfl) rfl #[.agg #[.int .i64 a0_0, .slice A0_1 l0_1.length c0_1]] rfl ma_ ?_; (with_reducible refine (laws_toWhole.calls k a0_0 _ _ l0_1 t308 t309 _ ?side1 ?side2 A9.out).mono ?_); (case side1 => exact Kd.C_below HR0_1.out (bl_ HB)); (case side2 => exact HC0_1.out); rintro e w24 ⟨v310, rfl, ho0, hb⟩; refine ⟨_, rfl, ?_⟩; have HO311 := am_ (Kd.R_lower (Kd.R_new' (Kd.R_new' ho0 (Kd.R_lt (rg_ HO301 BK307))) (Kd.R_lt (rg_ HO305 BK307))) (below_size (bl_ HB))); replace HO301 := am_ (Kd.R_elder' (rg_ HO301 BK307) (Kd.R_base ho0) hb); replace HO305 := am_ (Kd.R_elder' (rg_ HO305 BK307) (Kd.R_base ho0) hb); replace BK296 := am_ (blk_below (bk_ BK296) hb); replace BK307 := am_ (blk_below (bp2_ BK307) hb); replace HB := am_ (below_step (bl_ HB) hb); (try clear hb); (try clear hb2); (try clear hk); (try clear hi); (try clear ho0)) | ((with_reducible refine gate_dst (N := 6) rfl ?_); refine box_event ?hg (N := 6) ?hd (cs := #[.int .i64 0, .slice none 0 0]) (t := 26) ?hr ?_; (case hd => rfl); (case hg => rfl); (case hr => first | (go_simp; done) | (go_simp; rfl)); intro gb312 hg w25 hbox hb; have BK312 := am_ (hbox); have GW312 := am_ (gs_ hg HB); have GE312 := am_ (gs_ hg HB); have NB296_312 := am_ (nl_ hg BK296); have NB312_296 := am_ (ng_ hg BK296); have NB307_312 := am_ (nl_ hg BK307); have NB312_307 := am_ (ng_ hg BK307); replace HO301 := am_ (Kd.R_below (kr_ HO301) hb); replace HO305 := am_ (Kd.R_below (kr_ HO305) hb); replace HO311 := am_ (Kd.R_below (kr_ HO311) hb); replace BK296 := am_ (blk_below (bk_ BK296) hb); replace BK307 := am_ (blk_below (bk_ BK307) hb); replace HB := am_ (below_step (bl_ HB) hb); clear hb hbox hg; have hnb26 := NB312_296.out; have hnc26 := NB296_312.out; have hnb27 := NB312_307.out; have hnc27 := NB307_312.out; have hcz28_0 : w25.cell? ⟨gb312, 0, none⟩ = some (.int .i64 0) := bc_ BK312 0; have hcz28_1 : w25.cell? ⟨gb312, 1, none⟩ = some (.slice none 0 0) := bc_ BK312 1; have hfz28_0 := blk_frozen BK312.out 0; have hfz28_1 := blk_frozen BK312.out 1; obtain ⟨Ao29, co29, eo29⟩ := Kd.R_slice HO311.out; subst eo29) | ((with_reducible refine gate_callee (f := 21) rfl ?_); refine goesL_ (some 29) rfl rfl Tryd.func21 (by kernel_rfl) rfl #[.agg #[.int .i64 t308, .slice Ao29 t309.length co29]] rfl ma_ ?_; (with_reducible refine (impl_RootOfWhole.calls t308 _ _ t309 t313 t314 t317 _ ?side1 ?side2 A10.out).mono ?_); (case side1 => refine (Kd.R_reads' (e := 2) (base := w.heap.size) (ok := fun k_ => ((True ∧ some k_ ≠ (.slice Ao17 t299.length co17 : Value).ownBlock) ∧ some k_ ≠ (.slice Ao22 t303.length co22 : Value).ownBlock)) (n := t309.length) (c := co29) ?_).2.2; exact (rg_ HO311 BK312)); (case side2 => exact (Kd.R_reads' HO311.out).2.1); rintro e w30 ⟨v315, rfl, ho0, hb⟩; refine ⟨_, rfl, ?_⟩; have HO316 := am_ (Kd.R_lower (Kd.R_new' (Kd.R_new' (Kd.R_new' ho0 (Kd.R_lt (rg_ HO301 BK312))) (Kd.R_lt (rg_ HO305 BK312))) (Kd.R_lt (rg_ HO311 BK312))) (below_size (bl_ HB))); replace HO301 := am_ (Kd.R_elder' (rg_ HO301 BK312) (Kd.R_base ho0) hb); replace HO305 := am_ (Kd.R_elder' (rg_ HO305 BK312) (Kd.R_base ho0) hb); replace HO311 := am_ (Kd.R_elder' (rg_ HO311 BK312) (Kd.R_base ho0) hb); replace BK296 := am_ (blk_below (bk_ BK296) hb); replace BK307 := am_ (blk_below (bk_ BK307) hb); replace BK312 := am_ (blk_below (bp2_ BK312) hb); replace HB := am_ (below_step (bl_ HB) hb); (try clear hb); (try clear hb2); (try clear hk); (try clear hi); (try clear ho0)) | ((with_reducible refine gate_dst (N := 7) rfl ?_); refine box_event ?hg (N := 7) ?hd (cs := #[.int .i64 0, .slice none 0 0]) (t := 26) ?hr ?_; (case hd => rfl); (case hg => rfl); (case hr => first | (go_simp; done) | (go_simp; rfl)); intro gb318 hg w31 hbox hb; have BK318 := am_ (hbox); have GW318 := am_ (gs_ hg HB); have GE318 := am_ (gs_ hg HB); have NB296_318 := am_ (nl_ hg BK296); have NB318_296 := am_ (ng_ hg BK296); have NB307_318 := am_ (nl_ hg BK307); have NB318_307 := am_ (ng_ hg BK307); have NB312_318 := am_ (nl_ hg BK312); have NB318_312 := am_ (ng_ hg BK312); replace HO301 := am_ (Kd.R_below (kr_ HO301) hb); replace HO305 := am_ (Kd.R_below (kr_ HO305) hb); replace HO311 := am_ (Kd.R_below (kr_ HO311) hb); replace HO316 := am_ (Kd.R_below (kr_ HO316) hb); replace BK296 := am_ (blk_below (bk_ BK296) hb); replace BK307 := am_ (blk_below (bk_ BK307) hb); replace BK312 := am_ (blk_below (bk_ BK312) hb); replace HB := am_ (below_step (bl_ HB) hb); clear hb hbox hg; have hnb32 := NB318_296.out; have hnc32 := NB296_318.out; have hnb33 := NB318_307.out; have hnc33 := NB307_318.out; have hnb34 := NB318_312.out; have hnc34 := NB312_318.out; have hcz35_0 : w31.cell? ⟨gb318, 0, none⟩ = some (.int .i64 0) := bc_ BK318 0; have hcz35_1 : w31.cell? ⟨gb318, 1, none⟩ = some (.slice none 0 0) := bc_ BK318 1; have hfz35_0 := blk_frozen BK318.out 0; have hfz35_1 := blk_frozen BK318.out 1; obtain ⟨Ao36, co36, eo36⟩ := Kd.R_slice HO316.out; subst eo36))
  (try simp only [Act.put, List.setIfInBounds_toArray, List.set_cons_zero, List.set_cons_succ])
  go_cut [40] (fun v40 wc => ∃ (kq : Nat) (x40_10 : Bool), v40 = .bool x40_10 ∧ Aside0 (laws_FnExactRootOfWhole.j0 kq t306 t317 x40_10 a0_0 l0_1 t302 t303 t308 t309 t313 t314 = some r) ∧ Aside0 (kq ≤ k) ∧ Aside0 (Kd.R (Kd.int .i64) 2 wc w.heap.size (fun k_ => some k_ ≠ ((.slice Ao29 t309.length co29) : Value).ownBlock ∧ some k_ ≠ ((.slice Ao36 t314.length co36) : Value).ownBlock) (.slice Ao22 t303.length co22) t303) ∧ Aside0 (Kd.R (Kd.int .i64) 2 wc w.heap.size (fun k_ => some k_ ≠ ((.slice Ao22 t303.length co22) : Value).ownBlock ∧ some k_ ≠ ((.slice Ao36 t314.length co36) : Value).ownBlock) (.slice Ao29 t309.length co29) t309) ∧ Aside0 (Kd.R (Kd.int .i64) 2 wc w.heap.size (fun k_ => some k_ ≠ ((.slice Ao22 t303.length co22) : Value).ownBlock ∧ some k_ ≠ ((.slice Ao29 t309.length co29) : Value).ownBlock) (.slice Ao36 t314.length co36) t314) ∧ Aside0 (wc.heap[gb296]? = some (.cells #[.int .i64 a0_0, (.slice A0_1 l0_1.length c0_1)] 24 (0, 0))) ∧ Aside0 (wc.heap[gb307]? = some (.cells #[.int .i64 t302, (.slice Ao22 t303.length co22)] 26 (0, 0))) ∧ Aside0 (wc.heap[gb312]? = some (.cells #[.int .i64 t308, (.slice Ao29 t309.length co29)] 26 (0, 0))) ∧ Aside0 (wc.heap[gb318]? = some (.cells #[.int .i64 t313, (.slice Ao36 t314.length co36)] 26 (0, 0))) ∧ Aside0 (Below w.heap.size w wc))
  case first =>
   have H := HC11.out; clear HC11
   replace H := Option.bind_eq_some_iff.mp H
   obtain ⟨t319, A370, H⟩ := H
   replace H : (if t319 = true then (laws_FnExactRootOfWhole.j0 k t306 t317 (t317 != t306) a0_0 l0_1 t302 t303 t308 t309 t313 t314) else (laws_FnExactRootOfWhole.j0 k t306 t317 true a0_0 l0_1 t302 t303 t308 t309 t313 t314)) = some r := H
   have A37 := Aside0.mk A370; clear A370
   by_cases c38 : t319 = true
   ·subst c38
    have H1 : (laws_FnExactRootOfWhole.j0 k t306 t317 (t317 != t306) a0_0 l0_1 t302 t303 t308 t309 t313 t314) = some r := by rw [if_pos rfl] at H; exact H
    clear H; have H := H1; clear H1
    have H' := Aside0.mk H
    clear H; have hnb39 := NB318_296.out; have hnc39 := NB296_318.out; have hnb40 := NB318_307.out; have hnc40 := NB307_318.out; have hnb41 := NB318_312.out; have hnc41 := NB312_318.out
    have hcz42_0 : w31.cell? ⟨gb318, 0, none⟩ = some (.int .i64 0) := bc_ BK318 0
    have hcz42_1 : w31.cell? ⟨gb318, 1, none⟩ = some (.slice none 0 0) := bc_ BK318 1
    have hfz42_0 := blk_frozen BK318.out 0; have hfz42_1 := blk_frozen BK318.out 1; have hnb43 := NB307_296.out; have hnc43 := NB296_307.out; have hnb44 := NB307_312.out; have hnc44 := NB312_307.out
    have hcz45_0 : w31.cell? ⟨gb307, 0, none⟩ = some (.int .i64 t302) := bc_ BK307 0
    have hcz45_1 : w31.cell? ⟨gb307, 1, none⟩ = some (.slice Ao22 t303.length co22) := bc_ BK307 1
    have hfz45_0 := blk_frozen BK307.out 0; have hfz45_1 := blk_frozen BK307.out 1
    go_wp2_with (first | ((with_reducible refine gate_callee (f := 15) rfl ?_); refine goesL_ (some 34) rfl rfl Tryd.func15 (by kernel_rfl) rfl #[.agg #[.int .i64 t313, .slice Ao36 t314.length co36], .agg #[.int .i64 t302, .slice Ao22 t303.length co22]] rfl ma_ ?_; (with_reducible refine (laws_eqWhole.calls k t313 _ _ t314 t302 _ _ t303 true _ ?side1 ?side2 ?side3 ?side4 A37.out).mono ?_); (case side1 => refine (Kd.R_reads' (e := 2) (base := w.heap.size) (ok := fun k_ => (((True ∧ some k_ ≠ (.slice Ao17 t299.length co17 : Value).ownBlock) ∧ some k_ ≠ (.slice Ao22 t303.length co22 : Value).ownBlock) ∧ some k_ ≠ (.slice Ao29 t309.length co29 : Value).ownBlock)) (n := t314.length) (c := co36) ?_).2.2; exact (rg_ HO316 BK318)); (case side2 => exact (Kd.R_reads' HO316.out).2.1); (case side3 => refine (Kd.R_reads' (e := 2) (base := w.heap.size) (ok := fun k_ => (((True ∧ some k_ ≠ (.slice Ao17 t299.length co17 : Value).ownBlock) ∧ some k_ ≠ (.slice Ao29 t309.length co29 : Value).ownBlock) ∧ some k_ ≠ (.slice Ao36 t314.length co36 : Value).ownBlock)) (n := t303.length) (c := co22) ?_).2.2; exact (rg_ HO305 BK318)); (case side4 => exact (Kd.R_reads' HO305.out).2.1); rintro e w46 ⟨rfl, hb⟩; refine ⟨_, rfl, ?_⟩; replace HO301 := am_ (Kd.R_below (rg_ HO301 BK318) hb); replace HO305 := am_ (Kd.R_below (rg_ HO305 BK318) hb); replace HO311 := am_ (Kd.R_below (rg_ HO311 BK318) hb); replace HO316 := am_ (Kd.R_below (rg_ HO316 BK318) hb); replace BK296 := am_ (blk_below (bk_ BK296) hb); replace BK307 := am_ (blk_below (bk_ BK307) hb); replace BK312 := am_ (blk_below (bk_ BK312) hb); replace BK318 := am_ (blk_below (bp2_ BK318) hb); replace HB := am_ (below_step (bl_ HB) hb); (try clear hb); (try clear hb2); (try clear hk); (try clear hi)))
    go_meet
    case rel => exact ⟨_, ((t317 != t306)), (by first | rfl | (simp; done) | (simp [*]; done)), H', ⟨by first | omega | exact Nat.le_refl _⟩, ⟨km_ HO305 (fun _ hk => ⟨hk.1.2, hk.2⟩)⟩, ⟨km_ HO311 (fun _ hk => ⟨hk.1.2, hk.2⟩)⟩, ⟨km_ HO316 (fun _ hk => ⟨hk.1.2, hk.2⟩)⟩, ⟨bk_ BK296⟩, ⟨bk_ BK307⟩, ⟨bk_ BK312⟩, ⟨bk_ BK318⟩, ⟨bl_ HB⟩⟩
   ·replace c38 := Bool.eq_false_iff.mpr c38
    subst c38
    have H1 : (laws_FnExactRootOfWhole.j0 k t306 t317 true a0_0 l0_1 t302 t303 t308 t309 t313 t314) = some r := by rw [if_neg (show ¬ (false = true) by decide)] at H; exact H
    clear H; have H := H1; clear H1
    have H' := Aside0.mk H
    clear H; have hnb47 := NB318_296.out; have hnc47 := NB296_318.out; have hnb48 := NB318_307.out; have hnc48 := NB307_318.out; have hnb49 := NB318_312.out; have hnc49 := NB312_318.out
    have hcz50_0 : w31.cell? ⟨gb318, 0, none⟩ = some (.int .i64 0) := bc_ BK318 0
    have hcz50_1 : w31.cell? ⟨gb318, 1, none⟩ = some (.slice none 0 0) := bc_ BK318 1
    have hfz50_0 := blk_frozen BK318.out 0; have hfz50_1 := blk_frozen BK318.out 1; have hnb51 := NB307_296.out; have hnc51 := NB296_307.out; have hnb52 := NB307_312.out; have hnc52 := NB312_307.out
    have hcz53_0 : w31.cell? ⟨gb307, 0, none⟩ = some (.int .i64 t302) := bc_ BK307 0
    have hcz53_1 : w31.cell? ⟨gb307, 1, none⟩ = some (.slice Ao22 t303.length co22) := bc_ BK307 1
    have hfz53_0 := blk_frozen BK307.out 0; have hfz53_1 := blk_frozen BK307.out 1
    go_wp2_with (first | ((with_reducible refine gate_callee (f := 15) rfl ?_); refine goesL_ (some 34) rfl rfl Tryd.func15 (by kernel_rfl) rfl #[.agg #[.int .i64 t313, .slice Ao36 t314.length co36], .agg #[.int .i64 t302, .slice Ao22 t303.length co22]] rfl ma_ ?_; (with_reducible refine (laws_eqWhole.calls k t313 _ _ t314 t302 _ _ t303 false _ ?side1 ?side2 ?side3 ?side4 A37.out).mono ?_); (case side1 => refine (Kd.R_reads' (e := 2) (base := w.heap.size) (ok := fun k_ => (((True ∧ some k_ ≠ (.slice Ao17 t299.length co17 : Value).ownBlock) ∧ some k_ ≠ (.slice Ao22 t303.length co22 : Value).ownBlock) ∧ some k_ ≠ (.slice Ao29 t309.length co29 : Value).ownBlock)) (n := t314.length) (c := co36) ?_).2.2; exact (rg_ HO316 BK318)); (case side2 => exact (Kd.R_reads' HO316.out).2.1); (case side3 => refine (Kd.R_reads' (e := 2) (base := w.heap.size) (ok := fun k_ => (((True ∧ some k_ ≠ (.slice Ao17 t299.length co17 : Value).ownBlock) ∧ some k_ ≠ (.slice Ao29 t309.length co29 : Value).ownBlock) ∧ some k_ ≠ (.slice Ao36 t314.length co36 : Value).ownBlock)) (n := t303.length) (c := co22) ?_).2.2; exact (rg_ HO305 BK318)); (case side4 => exact (Kd.R_reads' HO305.out).2.1); rintro e w54 ⟨rfl, hb⟩; refine ⟨_, rfl, ?_⟩; replace HO301 := am_ (Kd.R_below (rg_ HO301 BK318) hb); replace HO305 := am_ (Kd.R_below (rg_ HO305 BK318) hb); replace HO311 := am_ (Kd.R_below (rg_ HO311 BK318) hb); replace HO316 := am_ (Kd.R_below (rg_ HO316 BK318) hb); replace BK296 := am_ (blk_below (bk_ BK296) hb); replace BK307 := am_ (blk_below (bk_ BK307) hb); replace BK312 := am_ (blk_below (bk_ BK312) hb); replace BK318 := am_ (blk_below (bp2_ BK318) hb); replace HB := am_ (below_step (bl_ HB) hb); (try clear hb); (try clear hb2); (try clear hk); (try clear hi)))
    go_meet
    case rel => exact ⟨_, (true), (by first | rfl | (simp; done) | (simp [*]; done)), H', ⟨by first | omega | exact Nat.le_refl _⟩, ⟨km_ HO305 (fun _ hk => ⟨hk.1.2, hk.2⟩)⟩, ⟨km_ HO311 (fun _ hk => ⟨hk.1.2, hk.2⟩)⟩, ⟨km_ HO316 (fun _ hk => ⟨hk.1.2, hk.2⟩)⟩, ⟨bk_ BK296⟩, ⟨bk_ BK307⟩, ⟨bk_ BK312⟩, ⟨bk_ BK318⟩, ⟨bl_ HB⟩⟩
  case rest =>
   clear HC11; try clear c1; try clear c2; try clear p2; try clear c3; try clear c3b0; try clear c4; try clear c5; try clear c11; try clear c13; try clear c15; try clear c20; try clear c21; try clear c26; try clear c27; try clear c32; try clear c33; try clear c34; try clear c38; try clear c39; try clear c40; try clear c41; try clear c43; try clear c44; try clear c47; try clear c48; try clear c49; try clear c51; try clear c52; try clear hcz13_0; try clear hcz13_1; try clear hcz15_0; try clear hcz15_1; try clear hcz21_0; try clear hcz21_1; try clear hcz23_0; try clear hcz23_1; try clear hcz28_0; try clear hcz28_1; try clear hcz35_0; try clear hcz35_1; try clear hcz42_0; try clear hcz42_1; try clear hcz45_0; try clear hcz45_1; try clear hcz50_0; try clear hcz50_1; try clear hcz53_0; try clear hcz53_1; try clear hcz5_0; try clear hcz5_1; try clear hfz13_0; try clear hfz13_1; try clear hfz15_0; try clear hfz15_1; try clear hfz21_0; try clear hfz21_1; try clear hfz23_0; try clear hfz23_1; try clear hfz28_0; try clear hfz28_1; try clear hfz35_0; try clear hfz35_1; try clear hfz42_0; try clear hfz42_1; try clear hfz45_0; try clear hfz45_1; try clear hfz50_0; try clear hfz50_1; try clear hfz53_0; try clear hfz53_1; try clear hfz5_0; try clear hfz5_1
   obtain ⟨kq, x40_10, rfl, HA, HJ10, HO_308001, HO_313001, HO_319001, BK296, BK307, BK312, BK318, HB⟩ := hcut
   cases kq with
   | zero => exact absurd HA.out (by simp [laws_FnExactRootOfWhole.j0])
   | succ kj10 =>
    have H := HA.out; clear HA
    simp only [laws_FnExactRootOfWhole.j0] at H
    by_cases c55 : x40_10 = true
    ·subst c55
     have H1 : (some false) = some r := by rw [if_pos rfl] at H; exact H
     clear H; have H := H1; clear H1; obtain rfl := Option.some.inj H
     go_wp2
     go_ret
     exact ⟨by first | rfl | (simp [errW_none, errW_some] <;> rfl) | (simp [*, errW_none, errW_some] <;> rfl), bl_ HB⟩
    ·replace c55 := Bool.eq_false_iff.mpr c55
     subst c55
     have H1 : ((laws_toWhole.f kj10 a0_0 l0_1).bind fun bt320 => ((laws_eqWhole.f kj10 t308 t309 bt320.1 bt320.2).bind fun t324 => (if t324 = true then ((laws_markWhole.f kj10 t308 t309 1).bind fun bt325 => (if bt325.1 < 0 then (laws_FnExactRootOfWhole.j1 kj10 t306 true a0_0 l0_1 t302 t303 t313 t314) else ((laws_eqWhole.f kj10 t313 t314 t302 t303).bind fun t327 => (if t327 = true then (laws_FnExactRootOfWhole.j1 kj10 t306 (t317 != t306) a0_0 l0_1 t302 t303 t313 t314) else (laws_FnExactRootOfWhole.j1 kj10 t306 true a0_0 l0_1 t302 t303 t313 t314))))) else (some false)))) = some r := by rw [if_neg (show ¬ (false = true) by decide)] at H; exact H
     clear H; have H := H1; clear H1
     replace H := Option.bind_eq_some_iff.mp H
     obtain ⟨⟨t320, t321⟩, A560, H⟩ := H
     replace H : ((laws_eqWhole.f kj10 t308 t309 t320 t321).bind fun t324 => (if t324 = true then ((laws_markWhole.f kj10 t308 t309 1).bind fun bt325 => (if bt325.1 < 0 then (laws_FnExactRootOfWhole.j1 kj10 t306 true a0_0 l0_1 t302 t303 t313 t314) else ((laws_eqWhole.f kj10 t313 t314 t302 t303).bind fun t327 => (if t327 = true then (laws_FnExactRootOfWhole.j1 kj10 t306 (t317 != t306) a0_0 l0_1 t302 t303 t313 t314) else (laws_FnExactRootOfWhole.j1 kj10 t306 true a0_0 l0_1 t302 t303 t313 t314))))) else (some false))) = some r := H
     have A56 := Aside0.mk A560; clear A560
     replace H := Option.bind_eq_some_iff.mp H
     obtain ⟨t324, A570, H⟩ := H
     replace H : (if t324 = true then ((laws_markWhole.f kj10 t308 t309 1).bind fun bt325 => (if bt325.1 < 0 then (laws_FnExactRootOfWhole.j1 kj10 t306 true a0_0 l0_1 t302 t303 t313 t314) else ((laws_eqWhole.f kj10 t313 t314 t302 t303).bind fun t327 => (if t327 = true then (laws_FnExactRootOfWhole.j1 kj10 t306 (t317 != t306) a0_0 l0_1 t302 t303 t313 t314) else (laws_FnExactRootOfWhole.j1 kj10 t306 true a0_0 l0_1 t302 t303 t313 t314))))) else (some false)) = some r := H
     have A57 := Aside0.mk A570; clear A570
     by_cases c58 : t324 = true
     ·subst c58
      have H1 : ((laws_markWhole.f kj10 t308 t309 1).bind fun bt325 => (if bt325.1 < 0 then (laws_FnExactRootOfWhole.j1 kj10 t306 true a0_0 l0_1 t302 t303 t313 t314) else ((laws_eqWhole.f kj10 t313 t314 t302 t303).bind fun t327 => (if t327 = true then (laws_FnExactRootOfWhole.j1 kj10 t306 (t317 != t306) a0_0 l0_1 t302 t303 t313 t314) else (laws_FnExactRootOfWhole.j1 kj10 t306 true a0_0 l0_1 t302 t303 t313 t314))))) = some r := by rw [if_pos rfl] at H; exact H
      clear H; have H := H1; clear H1
      replace H := Option.bind_eq_some_iff.mp H
      obtain ⟨⟨t325, t326⟩, A590, H⟩ := H
      replace H : (if t325 < 0 then (laws_FnExactRootOfWhole.j1 kj10 t306 true a0_0 l0_1 t302 t303 t313 t314) else ((laws_eqWhole.f kj10 t313 t314 t302 t303).bind fun t327 => (if t327 = true then (laws_FnExactRootOfWhole.j1 kj10 t306 (t317 != t306) a0_0 l0_1 t302 t303 t313 t314) else (laws_FnExactRootOfWhole.j1 kj10 t306 true a0_0 l0_1 t302 t303 t313 t314)))) = some r := H
      have A59 := Aside0.mk A590; clear A590; have HC60 := Aside0.mk H; clear H
      try go_wp2
      have n0_ := am_ (Kd.R_drew HO_308001.out); have n1_ := am_ (Kd.R_drew HO_313001.out); have n2_ := am_ (Kd.R_drew HO_319001.out); have n3_ := am_ (blk_drew BK296.out); have n4_ := am_ (blk_drew BK307.out); have n5_ := am_ (blk_drew BK312.out); have n6_ := am_ (blk_drew BK318.out); have n7_ := am_ (below_drew1 HB.out); clear HO_308001 HO_313001 HO_319001 BK296 BK307 BK312 BK318 HB; have HO_308001 := n0_; have HO_313001 := n1_; have HO_319001 := n2_; have BK296 := n3_; have BK307 := n4_; have BK312 := n5_; have BK318 := n6_; have HB := n7_; clear n0_ n1_ n2_ n3_ n4_ n5_ n6_ n7_
      refine start_ (n := 5) (S := fun w' => w'.cell? ⟨gb312, 0, none⟩ = some (.int .i64 t308) ∧ w'.cell? ⟨gb312, 1, none⟩ = some (.slice Ao29 t309.length co29) ∧ w'.cell? ⟨gb296, 0, none⟩ = some (.int .i64 a0_0) ∧ w'.cell? ⟨gb296, 1, none⟩ = some (.slice A0_1 l0_1.length c0_1)) (ds := []) #[false, false, false, false, false] (by kernel_rfl) rfl rfl ⟨bc_ BK312 0, bc_ BK312 1, bc_ BK296 0, bc_ BK296 1⟩ (fun hHeld => ?_)
      generalize wc.drew = w61 at HO_308001 HO_313001 HO_319001 BK296 BK307 BK312 BK318 HB hHeld ⊢
      refine take_ (i := 0) (N := some 41) (v := ?_) (a' := ?_) #[true, false, false, false, false] rfl rfl (by kernel_rfl) (fun _ _ _ h => h) (Or.inl ⟨by rfl, ?_⟩) hHeld ?_ ?_
      rotate_left
      ·rintro w' ⟨s0, s1, s2, s3⟩
       go_simp
       with_reducible rfl
      rotate_left
      ·exact nm_
      refine take_ (i := 1) (N := some 42) (v := ?_) (a' := ?_) #[true, true, false, false, false] rfl rfl (by kernel_rfl) (fun _ _ _ h => h) (Or.inl ⟨by rfl, ?_⟩) hHeld ?_ ?_
      rotate_left
      ·rintro w' ⟨s0, s1, s2, s3⟩
       go_simp
       with_reducible rfl
      rotate_left
      ·exact nm_
      refine one_ (i := 2) (N := some 43) #[true, true, true, false, false] rfl rfl (by kernel_rfl) (by decide) (fun K hK => ?_)
      refine goes_ Tryd.func13 (by kernel_rfl) rfl #[.agg #[.int .i64 a0_0, .slice A0_1 l0_1.length c0_1]] (by rfl) rfl rfl ma_ ?_
      with_reducible refine (laws_toWhole.calls kj10 a0_0 _ _ l0_1 t320 t321 _ ?side1 ?side2 A56.out).mono ?_
      (case side1 => exact cb_ HR0_1 HB)
      (case side2 => exact HC0_1.out)
      rintro e w62 ⟨v322, rfl, ho0, hb⟩
      refine ⟨_, rfl, ?_⟩
      have n0_ := am_ (Kd.R_elder' (kr_ HO_308001) (Kd.R_base ho0) hb); have n1_ := am_ (Kd.R_elder' (kr_ HO_313001) (Kd.R_base ho0) hb); have n2_ := am_ (Kd.R_elder' (kr_ HO_319001) (Kd.R_base ho0) hb); have n3_ := am_ (Kd.R_lower (Kd.R_new' (Kd.R_new' (Kd.R_new' ho0 (Kd.R_lt (kr_ HO_308001))) (Kd.R_lt (kr_ HO_313001))) (Kd.R_lt (kr_ HO_319001))) (below_size (bl_ HB))); have n4_ := am_ (blk_below (bk_ BK296) hb); have n5_ := am_ (blk_below (bk_ BK307) hb); have n6_ := am_ (blk_below (bk_ BK312) hb); have n7_ := am_ (blk_below (bk_ BK318) hb); have n8_ := am_ (below_step (bl_ HB) hb); clear HO_308001 HO_313001 HO_319001 BK296 BK307 BK312 BK318 HB; have HO_308001 := n0_; have HO_313001 := n1_; have HO_319001 := n2_; have HO323 := n3_; have BK296 := n4_; have BK307 := n5_; have BK312 := n6_; have BK318 := n7_; have HB := n8_; clear n0_ n1_ n2_ n3_ n4_ n5_ n6_ n7_ n8_; (try clear hb); (try clear hb2); (try clear hk); (try clear hi); (try clear ho0)
      obtain ⟨Ao63, co63, eo63⟩ := Kd.R_slice HO323.out
      (first | subst eo63 | (injection eo63 with f1_ f2_ f3_; have f4_ := f1_.symm; have f5_ := f3_.symm; clear f1_ f2_ f3_; subst f4_; subst f5_))
      refine hK.out _ _ ⟨bc_ BK312 0, bc_ BK312 1, bc_ BK296 0, bc_ BK296 1⟩ (fun hHeld => ?_)
      clear hK K
      refine norm_ (a' := ?_) ?_ ?_
      rotate_left
      ·show Act.put _ (some 43) _ = _
       exact nm_
      refine one_ (i := 3) (N := some 44) #[true, true, true, true, false] rfl rfl (by kernel_rfl) (by decide) (fun K hK => ?_)
      refine goes_ Tryd.func15 (by kernel_rfl) rfl #[.agg #[.int .i64 t308, .slice Ao29 t309.length co29], .agg #[.int .i64 t320, .slice Ao63 t321.length co63]] (by rfl) rfl rfl ma_ ?_
      with_reducible refine (laws_eqWhole.calls kj10 t308 _ _ t309 t320 _ _ t321 true _ ?side1 ?side2 ?side3 ?side4 A57.out).mono ?_
      (case side1 => exact cr_ HO_313001)
      (case side2 => exact (Kd.R_reads' HO_313001.out).2.1)
      (case side3 => exact cr_ HO323)
      (case side4 => exact (Kd.R_reads' HO323.out).2.1)
      rintro e w64 ⟨rfl, hb⟩
      refine ⟨_, rfl, ?_⟩
      have n0_ := am_ (Kd.R_below (kr_ HO_308001) hb); have n1_ := am_ (Kd.R_below (kr_ HO_313001) hb); have n2_ := am_ (Kd.R_below (kr_ HO_319001) hb); have n3_ := am_ (Kd.R_below (kr_ HO323) hb); have n4_ := am_ (blk_below (bk_ BK296) hb); have n5_ := am_ (blk_below (bk_ BK307) hb); have n6_ := am_ (blk_below (bk_ BK312) hb); have n7_ := am_ (blk_below (bk_ BK318) hb); have n8_ := am_ (below_step (bl_ HB) hb); clear HO_308001 HO_313001 HO_319001 HO323 BK296 BK307 BK312 BK318 HB; have HO_308001 := n0_; have HO_313001 := n1_; have HO_319001 := n2_; have HO323 := n3_; have BK296 := n4_; have BK307 := n5_; have BK312 := n6_; have BK318 := n7_; have HB := n8_; clear n0_ n1_ n2_ n3_ n4_ n5_ n6_ n7_ n8_; (try clear hb); (try clear hb2); (try clear hk); (try clear hi)
      refine hK.out _ _ ⟨bc_ BK312 0, bc_ BK312 1, bc_ BK296 0, bc_ BK296 1⟩ (fun hHeld => ?_)
      clear hK K
      refine norm_ (a' := ?_) ?_ ?_
      rotate_left
      ·show Act.put _ (some 44) _ = _
       exact nm_
      refine pure_ (i := 4) (N := some 45) (v := ?_) (a' := ?_) #[true, true, true, true, true] rfl rfl (by kernel_rfl) (fun _ _ _ h => h) (Or.inl ⟨by rfl, ?_⟩) ?_ ?_
      rotate_left
      ·intro w'
       go_simp
       with_reducible rfl
      rotate_left
      ·exact nm_
      refine done_ (by kernel_rfl) ?_
      have hnb65 := NB312_296.out; have hnc65 := NB296_312.out; have hnb66 := NB312_307.out; have hnc66 := NB307_312.out; have hnb67 := NB312_318.out; have hnc67 := NB318_312.out
      have hcz68_0 : w64.cell? ⟨gb312, 0, none⟩ = some (.int .i64 t308) := bc_ BK312 0
      have hcz68_1 : w64.cell? ⟨gb312, 1, none⟩ = some (.slice Ao29 t309.length co29) := bc_ BK312 1
      have hfz68_0 := blk_frozen BK312.out 0; have hfz68_1 := blk_frozen BK312.out 1
      go_upto_region 14 with (first | ((with_reducible refine gate_callee (f := 16) rfl ?_); refine goesL_ (some 48) rfl rfl Tryd.func16 (by kernel_rfl) rfl #[.agg #[.int .i64 t308, .slice Ao29 t309.length co29], .int .i64 1] rfl ma_ ?_; (with_reducible refine (laws_markWhole.calls kj10 t308 (fun k_ => some k_ = (.slice Ao29 t309.length co29 : Value).ownBlock) (.slice Ao29 t309.length co29) t309 1 t325 t326 w _ ?side1 ?side2 A59.out).mono ?_); (case side1 => exact bl_ HB); (case side2 => exact Kd.R_tight rfl HO_313001.out); rintro e w69 ⟨rfl, hy0, hb, hkp⟩; refine ⟨_, rfl, ?_⟩; have n0_ := am_ (Kd.R_mono (ok' := fun k_ => some k_ ≠ (.slice Ao29 t309.length co29 : Value).ownBlock ∧ some k_ ≠ (.slice Ao36 t314.length co36 : Value).ownBlock ∧ some k_ ≠ (.slice Ao63 t321.length co63 : Value).ownBlock) (Kd.R_keptB (HO_308001.out) hkp (fun k_ hk_ hs_ => (hk_.1.1) hs_)) (fun k_ hk_ => ⟨hk_.1.1.1, hk_.1.1.2, hk_.1.2⟩)); have n1_ := am_ (Kd.R_reok rfl hy0 (fun k_ e_ => HO_313001.out.1 k_ e_)); have n2_ := am_ (Kd.R_mono (ok' := fun k_ => some k_ ≠ (.slice Ao22 t303.length co22 : Value).ownBlock ∧ some k_ ≠ (.slice Ao29 t309.length co29 : Value).ownBlock ∧ some k_ ≠ (.slice Ao63 t321.length co63 : Value).ownBlock) (Kd.R_keptB (HO_319001.out) hkp (fun k_ hk_ hs_ => (hk_.1.2) hs_)) (fun k_ hk_ => ⟨hk_.1.1.1, hk_.1.1.2, hk_.1.2⟩)); have n3_ := am_ (blk_kept (bk_ BK296) hkp (fun hs_ => (fun e_ => (Kd.R_ne HO_313001.out BK296.out (by decide)) e_) hs_)); have n4_ := am_ (blk_kept (bk_ BK307) hkp (fun hs_ => (fun e_ => (Kd.R_ne HO_313001.out BK307.out (by decide)) e_) hs_)); have n5_ := am_ (blk_kept (bk_ BK312) hkp (fun hs_ => (fun e_ => (Kd.R_ne HO_313001.out BK312.out (by decide)) e_) hs_)); have n6_ := am_ (blk_kept (bk_ BK318) hkp (fun hs_ => (fun e_ => (Kd.R_ne HO_313001.out BK318.out (by decide)) e_) hs_)); have n7_ := am_ (Kd.R_mono (ok' := fun k_ => some k_ ≠ (.slice Ao22 t303.length co22 : Value).ownBlock ∧ some k_ ≠ (.slice Ao29 t309.length co29 : Value).ownBlock ∧ some k_ ≠ (.slice Ao36 t314.length co36 : Value).ownBlock) (Kd.R_keptB (HO323.out) hkp (fun k_ hk_ hs_ => (hk_.1.2) hs_)) (fun k_ hk_ => ⟨hk_.1.1.1.2, hk_.1.1.2, hk_.1.2⟩)); have n8_ := am_ (hb); clear HO_308001; clear HO_313001; clear HO_319001; clear BK296; clear BK307; clear BK312; clear BK318; clear HO323; clear HB; have HO_308001 := n0_; have HO_313001 := n1_; have HO_319001 := n2_; have BK296 := n3_; have BK307 := n4_; have BK312 := n5_; have BK318 := n6_; have HO323 := n7_; have HB := n8_; clear n0_ n1_ n2_ n3_ n4_ n5_ n6_ n7_ n8_; (try clear hb); (try clear hkp); (try clear hy0)))
      (try simp only [Act.put, List.setIfInBounds_toArray, List.set_cons_zero, List.set_cons_succ])
      go_cut [61] (fun v61 wc => ∃ (kq : Nat) (x61_59 : Bool), v61 = .bool x61_59 ∧ Aside0 (laws_FnExactRootOfWhole.j1 kq t306 x61_59 a0_0 l0_1 t302 t303 t313 t314 = some r) ∧ Aside0 (kq ≤ kj10) ∧ Aside0 (Kd.R (Kd.int .i64) 2 wc w.heap.size (fun k_ => some k_ ≠ ((.slice Ao29 t309.length co29) : Value).ownBlock ∧ some k_ ≠ ((.slice Ao36 t314.length co36) : Value).ownBlock) (.slice Ao22 t303.length co22) t303) ∧ Aside0 (Kd.R (Kd.int .i64) 2 wc w.heap.size (fun k_ => some k_ ≠ ((.slice Ao22 t303.length co22) : Value).ownBlock ∧ some k_ ≠ ((.slice Ao36 t314.length co36) : Value).ownBlock) (.slice Ao29 t309.length co29) t326) ∧ Aside0 (Kd.R (Kd.int .i64) 2 wc w.heap.size (fun k_ => some k_ ≠ ((.slice Ao22 t303.length co22) : Value).ownBlock ∧ some k_ ≠ ((.slice Ao29 t309.length co29) : Value).ownBlock) (.slice Ao36 t314.length co36) t314) ∧ Aside0 (wc.heap[gb296]? = some (.cells #[.int .i64 a0_0, (.slice A0_1 l0_1.length c0_1)] 24 (0, 0))) ∧ Aside0 (wc.heap[gb307]? = some (.cells #[.int .i64 t302, (.slice Ao22 t303.length co22)] 26 (0, 0))) ∧ Aside0 (wc.heap[gb312]? = some (.cells #[.int .i64 t308, (.slice Ao29 t309.length co29)] 26 (0, 0))) ∧ Aside0 (wc.heap[gb318]? = some (.cells #[.int .i64 t313, (.slice Ao36 t314.length co36)] 26 (0, 0))) ∧ Aside0 (Below w.heap.size w wc))
      case first =>
       have H := HC60.out; clear HC60
       by_cases c70 : t325 < 0
       ·rw [if_pos c70] at H
        have c70b0 : decide (t325 < 0) = true := decide_eq_true c70
        clear c70
        (first | rw [c70b0] | (simp only [i64_w, i32_w]; rw [c70b0]) | skip)
        have H' := Aside0.mk H
        clear H
        go_wp2
        go_meet
        case rel => exact ⟨_, (true), (by first | rfl | (simp; done) | (simp [*]; done)), H', ⟨by have := HJ10.out; first | omega | exact Nat.le_refl _⟩, ⟨km_ HO_308001 (fun _ hk => ⟨hk.1, hk.2.1⟩)⟩, ⟨km_ HO_313001 (fun _ hk => ⟨hk.1.1, hk.1.2⟩)⟩, ⟨km_ HO_319001 (fun _ hk => ⟨hk.1, hk.2.1⟩)⟩, ⟨bk_ BK296⟩, ⟨bk_ BK307⟩, ⟨bk_ BK312⟩, ⟨bk_ BK318⟩, ⟨bl_ HB⟩⟩
       ·rw [if_neg c70] at H
        have c70b0 : decide (t325 < 0) = false := decide_eq_false c70
        clear c70
        (first | rw [c70b0] | (simp only [i64_w, i32_w]; rw [c70b0]) | skip)
        replace H := Option.bind_eq_some_iff.mp H
        obtain ⟨t327, A710, H⟩ := H
        replace H : (if t327 = true then (laws_FnExactRootOfWhole.j1 kj10 t306 (t317 != t306) a0_0 l0_1 t302 t303 t313 t314) else (laws_FnExactRootOfWhole.j1 kj10 t306 true a0_0 l0_1 t302 t303 t313 t314)) = some r := H
        have A71 := Aside0.mk A710; clear A710
        by_cases c72 : t327 = true
        ·subst c72
         have H1 : (laws_FnExactRootOfWhole.j1 kj10 t306 (t317 != t306) a0_0 l0_1 t302 t303 t313 t314) = some r := by rw [if_pos rfl] at H; exact H
         clear H; have H := H1; clear H1
         have H' := Aside0.mk H
         clear H; have hnb73 := NB318_296.out; have hnc73 := NB296_318.out; have hnb74 := NB318_307.out; have hnc74 := NB307_318.out; have hnb75 := NB318_312.out; have hnc75 := NB312_318.out
         have hcz76_0 : w69.cell? ⟨gb318, 0, none⟩ = some (.int .i64 t313) := bc_ BK318 0
         have hcz76_1 : w69.cell? ⟨gb318, 1, none⟩ = some (.slice Ao36 t314.length co36) := bc_ BK318 1
         have hfz76_0 := blk_frozen BK318.out 0; have hfz76_1 := blk_frozen BK318.out 1; have hnb77 := NB307_296.out; have hnc77 := NB296_307.out; have hnb78 := NB307_312.out; have hnc78 := NB312_307.out
         have hcz79_0 : w69.cell? ⟨gb307, 0, none⟩ = some (.int .i64 t302) := bc_ BK307 0
         have hcz79_1 : w69.cell? ⟨gb307, 1, none⟩ = some (.slice Ao22 t303.length co22) := bc_ BK307 1
         have hfz79_0 := blk_frozen BK307.out 0; have hfz79_1 := blk_frozen BK307.out 1
         go_wp2_with (first | (go_at_call 15; (with_reducible refine (laws_eqWhole.calls kj10 t313 _ _ t314 t302 _ _ t303 true _ ?side1 ?side2 ?side3 ?side4 A71.out).mono ?_); (case side1 => exact cr_ HO_319001); (case side2 => exact (Kd.R_reads' HO_319001.out).2.1); (case side3 => exact cr_ HO_308001); (case side4 => exact (Kd.R_reads' HO_308001.out).2.1); rintro e w80 ⟨rfl, hb⟩; replace HO_308001 := am_ (Kd.R_below (kr_ HO_308001) hb); replace HO_313001 := am_ (Kd.R_below (kr_ HO_313001) hb); replace HO_319001 := am_ (Kd.R_below (kr_ HO_319001) hb); replace HO323 := am_ (Kd.R_below (kr_ HO323) hb); replace BK296 := am_ (blk_below (bk_ BK296) hb); replace BK307 := am_ (blk_below (bk_ BK307) hb); replace BK312 := am_ (blk_below (bk_ BK312) hb); replace BK318 := am_ (blk_below (bk_ BK318) hb); replace HB := am_ (below_step (bl_ HB) hb); (try clear hb); (try clear hb2); (try clear hk); (try clear hi)))
         go_meet
         case rel => exact ⟨_, ((t317 != t306)), (by first | rfl | (simp; done) | (simp [*]; done)), H', ⟨by have := HJ10.out; first | omega | exact Nat.le_refl _⟩, ⟨km_ HO_308001 (fun _ hk => ⟨hk.1, hk.2.1⟩)⟩, ⟨km_ HO_313001 (fun _ hk => ⟨hk.1.1, hk.1.2⟩)⟩, ⟨km_ HO_319001 (fun _ hk => ⟨hk.1, hk.2.1⟩)⟩, ⟨bk_ BK296⟩, ⟨bk_ BK307⟩, ⟨bk_ BK312⟩, ⟨bk_ BK318⟩, ⟨bl_ HB⟩⟩
        ·replace c72 := Bool.eq_false_iff.mpr c72
         subst c72
         have H1 : (laws_FnExactRootOfWhole.j1 kj10 t306 true a0_0 l0_1 t302 t303 t313 t314) = some r := by rw [if_neg (show ¬ (false = true) by decide)] at H; exact H
         clear H; have H := H1; clear H1
         have H' := Aside0.mk H
         clear H; have hnb81 := NB318_296.out; have hnc81 := NB296_318.out; have hnb82 := NB318_307.out; have hnc82 := NB307_318.out; have hnb83 := NB318_312.out; have hnc83 := NB312_318.out
         have hcz84_0 : w69.cell? ⟨gb318, 0, none⟩ = some (.int .i64 t313) := bc_ BK318 0
         have hcz84_1 : w69.cell? ⟨gb318, 1, none⟩ = some (.slice Ao36 t314.length co36) := bc_ BK318 1
         have hfz84_0 := blk_frozen BK318.out 0; have hfz84_1 := blk_frozen BK318.out 1; have hnb85 := NB307_296.out; have hnc85 := NB296_307.out; have hnb86 := NB307_312.out; have hnc86 := NB312_307.out
         have hcz87_0 : w69.cell? ⟨gb307, 0, none⟩ = some (.int .i64 t302) := bc_ BK307 0
         have hcz87_1 : w69.cell? ⟨gb307, 1, none⟩ = some (.slice Ao22 t303.length co22) := bc_ BK307 1
         have hfz87_0 := blk_frozen BK307.out 0; have hfz87_1 := blk_frozen BK307.out 1
         go_wp2_with (first | (go_at_call 15; (with_reducible refine (laws_eqWhole.calls kj10 t313 _ _ t314 t302 _ _ t303 false _ ?side1 ?side2 ?side3 ?side4 A71.out).mono ?_); (case side1 => exact cr_ HO_319001); (case side2 => exact (Kd.R_reads' HO_319001.out).2.1); (case side3 => exact cr_ HO_308001); (case side4 => exact (Kd.R_reads' HO_308001.out).2.1); rintro e w88 ⟨rfl, hb⟩; replace HO_308001 := am_ (Kd.R_below (kr_ HO_308001) hb); replace HO_313001 := am_ (Kd.R_below (kr_ HO_313001) hb); replace HO_319001 := am_ (Kd.R_below (kr_ HO_319001) hb); replace HO323 := am_ (Kd.R_below (kr_ HO323) hb); replace BK296 := am_ (blk_below (bk_ BK296) hb); replace BK307 := am_ (blk_below (bk_ BK307) hb); replace BK312 := am_ (blk_below (bk_ BK312) hb); replace BK318 := am_ (blk_below (bk_ BK318) hb); replace HB := am_ (below_step (bl_ HB) hb); (try clear hb); (try clear hb2); (try clear hk); (try clear hi)))
         go_meet
         case rel => exact ⟨_, (true), (by first | rfl | (simp; done) | (simp [*]; done)), H', ⟨by have := HJ10.out; first | omega | exact Nat.le_refl _⟩, ⟨km_ HO_308001 (fun _ hk => ⟨hk.1, hk.2.1⟩)⟩, ⟨km_ HO_313001 (fun _ hk => ⟨hk.1.1, hk.1.2⟩)⟩, ⟨km_ HO_319001 (fun _ hk => ⟨hk.1, hk.2.1⟩)⟩, ⟨bk_ BK296⟩, ⟨bk_ BK307⟩, ⟨bk_ BK312⟩, ⟨bk_ BK318⟩, ⟨bl_ HB⟩⟩
      case rest =>
       clear HC60; try clear c1; try clear c2; try clear p2; try clear c3; try clear c3b0; try clear c4; try clear c5; try clear c6; try clear c7; try clear c8; try clear c11; try clear c13; try clear c15; try clear c16; try clear c20; try clear c21; try clear c26; try clear c27; try clear c32; try clear c33; try clear c34; try clear c38; try clear c39; try clear c40; try clear c41; try clear c43; try clear c44; try clear c47; try clear c48; try clear c49; try clear c51; try clear c52; try clear c55; try clear c58; try clear c65; try clear c66; try clear c67; try clear c70; try clear c70b0; try clear c72; try clear c73; try clear c74; try clear c75; try clear c77; try clear c78; try clear c81; try clear c82; try clear c83; try clear c85; try clear c86; try clear hcz13_0; try clear hcz13_1; try clear hcz15_0; try clear hcz15_1; try clear hcz21_0; try clear hcz21_1; try clear hcz23_0; try clear hcz23_1; try clear hcz28_0; try clear hcz28_1; try clear hcz35_0; try clear hcz35_1; try clear hcz42_0; try clear hcz42_1; try clear hcz45_0; try clear hcz45_1; try clear hcz50_0; try clear hcz50_1; try clear hcz53_0; try clear hcz53_1; try clear hcz5_0; try clear hcz5_1; try clear hcz68_0; try clear hcz68_1; try clear hcz76_0; try clear hcz76_1; try clear hcz79_0; try clear hcz79_1; try clear hcz84_0; try clear hcz84_1; try clear hcz87_0; try clear hcz87_1; try clear hfz13_0; try clear hfz13_1; try clear hfz15_0; try clear hfz15_1; try clear hfz21_0; try clear hfz21_1; try clear hfz23_0; try clear hfz23_1; try clear hfz28_0; try clear hfz28_1; try clear hfz35_0; try clear hfz35_1; try clear hfz42_0; try clear hfz42_1; try clear hfz45_0; try clear hfz45_1; try clear hfz50_0; try clear hfz50_1; try clear hfz53_0; try clear hfz53_1; try clear hfz5_0; try clear hfz5_1; try clear hfz68_0; try clear hfz68_1; try clear hfz76_0; try clear hfz76_1; try clear hfz79_0; try clear hfz79_1; try clear hfz84_0; try clear hfz84_1; try clear hfz87_0; try clear hfz87_1; try clear p2
       obtain ⟨kq, x61_59, rfl, HA, HJ59, HO_308001, HO_313001, HO_319001, BK296, BK307, BK312, BK318, HB⟩ := hcut
       have hl313001_59 := (Kd.R_reads' HO_313001.out).1
       rw [hl313001_59] at HO_313001
       (try simp only [hl313001_59])
       (try simp only [hl313001_59] at BK296)
       (try simp only [hl313001_59] at BK307)
       (try simp only [hl313001_59] at BK312)
       (try simp only [hl313001_59] at BK318)
       (try simp only [hl313001_59] at HO_308001)
       (try simp only [hl313001_59] at HO_319001)
       cases kq with
       | zero => exact absurd HA.out (by simp [laws_FnExactRootOfWhole.j1])
       | succ kj59 =>
        have H := HA.out; clear HA
        simp only [laws_FnExactRootOfWhole.j1] at H
        by_cases c89 : x61_59 = true
        ·subst c89
         have H1 : (some false) = some r := by rw [if_pos rfl] at H; exact H
         clear H; have H := H1; clear H1; obtain rfl := Option.some.inj H
         go_wp2
         go_ret
         exact ⟨by first | rfl | (simp [errW_none, errW_some] <;> rfl) | (simp [*, errW_none, errW_some] <;> rfl), bl_ HB⟩
        ·replace c89 := Bool.eq_false_iff.mpr c89
         subst c89
         have H1 : ((laws_markWhole.f kj59 t313 t314 1).bind fun bt328 => ((laws_heldWhole.f kj59 t313 bt328.2 1).bind fun t330 => (if t330 < 0 then (some false) else (if t330 = bt328.1 then ((laws_toWhole.f kj59 a0_0 l0_1).bind fun bt331 => ((impl_RootOfWhole.f bt331.1 bt331.2).bind fun bt335 => ((laws_eqWhole.f kj59 bt335.1 bt335.2.1 t302 t303).bind fun t341 => (if t341 = true then (laws_FnExactRootOfWhole.j2 kj59 bt328.1 (bt335.2.2 != t306) t313 bt328.2) else (laws_FnExactRootOfWhole.j2 kj59 bt328.1 true t313 bt328.2))))) else (some false))))) = some r := by rw [if_neg (show ¬ (false = true) by decide)] at H; exact H
         clear H; have H := H1; clear H1
         replace H := Option.bind_eq_some_iff.mp H
         obtain ⟨⟨t328, t329⟩, A900, H⟩ := H
         replace H : ((laws_heldWhole.f kj59 t313 t329 1).bind fun t330 => (if t330 < 0 then (some false) else (if t330 = t328 then ((laws_toWhole.f kj59 a0_0 l0_1).bind fun bt331 => ((impl_RootOfWhole.f bt331.1 bt331.2).bind fun bt335 => ((laws_eqWhole.f kj59 bt335.1 bt335.2.1 t302 t303).bind fun t341 => (if t341 = true then (laws_FnExactRootOfWhole.j2 kj59 t328 (bt335.2.2 != t306) t313 t329) else (laws_FnExactRootOfWhole.j2 kj59 t328 true t313 t329))))) else (some false)))) = some r := H
         have A90 := Aside0.mk A900; clear A900
         replace H := Option.bind_eq_some_iff.mp H
         obtain ⟨t330, A910, H⟩ := H
         replace H : (if t330 < 0 then (some false) else (if t330 = t328 then ((laws_toWhole.f kj59 a0_0 l0_1).bind fun bt331 => ((impl_RootOfWhole.f bt331.1 bt331.2).bind fun bt335 => ((laws_eqWhole.f kj59 bt335.1 bt335.2.1 t302 t303).bind fun t341 => (if t341 = true then (laws_FnExactRootOfWhole.j2 kj59 t328 (bt335.2.2 != t306) t313 t329) else (laws_FnExactRootOfWhole.j2 kj59 t328 true t313 t329))))) else (some false))) = some r := H
         have A91 := Aside0.mk A910; clear A910
         by_cases c92 : t330 < 0
         ·rw [if_pos c92] at H
          have c92b0 : decide (t330 < 0) = true := decide_eq_true c92
          clear c92; obtain rfl := Option.some.inj H; have hnb93 := NB318_296.out; have hnc93 := NB296_318.out; have hnb94 := NB318_307.out; have hnc94 := NB307_318.out; have hnb95 := NB318_312.out; have hnc95 := NB312_318.out
          have hcz96_0 : wc.cell? ⟨gb318, 0, none⟩ = some (.int .i64 t313) := bc_ BK318 0
          have hcz96_1 : wc.cell? ⟨gb318, 1, none⟩ = some (.slice Ao36 t314.length co36) := bc_ BK318 1
          have hfz96_0 := blk_frozen BK318.out 0; have hfz96_1 := blk_frozen BK318.out 1
          go_wp2_with (first | ((with_reducible refine gate_callee (f := 16) rfl ?_); refine goesL_ (some 64) rfl rfl Tryd.func16 (by kernel_rfl) rfl #[.agg #[.int .i64 t313, .slice Ao36 t314.length co36], .int .i64 1] rfl ma_ ?_; (with_reducible refine (laws_markWhole.calls kj59 t313 (fun k_ => some k_ = (.slice Ao36 t314.length co36 : Value).ownBlock) (.slice Ao36 t314.length co36) t314 1 t328 t329 w _ ?side1 ?side2 A90.out).mono ?_); (case side1 => exact bl_ HB); (case side2 => exact Kd.R_tight rfl HO_319001.out); rintro e w97 ⟨rfl, hy0, hb, hkp⟩; refine ⟨_, rfl, ?_⟩; have n0_ := am_ (Kd.R_mono (ok' := fun k_ => some k_ ≠ (.slice Ao29 t326.length co29 : Value).ownBlock ∧ some k_ ≠ (.slice Ao36 t314.length co36 : Value).ownBlock) (Kd.R_keptB (HO_308001.out) hkp (fun k_ hk_ hs_ => (hk_.2) hs_)) (fun k_ hk_ => ⟨hk_.1.1, hk_.1.2⟩)); have n1_ := am_ (Kd.R_mono (ok' := fun k_ => some k_ ≠ (.slice Ao22 t303.length co22 : Value).ownBlock ∧ some k_ ≠ (.slice Ao36 t314.length co36 : Value).ownBlock) (Kd.R_keptB (HO_313001.out) hkp (fun k_ hk_ hs_ => (hk_.2) hs_)) (fun k_ hk_ => ⟨hk_.1.1, hk_.1.2⟩)); have n2_ := am_ (Kd.R_reok rfl hy0 (fun k_ e_ => HO_319001.out.1 k_ e_)); have n3_ := am_ (blk_kept (bk_ BK296) hkp (fun hs_ => (fun e_ => (Kd.R_ne HO_319001.out BK296.out (by decide)) e_) hs_)); have n4_ := am_ (blk_kept (bk_ BK307) hkp (fun hs_ => (fun e_ => (Kd.R_ne HO_319001.out BK307.out (by decide)) e_) hs_)); have n5_ := am_ (blk_kept (bk_ BK312) hkp (fun hs_ => (fun e_ => (Kd.R_ne HO_319001.out BK312.out (by decide)) e_) hs_)); have n6_ := am_ (blk_kept (bk_ BK318) hkp (fun hs_ => (fun e_ => (Kd.R_ne HO_319001.out BK318.out (by decide)) e_) hs_)); have n7_ := am_ (hb); clear HO_308001; clear HO_313001; clear HO_319001; clear BK296; clear BK307; clear BK312; clear BK318; clear HB; have HO_308001 := n0_; have HO_313001 := n1_; have HO_319001 := n2_; have BK296 := n3_; have BK307 := n4_; have BK312 := n5_; have BK318 := n6_; have HB := n7_; clear n0_ n1_ n2_ n3_ n4_ n5_ n6_ n7_; (try clear hb); (try clear hkp); (try clear hy0); have hcz98_0 : w97.cell? ⟨gb318, 0, none⟩ = some (.int .i64 t313) := bc_ BK318 0; have hcz98_1 : w97.cell? ⟨gb318, 1, none⟩ = some (.slice Ao36 t314.length co36) := bc_ BK318 1; have hfz98_0 := blk_frozen BK318.out 0; have hfz98_1 := blk_frozen BK318.out 1) | ((with_reducible refine gate_callee (f := 17) rfl ?_); refine goesL_ (some 67) rfl rfl Tryd.func17 (by kernel_rfl) rfl #[.agg #[.int .i64 t313, .slice Ao36 t329.length co36], .int .i64 1] rfl (by (try simp only [List.map_toArray, List.map_cons, List.map_nil]); first | done | (rw [show t329.length = t314.length from (Kd.R_reads' HO_319001.out).1.symm] <;> rfl) | rfl | (simp only [List.length_drop, List.length_take]; rfl)) ?_; (with_reducible refine (laws_heldWhole.calls kj59 t313 _ _ t329 1 t330 _ ?side1 ?side2 A91.out).mono ?_); (case side1 => exact cr_ HO_319001); (case side2 => rw [show t329.length = t314.length from (Kd.R_reads' HO_319001.out).1.symm]; exact (Kd.R_reads' HO_319001.out).2.1); rintro e w99 ⟨rfl, hb⟩; refine ⟨_, rfl, ?_⟩; replace HO_308001 := am_ (Kd.R_below (kr_ HO_308001) hb); replace HO_313001 := am_ (Kd.R_below (kr_ HO_313001) hb); replace HO_319001 := am_ (Kd.R_below (kr_ HO_319001) hb); replace BK296 := am_ (blk_below (bk_ BK296) hb); replace BK307 := am_ (blk_below (bk_ BK307) hb); replace BK312 := am_ (blk_below (bk_ BK312) hb); replace BK318 := am_ (blk_below (bk_ BK318) hb); replace HB := am_ (below_step (bl_ HB) hb); (try clear hb); (try clear hb2); (try clear hk); (try clear hi)))
          go_ret
          exact ⟨by first | rfl | (simp [errW_none, errW_some] <;> rfl) | (simp [*, errW_none, errW_some] <;> rfl), bl_ HB⟩
         ·rw [if_neg c92] at H
          have c92b0 : decide (t330 < 0) = false := decide_eq_false c92
          clear c92
          by_cases c100 : t330 = t328
          ·rw [if_pos c100] at H
           have c100b0 : (t330 == t328) = true := beq_iff_eq.mpr c100
           have c100b1 : (t330 != t328) = false := bne_eq_false_iff_eq.mpr c100
           clear c100
           replace H := Option.bind_eq_some_iff.mp H
           obtain ⟨⟨t331, t332⟩, A1010, H⟩ := H
           replace H : ((impl_RootOfWhole.f t331 t332).bind fun bt335 => ((laws_eqWhole.f kj59 bt335.1 bt335.2.1 t302 t303).bind fun t341 => (if t341 = true then (laws_FnExactRootOfWhole.j2 kj59 t328 (bt335.2.2 != t306) t313 t329) else (laws_FnExactRootOfWhole.j2 kj59 t328 true t313 t329)))) = some r := H
           have A101 := Aside0.mk A1010; clear A1010
           replace H := Option.bind_eq_some_iff.mp H
           obtain ⟨⟨t335, t336, t339⟩, A1020, H⟩ := H
           replace H : ((laws_eqWhole.f kj59 t335 t336 t302 t303).bind fun t341 => (if t341 = true then (laws_FnExactRootOfWhole.j2 kj59 t328 (t339 != t306) t313 t329) else (laws_FnExactRootOfWhole.j2 kj59 t328 true t313 t329))) = some r := H
           have A102 := Aside0.mk A1020; clear A1020; have HC103 := Aside0.mk H; clear H; have hnb104 := NB318_296.out; have hnc104 := NB296_318.out; have hnb105 := NB318_307.out; have hnc105 := NB307_318.out; have hnb106 := NB318_312.out; have hnc106 := NB312_318.out
           have hcz107_0 : wc.cell? ⟨gb318, 0, none⟩ = some (.int .i64 t313) := bc_ BK318 0
           have hcz107_1 : wc.cell? ⟨gb318, 1, none⟩ = some (.slice Ao36 t314.length co36) := bc_ BK318 1
           have hfz107_0 := blk_frozen BK318.out 0; have hfz107_1 := blk_frozen BK318.out 1
           go_upto_region 25 with (first | ((with_reducible refine gate_callee (f := 16) rfl ?_); refine goesL_ (some 64) rfl rfl Tryd.func16 (by kernel_rfl) rfl #[.agg #[.int .i64 t313, .slice Ao36 t314.length co36], .int .i64 1] rfl ma_ ?_; (with_reducible refine (laws_markWhole.calls kj59 t313 (fun k_ => some k_ = (.slice Ao36 t314.length co36 : Value).ownBlock) (.slice Ao36 t314.length co36) t314 1 t328 t329 w _ ?side1 ?side2 A90.out).mono ?_); (case side1 => exact bl_ HB); (case side2 => exact Kd.R_tight rfl HO_319001.out); rintro e w108 ⟨rfl, hy0, hb, hkp⟩; refine ⟨_, rfl, ?_⟩; have n0_ := am_ (Kd.R_mono (ok' := fun k_ => some k_ ≠ (.slice Ao29 t326.length co29 : Value).ownBlock ∧ some k_ ≠ (.slice Ao36 t314.length co36 : Value).ownBlock) (Kd.R_keptB (HO_308001.out) hkp (fun k_ hk_ hs_ => (hk_.2) hs_)) (fun k_ hk_ => ⟨hk_.1.1, hk_.1.2⟩)); have n1_ := am_ (Kd.R_mono (ok' := fun k_ => some k_ ≠ (.slice Ao22 t303.length co22 : Value).ownBlock ∧ some k_ ≠ (.slice Ao36 t314.length co36 : Value).ownBlock) (Kd.R_keptB (HO_313001.out) hkp (fun k_ hk_ hs_ => (hk_.2) hs_)) (fun k_ hk_ => ⟨hk_.1.1, hk_.1.2⟩)); have n2_ := am_ (Kd.R_reok rfl hy0 (fun k_ e_ => HO_319001.out.1 k_ e_)); have n3_ := am_ (blk_kept (bk_ BK296) hkp (fun hs_ => (fun e_ => (Kd.R_ne HO_319001.out BK296.out (by decide)) e_) hs_)); have n4_ := am_ (blk_kept (bk_ BK307) hkp (fun hs_ => (fun e_ => (Kd.R_ne HO_319001.out BK307.out (by decide)) e_) hs_)); have n5_ := am_ (blk_kept (bk_ BK312) hkp (fun hs_ => (fun e_ => (Kd.R_ne HO_319001.out BK312.out (by decide)) e_) hs_)); have n6_ := am_ (blk_kept (bk_ BK318) hkp (fun hs_ => (fun e_ => (Kd.R_ne HO_319001.out BK318.out (by decide)) e_) hs_)); have n7_ := am_ (hb); clear HO_308001; clear HO_313001; clear HO_319001; clear BK296; clear BK307; clear BK312; clear BK318; clear HB; have HO_308001 := n0_; have HO_313001 := n1_; have HO_319001 := n2_; have BK296 := n3_; have BK307 := n4_; have BK312 := n5_; have BK318 := n6_; have HB := n7_; clear n0_ n1_ n2_ n3_ n4_ n5_ n6_ n7_; (try clear hb); (try clear hkp); (try clear hy0); have hcz109_0 : w108.cell? ⟨gb318, 0, none⟩ = some (.int .i64 t313) := bc_ BK318 0; have hcz109_1 : w108.cell? ⟨gb318, 1, none⟩ = some (.slice Ao36 t314.length co36) := bc_ BK318 1; have hfz109_0 := blk_frozen BK318.out 0; have hfz109_1 := blk_frozen BK318.out 1) | ((with_reducible refine gate_callee (f := 17) rfl ?_); refine goesL_ (some 67) rfl rfl Tryd.func17 (by kernel_rfl) rfl #[.agg #[.int .i64 t313, .slice Ao36 t329.length co36], .int .i64 1] rfl (by (try simp only [List.map_toArray, List.map_cons, List.map_nil]); first | done | (rw [show t329.length = t314.length from (Kd.R_reads' HO_319001.out).1.symm] <;> rfl) | rfl | (simp only [List.length_drop, List.length_take]; rfl)) ?_; (with_reducible refine (laws_heldWhole.calls kj59 t313 _ _ t329 1 t330 _ ?side1 ?side2 A91.out).mono ?_); (case side1 => exact cr_ HO_319001); (case side2 => rw [show t329.length = t314.length from (Kd.R_reads' HO_319001.out).1.symm]; exact (Kd.R_reads' HO_319001.out).2.1); rintro e w110 ⟨rfl, hb⟩; refine ⟨_, rfl, ?_⟩; replace HO_308001 := am_ (Kd.R_below (kr_ HO_308001) hb); replace HO_313001 := am_ (Kd.R_below (kr_ HO_313001) hb); replace HO_319001 := am_ (Kd.R_below (kr_ HO_319001) hb); replace BK296 := am_ (blk_below (bk_ BK296) hb); replace BK307 := am_ (blk_below (bk_ BK307) hb); replace BK312 := am_ (blk_below (bk_ BK312) hb); replace BK318 := am_ (blk_below (bk_ BK318) hb); replace HB := am_ (below_step (bl_ HB) hb); (try clear hb); (try clear hb2); (try clear hk); (try clear hi); have hnb111 := NB296_307.out; have hnc111 := NB307_296.out; have hnb112 := NB296_312.out; have hnc112 := NB312_296.out; have hcz113_0 : w110.cell? ⟨gb296, 0, none⟩ = some (.int .i64 a0_0) := bc_ BK296 0; have hcz113_1 : w110.cell? ⟨gb296, 1, none⟩ = some (.slice A0_1 l0_1.length c0_1) := bc_ BK296 1; have hfz113_0 := blk_frozen BK296.out 0; have hfz113_1 := blk_frozen BK296.out 1) | ((with_reducible refine gate_callee (f := 13) rfl ?_); refine goesL_ (some 75) rfl rfl Tryd.func13 (by kernel_rfl) rfl #[.agg #[.int .i64 a0_0, .slice A0_1 l0_1.length c0_1]] rfl ma_ ?_; (with_reducible refine (laws_toWhole.calls kj59 a0_0 _ _ l0_1 t331 t332 _ ?side1 ?side2 A101.out).mono ?_); (case side1 => exact cb_ HR0_1 HB); (case side2 => exact HC0_1.out); rintro e w114 ⟨v333, rfl, ho0, hb⟩; refine ⟨_, rfl, ?_⟩; have HO334 := am_ (Kd.R_lower (Kd.R_new' (Kd.R_new' (Kd.R_new' ho0 (Kd.R_lt (kr_ HO_308001))) (Kd.R_lt (kr_ HO_313001))) (Kd.R_lt (kr_ HO_319001))) (below_size (bl_ HB))); replace HO_308001 := am_ (Kd.R_elder' (kr_ HO_308001) (Kd.R_base ho0) hb); replace HO_313001 := am_ (Kd.R_elder' (kr_ HO_313001) (Kd.R_base ho0) hb); replace HO_319001 := am_ (Kd.R_elder' (kr_ HO_319001) (Kd.R_base ho0) hb); replace BK296 := am_ (blk_below (bk_ BK296) hb); replace BK307 := am_ (blk_below (bk_ BK307) hb); replace BK312 := am_ (blk_below (bk_ BK312) hb); replace BK318 := am_ (blk_below (bk_ BK318) hb); replace HB := am_ (below_step (bl_ HB) hb); (try clear hb); (try clear hb2); (try clear hk); (try clear hi); (try clear ho0); obtain ⟨Ao115, co115, eo115⟩ := Kd.R_slice HO334.out; subst eo115) | ((with_reducible refine gate_callee (f := 21) rfl ?_); refine goesL_ (some 76) rfl rfl Tryd.func21 (by kernel_rfl) rfl #[.agg #[.int .i64 t331, .slice Ao115 t332.length co115]] rfl ma_ ?_; (with_reducible refine (impl_RootOfWhole.calls t331 _ _ t332 t335 t336 t339 _ ?side1 ?side2 A102.out).mono ?_); (case side1 => exact cr_ HO334); (case side2 => exact (Kd.R_reads' HO334.out).2.1); rintro e w116 ⟨v337, rfl, ho0, hb⟩; refine ⟨_, rfl, ?_⟩; have HO338 := am_ (Kd.R_lower (Kd.R_new' (Kd.R_new' (Kd.R_new' (Kd.R_new' ho0 (Kd.R_lt (kr_ HO_308001))) (Kd.R_lt (kr_ HO_313001))) (Kd.R_lt (kr_ HO_319001))) (Kd.R_lt (kr_ HO334))) (below_size (bl_ HB))); replace HO_308001 := am_ (Kd.R_elder' (kr_ HO_308001) (Kd.R_base ho0) hb); replace HO_313001 := am_ (Kd.R_elder' (kr_ HO_313001) (Kd.R_base ho0) hb); replace HO_319001 := am_ (Kd.R_elder' (kr_ HO_319001) (Kd.R_base ho0) hb); replace HO334 := am_ (Kd.R_elder' (kr_ HO334) (Kd.R_base ho0) hb); replace BK296 := am_ (blk_below (bk_ BK296) hb); replace BK307 := am_ (blk_below (bk_ BK307) hb); replace BK312 := am_ (blk_below (bk_ BK312) hb); replace BK318 := am_ (blk_below (bk_ BK318) hb); replace HB := am_ (below_step (bl_ HB) hb); (try clear hb); (try clear hb2); (try clear hk); (try clear hi); (try clear ho0)) | ((with_reducible refine gate_dst (N := 12) rfl ?_); refine box_event ?hg (N := 12) ?hd (cs := #[.int .i64 0, .slice none 0 0]) (t := 26) ?hr ?_; (case hd => rfl); (case hg => rfl); (case hr => first | (go_simp; done) | (go_simp; rfl)); intro gb340 hg w117 hbox hb; have BK340 := am_ (hbox); have GW340 := am_ (gs_ hg HB); have GE340 := am_ (gs_ hg HB); have NB296_340 := am_ (nl_ hg BK296); have NB340_296 := am_ (ng_ hg BK296); have NB307_340 := am_ (nl_ hg BK307); have NB340_307 := am_ (ng_ hg BK307); have NB312_340 := am_ (nl_ hg BK312); have NB340_312 := am_ (ng_ hg BK312); have NB318_340 := am_ (nl_ hg BK318); have NB340_318 := am_ (ng_ hg BK318); replace HO_308001 := am_ (Kd.R_below (kr_ HO_308001) hb); replace HO_313001 := am_ (Kd.R_below (kr_ HO_313001) hb); replace HO_319001 := am_ (Kd.R_below (kr_ HO_319001) hb); replace HO334 := am_ (Kd.R_below (kr_ HO334) hb); replace HO338 := am_ (Kd.R_below (kr_ HO338) hb); replace BK296 := am_ (blk_below (bk_ BK296) hb); replace BK307 := am_ (blk_below (bk_ BK307) hb); replace BK312 := am_ (blk_below (bk_ BK312) hb); replace BK318 := am_ (blk_below (bk_ BK318) hb); replace HB := am_ (below_step (bl_ HB) hb); clear hb hbox hg; have hnb118 := NB340_296.out; have hnc118 := NB296_340.out; have hnb119 := NB340_307.out; have hnc119 := NB307_340.out; have hnb120 := NB340_312.out; have hnc120 := NB312_340.out; have hnb121 := NB340_318.out; have hnc121 := NB318_340.out; have hcz122_0 : w117.cell? ⟨gb340, 0, none⟩ = some (.int .i64 0) := bc_ BK340 0; have hcz122_1 : w117.cell? ⟨gb340, 1, none⟩ = some (.slice none 0 0) := bc_ BK340 1; have hfz122_0 := blk_frozen BK340.out 0; have hfz122_1 := blk_frozen BK340.out 1; obtain ⟨Ao123, co123, eo123⟩ := Kd.R_slice HO338.out; subst eo123))
           (try simp only [Act.put, List.setIfInBounds_toArray, List.set_cons_zero, List.set_cons_succ])
           go_cut [87] (fun v87 wc => ∃ (kq : Nat) (x87_102 : Bool), v87 = .bool x87_102 ∧ Aside0 (laws_FnExactRootOfWhole.j2 kq t328 x87_102 t313 t329 = some r) ∧ Aside0 (kq ≤ kj59) ∧ Aside0 (Kd.R (Kd.int .i64) 2 wc w.heap.size (fun k_ => some k_ ≠ ((.slice Ao29 t326.length co29) : Value).ownBlock ∧ some k_ ≠ ((.slice Ao36 t314.length co36) : Value).ownBlock ∧ some k_ ≠ ((.slice Ao123 t336.length co123) : Value).ownBlock) (.slice Ao22 t303.length co22) t303) ∧ Aside0 (Kd.R (Kd.int .i64) 2 wc w.heap.size (fun k_ => some k_ ≠ ((.slice Ao22 t303.length co22) : Value).ownBlock ∧ some k_ ≠ ((.slice Ao36 t314.length co36) : Value).ownBlock ∧ some k_ ≠ ((.slice Ao123 t336.length co123) : Value).ownBlock) (.slice Ao29 t326.length co29) t326) ∧ Aside0 (Kd.R (Kd.int .i64) 2 wc w.heap.size (fun k_ => some k_ ≠ ((.slice Ao22 t303.length co22) : Value).ownBlock ∧ some k_ ≠ ((.slice Ao29 t326.length co29) : Value).ownBlock ∧ some k_ ≠ ((.slice Ao123 t336.length co123) : Value).ownBlock) (.slice Ao36 t314.length co36) t329) ∧ Aside0 (Kd.R (Kd.int .i64) 2 wc w.heap.size (fun k_ => some k_ ≠ ((.slice Ao22 t303.length co22) : Value).ownBlock ∧ some k_ ≠ ((.slice Ao29 t326.length co29) : Value).ownBlock ∧ some k_ ≠ ((.slice Ao36 t314.length co36) : Value).ownBlock) (.slice Ao123 t336.length co123) t336) ∧ Aside0 (wc.heap[gb296]? = some (.cells #[.int .i64 a0_0, (.slice A0_1 l0_1.length c0_1)] 24 (0, 0))) ∧ Aside0 (wc.heap[gb307]? = some (.cells #[.int .i64 t302, (.slice Ao22 t303.length co22)] 26 (0, 0))) ∧ Aside0 (wc.heap[gb312]? = some (.cells #[.int .i64 t308, (.slice Ao29 t326.length co29)] 26 (0, 0))) ∧ Aside0 (wc.heap[gb318]? = some (.cells #[.int .i64 t313, (.slice Ao36 t314.length co36)] 26 (0, 0))) ∧ Aside0 (wc.heap[gb340]? = some (.cells #[.int .i64 t335, (.slice Ao123 t336.length co123)] 26 (0, 0))) ∧ Aside0 (Below w.heap.size w wc))
           case first =>
            have H := HC103.out; clear HC103
            replace H := Option.bind_eq_some_iff.mp H
            obtain ⟨t341, A1240, H⟩ := H
            replace H : (if t341 = true then (laws_FnExactRootOfWhole.j2 kj59 t328 (t339 != t306) t313 t329) else (laws_FnExactRootOfWhole.j2 kj59 t328 true t313 t329)) = some r := H
            have A124 := Aside0.mk A1240; clear A1240
            by_cases c125 : t341 = true
            ·subst c125
             have H1 : (laws_FnExactRootOfWhole.j2 kj59 t328 (t339 != t306) t313 t329) = some r := by rw [if_pos rfl] at H; exact H
             clear H; have H := H1; clear H1
             have H' := Aside0.mk H
             clear H; have hnb126 := NB340_296.out; have hnc126 := NB296_340.out; have hnb127 := NB340_307.out; have hnc127 := NB307_340.out; have hnb128 := NB340_312.out; have hnc128 := NB312_340.out; have hnb129 := NB340_318.out; have hnc129 := NB318_340.out
             have hcz130_0 : w117.cell? ⟨gb340, 0, none⟩ = some (.int .i64 0) := bc_ BK340 0
             have hcz130_1 : w117.cell? ⟨gb340, 1, none⟩ = some (.slice none 0 0) := bc_ BK340 1
             have hfz130_0 := blk_frozen BK340.out 0; have hfz130_1 := blk_frozen BK340.out 1; have hnb131 := NB307_296.out; have hnc131 := NB296_307.out; have hnb132 := NB307_312.out; have hnc132 := NB312_307.out; have hnb133 := NB307_318.out; have hnc133 := NB318_307.out
             have hcz134_0 : w117.cell? ⟨gb307, 0, none⟩ = some (.int .i64 t302) := bc_ BK307 0
             have hcz134_1 : w117.cell? ⟨gb307, 1, none⟩ = some (.slice Ao22 t303.length co22) := bc_ BK307 1
             have hfz134_0 := blk_frozen BK307.out 0; have hfz134_1 := blk_frozen BK307.out 1
             go_wp2_with (first | ((with_reducible refine gate_callee (f := 15) rfl ?_); refine goesL_ (some 81) rfl rfl Tryd.func15 (by kernel_rfl) rfl #[.agg #[.int .i64 t335, .slice Ao123 t336.length co123], .agg #[.int .i64 t302, .slice Ao22 t303.length co22]] rfl ma_ ?_; (with_reducible refine (laws_eqWhole.calls kj59 t335 _ _ t336 t302 _ _ t303 true _ ?side1 ?side2 ?side3 ?side4 A124.out).mono ?_); (case side1 => refine (Kd.R_reads' (e := 2) (base := w.heap.size) (ok := fun k_ => ((((True ∧ some k_ ≠ (.slice Ao22 t303.length co22 : Value).ownBlock) ∧ some k_ ≠ (.slice Ao29 t326.length co29 : Value).ownBlock) ∧ some k_ ≠ (.slice Ao36 t314.length co36 : Value).ownBlock) ∧ some k_ ≠ (.slice Ao115 t332.length co115 : Value).ownBlock)) (n := t336.length) (c := co123) ?_).2.2; exact (rg_ HO338 BK340)); (case side2 => exact (Kd.R_reads' HO338.out).2.1); (case side3 => refine (Kd.R_reads' (e := 2) (base := w.heap.size) (ok := fun k_ => (((some k_ ≠ (.slice Ao29 t326.length co29 : Value).ownBlock ∧ some k_ ≠ (.slice Ao36 t314.length co36 : Value).ownBlock) ∧ some k_ ≠ (.slice Ao115 t332.length co115 : Value).ownBlock) ∧ some k_ ≠ (.slice Ao123 t336.length co123 : Value).ownBlock)) (n := t303.length) (c := co22) ?_).2.2; exact (rg_ HO_308001 BK340)); (case side4 => exact (Kd.R_reads' HO_308001.out).2.1); rintro e w135 ⟨rfl, hb⟩; refine ⟨_, rfl, ?_⟩; replace HO_308001 := am_ (Kd.R_below (rg_ HO_308001 BK340) hb); replace HO_313001 := am_ (Kd.R_below (rg_ HO_313001 BK340) hb); replace HO_319001 := am_ (Kd.R_below (rg_ HO_319001 BK340) hb); replace HO334 := am_ (Kd.R_below (rg_ HO334 BK340) hb); replace HO338 := am_ (Kd.R_below (rg_ HO338 BK340) hb); replace BK296 := am_ (blk_below (bk_ BK296) hb); replace BK307 := am_ (blk_below (bk_ BK307) hb); replace BK312 := am_ (blk_below (bk_ BK312) hb); replace BK318 := am_ (blk_below (bk_ BK318) hb); replace BK340 := am_ (blk_below (bp2_ BK340) hb); replace HB := am_ (below_step (bl_ HB) hb); (try clear hb); (try clear hb2); (try clear hk); (try clear hi)))
             go_meet
             case rel => exact ⟨_, ((t339 != t306)), (by first | rfl | (simp; done) | (simp [*]; done)), H', ⟨by have := HJ10.out; have := HJ59.out; first | omega | exact Nat.le_refl _⟩, ⟨by (try simp only [hl313001_59]); (with_reducible repeat (first | apply Kd.R_alloc | apply Kd.R_drewN | apply Kd.R_drew)); exact Kd.R_mono HO_308001.out (fun _ hk => ⟨hk.1.1.1, ⟨hk.1.1.2, hk.2⟩⟩)⟩, ⟨by (try simp only [hl313001_59]); (with_reducible repeat (first | apply Kd.R_alloc | apply Kd.R_drewN | apply Kd.R_drew)); exact Kd.R_mono HO_313001.out (fun _ hk => ⟨hk.1.1.1, ⟨hk.1.1.2, hk.2⟩⟩)⟩, ⟨by (try simp only [hl313001_59]); (with_reducible repeat (first | apply Kd.R_alloc | apply Kd.R_drewN | apply Kd.R_drew)); exact Kd.R_mono HO_319001.out (fun _ hk => ⟨hk.1.1.1, ⟨hk.1.1.2, hk.2⟩⟩)⟩, ⟨by (try simp only [hl313001_59]); (with_reducible repeat (first | apply Kd.R_alloc | apply Kd.R_drewN | apply Kd.R_drew)); exact Kd.R_mono HO338.out (fun _ hk => ⟨hk.1.1.1.2, ⟨hk.1.1.2, hk.1.2⟩⟩)⟩, ⟨by (try simp only [hl313001_59]); (with_reducible repeat (first | refine blk_drewN ?_ _ | refine blk_drew ?_ | refine blk_alloc ?_ _)); exact BK296.out⟩, ⟨by (try simp only [hl313001_59]); (with_reducible repeat (first | refine blk_drewN ?_ _ | refine blk_drew ?_ | refine blk_alloc ?_ _)); exact BK307.out⟩, ⟨by (try simp only [hl313001_59]); (with_reducible repeat (first | refine blk_drewN ?_ _ | refine blk_drew ?_ | refine blk_alloc ?_ _)); exact BK312.out⟩, ⟨by (try simp only [hl313001_59]); (with_reducible repeat (first | refine blk_drewN ?_ _ | refine blk_drew ?_ | refine blk_alloc ?_ _)); exact BK318.out⟩, ⟨by (try simp only [hl313001_59]); (with_reducible repeat (first | refine blk_drewN ?_ _ | refine blk_drew ?_ | refine blk_alloc ?_ _)); exact BK340.out⟩, ⟨bl_ HB⟩⟩
            ·replace c125 := Bool.eq_false_iff.mpr c125
             subst c125
             have H1 : (laws_FnExactRootOfWhole.j2 kj59 t328 true t313 t329) = some r := by rw [if_neg (show ¬ (false = true) by decide)] at H; exact H
             clear H; have H := H1; clear H1
             have H' := Aside0.mk H
             clear H; have hnb136 := NB340_296.out; have hnc136 := NB296_340.out; have hnb137 := NB340_307.out; have hnc137 := NB307_340.out; have hnb138 := NB340_312.out; have hnc138 := NB312_340.out; have hnb139 := NB340_318.out; have hnc139 := NB318_340.out
             have hcz140_0 : w117.cell? ⟨gb340, 0, none⟩ = some (.int .i64 0) := bc_ BK340 0
             have hcz140_1 : w117.cell? ⟨gb340, 1, none⟩ = some (.slice none 0 0) := bc_ BK340 1
             have hfz140_0 := blk_frozen BK340.out 0; have hfz140_1 := blk_frozen BK340.out 1; have hnb141 := NB307_296.out; have hnc141 := NB296_307.out; have hnb142 := NB307_312.out; have hnc142 := NB312_307.out; have hnb143 := NB307_318.out; have hnc143 := NB318_307.out
             have hcz144_0 : w117.cell? ⟨gb307, 0, none⟩ = some (.int .i64 t302) := bc_ BK307 0
             have hcz144_1 : w117.cell? ⟨gb307, 1, none⟩ = some (.slice Ao22 t303.length co22) := bc_ BK307 1
             have hfz144_0 := blk_frozen BK307.out 0; have hfz144_1 := blk_frozen BK307.out 1
             go_wp2_with (first | ((with_reducible refine gate_callee (f := 15) rfl ?_); refine goesL_ (some 81) rfl rfl Tryd.func15 (by kernel_rfl) rfl #[.agg #[.int .i64 t335, .slice Ao123 t336.length co123], .agg #[.int .i64 t302, .slice Ao22 t303.length co22]] rfl ma_ ?_; (with_reducible refine (laws_eqWhole.calls kj59 t335 _ _ t336 t302 _ _ t303 false _ ?side1 ?side2 ?side3 ?side4 A124.out).mono ?_); (case side1 => refine (Kd.R_reads' (e := 2) (base := w.heap.size) (ok := fun k_ => ((((True ∧ some k_ ≠ (.slice Ao22 t303.length co22 : Value).ownBlock) ∧ some k_ ≠ (.slice Ao29 t326.length co29 : Value).ownBlock) ∧ some k_ ≠ (.slice Ao36 t314.length co36 : Value).ownBlock) ∧ some k_ ≠ (.slice Ao115 t332.length co115 : Value).ownBlock)) (n := t336.length) (c := co123) ?_).2.2; exact (rg_ HO338 BK340)); (case side2 => exact (Kd.R_reads' HO338.out).2.1); (case side3 => refine (Kd.R_reads' (e := 2) (base := w.heap.size) (ok := fun k_ => (((some k_ ≠ (.slice Ao29 t326.length co29 : Value).ownBlock ∧ some k_ ≠ (.slice Ao36 t314.length co36 : Value).ownBlock) ∧ some k_ ≠ (.slice Ao115 t332.length co115 : Value).ownBlock) ∧ some k_ ≠ (.slice Ao123 t336.length co123 : Value).ownBlock)) (n := t303.length) (c := co22) ?_).2.2; exact (rg_ HO_308001 BK340)); (case side4 => exact (Kd.R_reads' HO_308001.out).2.1); rintro e w145 ⟨rfl, hb⟩; refine ⟨_, rfl, ?_⟩; replace HO_308001 := am_ (Kd.R_below (rg_ HO_308001 BK340) hb); replace HO_313001 := am_ (Kd.R_below (rg_ HO_313001 BK340) hb); replace HO_319001 := am_ (Kd.R_below (rg_ HO_319001 BK340) hb); replace HO334 := am_ (Kd.R_below (rg_ HO334 BK340) hb); replace HO338 := am_ (Kd.R_below (rg_ HO338 BK340) hb); replace BK296 := am_ (blk_below (bk_ BK296) hb); replace BK307 := am_ (blk_below (bk_ BK307) hb); replace BK312 := am_ (blk_below (bk_ BK312) hb); replace BK318 := am_ (blk_below (bk_ BK318) hb); replace BK340 := am_ (blk_below (bp2_ BK340) hb); replace HB := am_ (below_step (bl_ HB) hb); (try clear hb); (try clear hb2); (try clear hk); (try clear hi)))
             go_meet
             case rel => exact ⟨_, (true), (by first | rfl | (simp; done) | (simp [*]; done)), H', ⟨by have := HJ10.out; have := HJ59.out; first | omega | exact Nat.le_refl _⟩, ⟨by (try simp only [hl313001_59]); (with_reducible repeat (first | apply Kd.R_alloc | apply Kd.R_drewN | apply Kd.R_drew)); exact Kd.R_mono HO_308001.out (fun _ hk => ⟨hk.1.1.1, ⟨hk.1.1.2, hk.2⟩⟩)⟩, ⟨by (try simp only [hl313001_59]); (with_reducible repeat (first | apply Kd.R_alloc | apply Kd.R_drewN | apply Kd.R_drew)); exact Kd.R_mono HO_313001.out (fun _ hk => ⟨hk.1.1.1, ⟨hk.1.1.2, hk.2⟩⟩)⟩, ⟨by (try simp only [hl313001_59]); (with_reducible repeat (first | apply Kd.R_alloc | apply Kd.R_drewN | apply Kd.R_drew)); exact Kd.R_mono HO_319001.out (fun _ hk => ⟨hk.1.1.1, ⟨hk.1.1.2, hk.2⟩⟩)⟩, ⟨by (try simp only [hl313001_59]); (with_reducible repeat (first | apply Kd.R_alloc | apply Kd.R_drewN | apply Kd.R_drew)); exact Kd.R_mono HO338.out (fun _ hk => ⟨hk.1.1.1.2, ⟨hk.1.1.2, hk.1.2⟩⟩)⟩, ⟨by (try simp only [hl313001_59]); (with_reducible repeat (first | refine blk_drewN ?_ _ | refine blk_drew ?_ | refine blk_alloc ?_ _)); exact BK296.out⟩, ⟨by (try simp only [hl313001_59]); (with_reducible repeat (first | refine blk_drewN ?_ _ | refine blk_drew ?_ | refine blk_alloc ?_ _)); exact BK307.out⟩, ⟨by (try simp only [hl313001_59]); (with_reducible repeat (first | refine blk_drewN ?_ _ | refine blk_drew ?_ | refine blk_alloc ?_ _)); exact BK312.out⟩, ⟨by (try simp only [hl313001_59]); (with_reducible repeat (first | refine blk_drewN ?_ _ | refine blk_drew ?_ | refine blk_alloc ?_ _)); exact BK318.out⟩, ⟨by (try simp only [hl313001_59]); (with_reducible repeat (first | refine blk_drewN ?_ _ | refine blk_drew ?_ | refine blk_alloc ?_ _)); exact BK340.out⟩, ⟨bl_ HB⟩⟩
           case rest =>
            clear HC103; try clear c1; try clear c2; try clear p2; try clear c3; try clear c3b0; try clear c4; try clear c5; try clear c6; try clear c7; try clear c8; try clear c9; try clear c10; try clear c11; try clear c12; try clear c13; try clear c14; try clear c15; try clear c16; try clear c17; try clear c20; try clear c21; try clear c26; try clear c27; try clear c32; try clear c33; try clear c34; try clear c38; try clear c39; try clear c40; try clear c41; try clear c43; try clear c44; try clear c47; try clear c48; try clear c49; try clear c51; try clear c52; try clear c55; try clear c58; try clear c65; try clear c66; try clear c67; try clear c70; try clear c70b0; try clear c72; try clear c73; try clear c74; try clear c75; try clear c77; try clear c78; try clear c81; try clear c82; try clear c83; try clear c85; try clear c86; try clear c89; try clear c92; try clear c92b0; try clear c93; try clear c94; try clear c95; try clear c100; try clear c100b0; try clear c100b1; try clear c104; try clear c105; try clear c106; try clear c111; try clear c112; try clear c118; try clear c119; try clear c120; try clear c121; try clear c125; try clear c126; try clear c127; try clear c128; try clear c129; try clear c131; try clear c132; try clear c133; try clear c136; try clear c137; try clear c138; try clear c139; try clear c141; try clear c142; try clear c143; try clear hcz107_0; try clear hcz107_1; try clear hcz109_0; try clear hcz109_1; try clear hcz113_0; try clear hcz113_1; try clear hcz122_0; try clear hcz122_1; try clear hcz130_0; try clear hcz130_1; try clear hcz134_0; try clear hcz134_1; try clear hcz13_0; try clear hcz13_1; try clear hcz140_0; try clear hcz140_1; try clear hcz144_0; try clear hcz144_1; try clear hcz15_0; try clear hcz15_1; try clear hcz21_0; try clear hcz21_1; try clear hcz23_0; try clear hcz23_1; try clear hcz28_0; try clear hcz28_1; try clear hcz35_0; try clear hcz35_1; try clear hcz42_0; try clear hcz42_1; try clear hcz45_0; try clear hcz45_1; try clear hcz50_0
            try clear hcz50_1; try clear hcz53_0; try clear hcz53_1; try clear hcz5_0; try clear hcz5_1; try clear hcz68_0; try clear hcz68_1; try clear hcz76_0; try clear hcz76_1; try clear hcz79_0; try clear hcz79_1; try clear hcz84_0; try clear hcz84_1; try clear hcz87_0; try clear hcz87_1; try clear hcz96_0; try clear hcz96_1; try clear hcz98_0; try clear hcz98_1; try clear hfz107_0; try clear hfz107_1; try clear hfz109_0; try clear hfz109_1; try clear hfz113_0; try clear hfz113_1; try clear hfz122_0; try clear hfz122_1; try clear hfz130_0; try clear hfz130_1; try clear hfz134_0; try clear hfz134_1; try clear hfz13_0; try clear hfz13_1; try clear hfz140_0; try clear hfz140_1; try clear hfz144_0; try clear hfz144_1; try clear hfz15_0; try clear hfz15_1; try clear hfz21_0; try clear hfz21_1; try clear hfz23_0; try clear hfz23_1; try clear hfz28_0; try clear hfz28_1; try clear hfz35_0; try clear hfz35_1; try clear hfz42_0; try clear hfz42_1; try clear hfz45_0; try clear hfz45_1; try clear hfz50_0; try clear hfz50_1; try clear hfz53_0; try clear hfz53_1; try clear hfz5_0; try clear hfz5_1; try clear hfz68_0; try clear hfz68_1; try clear hfz76_0; try clear hfz76_1; try clear hfz79_0; try clear hfz79_1; try clear hfz84_0; try clear hfz84_1; try clear hfz87_0; try clear hfz87_1; try clear hfz96_0; try clear hfz96_1; try clear hfz98_0; try clear hfz98_1; try clear p2
            obtain ⟨kq, x87_102, rfl, HA, HJ102, HO_308001, HO_313001, HO_319001, HO_341001, BK296, BK307, BK312, BK318, BK340, HB⟩ := hcut
            have hl319001_102 := (Kd.R_reads' HO_319001.out).1
            rw [hl319001_102] at HO_319001
            (try simp only [hl319001_102])
            (try simp only [hl319001_102] at BK296)
            (try simp only [hl319001_102] at BK307)
            (try simp only [hl319001_102] at BK312)
            (try simp only [hl319001_102] at BK318)
            (try simp only [hl319001_102] at BK340)
            (try simp only [hl319001_102] at HO_308001)
            (try simp only [hl319001_102] at HO_313001)
            (try simp only [hl319001_102] at HO_341001)
            cases kq with
            | zero => exact absurd HA.out (by simp [laws_FnExactRootOfWhole.j2])
            | succ kj102 =>
             have H := HA.out; clear HA
             simp only [laws_FnExactRootOfWhole.j2] at H
             by_cases c146 : x87_102 = true
             ·subst c146
              have H1 : (some false) = some r := by rw [if_pos rfl] at H; exact H
              clear H; have H := H1; clear H1; obtain rfl := Option.some.inj H
              go_wp2
              go_ret
              exact ⟨by first | rfl | (simp [errW_none, errW_some] <;> rfl) | (simp [*, errW_none, errW_some] <;> rfl), bl_ HB⟩
             ·replace c146 := Bool.eq_false_iff.mpr c146
              subst c146
              have H1 : ((laws_heldWhole.f kj102 t313 t329 1).bind fun t342 => (if t342 < 0 then (some false) else (if t342 = t328 then (some true) else (some false)))) = some r := by rw [if_neg (show ¬ (false = true) by decide)] at H; exact H
              clear H; have H := H1; clear H1
              replace H := Option.bind_eq_some_iff.mp H
              obtain ⟨t342, A1470, H⟩ := H
              replace H : (if t342 < 0 then (some false) else (if t342 = t328 then (some true) else (some false))) = some r := H
              have A147 := Aside0.mk A1470; clear A1470
              by_cases c148 : t342 < 0
              ·rw [if_pos c148] at H
               have c148b0 : decide (t342 < 0) = true := decide_eq_true c148
               clear c148; obtain rfl := Option.some.inj H; have hnb149 := NB318_296.out; have hnc149 := NB296_318.out; have hnb150 := NB318_307.out; have hnc150 := NB307_318.out; have hnb151 := NB318_312.out; have hnc151 := NB312_318.out; have hnb152 := NB318_340.out; have hnc152 := NB340_318.out
               have hcz153_0 : wc.cell? ⟨gb318, 0, none⟩ = some (.int .i64 t313) := bc_ BK318 0
               have hcz153_1 : wc.cell? ⟨gb318, 1, none⟩ = some (.slice Ao36 t329.length co36) := bc_ BK318 1
               have hfz153_0 := blk_frozen BK318.out 0; have hfz153_1 := blk_frozen BK318.out 1
               go_wp2_with (first | ((with_reducible refine gate_callee (f := 17) rfl ?_); refine goesL_ (some 90) rfl rfl Tryd.func17 (by kernel_rfl) rfl #[.agg #[.int .i64 t313, .slice Ao36 t329.length co36], .int .i64 1] rfl ma_ ?_; (with_reducible refine (laws_heldWhole.calls kj102 t313 _ _ t329 1 t342 _ ?side1 ?side2 A147.out).mono ?_); (case side1 => exact cr_ HO_319001); (case side2 => exact (Kd.R_reads' HO_319001.out).2.1); rintro e w154 ⟨rfl, hb⟩; refine ⟨_, rfl, ?_⟩; replace HO_308001 := am_ (Kd.R_below (kr_ HO_308001) hb); replace HO_313001 := am_ (Kd.R_below (kr_ HO_313001) hb); replace HO_319001 := am_ (Kd.R_below (kr_ HO_319001) hb); replace HO_341001 := am_ (Kd.R_below (kr_ HO_341001) hb); replace BK296 := am_ (blk_below (bk_ BK296) hb); replace BK307 := am_ (blk_below (bk_ BK307) hb); replace BK312 := am_ (blk_below (bk_ BK312) hb); replace BK318 := am_ (blk_below (bk_ BK318) hb); replace BK340 := am_ (blk_below (bk_ BK340) hb); replace HB := am_ (below_step (bl_ HB) hb); (try clear hb); (try clear hb2); (try clear hk); (try clear hi)))
               go_ret
               exact ⟨by first | rfl | (simp [errW_none, errW_some] <;> rfl) | (simp [*, errW_none, errW_some] <;> rfl), bl_ HB⟩
              ·rw [if_neg c148] at H
               have c148b0 : decide (t342 < 0) = false := decide_eq_false c148
               clear c148
               by_cases c155 : t342 = t328
               ·rw [if_pos c155] at H
                have c155b0 : (t342 == t328) = true := beq_iff_eq.mpr c155
                have c155b1 : (t342 != t328) = false := bne_eq_false_iff_eq.mpr c155
                clear c155; obtain rfl := Option.some.inj H; have hnb156 := NB318_296.out; have hnc156 := NB296_318.out; have hnb157 := NB318_307.out; have hnc157 := NB307_318.out; have hnb158 := NB318_312.out; have hnc158 := NB312_318.out; have hnb159 := NB318_340.out; have hnc159 := NB340_318.out
                have hcz160_0 : wc.cell? ⟨gb318, 0, none⟩ = some (.int .i64 t313) := bc_ BK318 0
                have hcz160_1 : wc.cell? ⟨gb318, 1, none⟩ = some (.slice Ao36 t329.length co36) := bc_ BK318 1
                have hfz160_0 := blk_frozen BK318.out 0; have hfz160_1 := blk_frozen BK318.out 1
                go_wp2_with (first | ((with_reducible refine gate_callee (f := 17) rfl ?_); refine goesL_ (some 90) rfl rfl Tryd.func17 (by kernel_rfl) rfl #[.agg #[.int .i64 t313, .slice Ao36 t329.length co36], .int .i64 1] rfl ma_ ?_; (with_reducible refine (laws_heldWhole.calls kj102 t313 _ _ t329 1 t342 _ ?side1 ?side2 A147.out).mono ?_); (case side1 => exact cr_ HO_319001); (case side2 => exact (Kd.R_reads' HO_319001.out).2.1); rintro e w161 ⟨rfl, hb⟩; refine ⟨_, rfl, ?_⟩; replace HO_308001 := am_ (Kd.R_below (kr_ HO_308001) hb); replace HO_313001 := am_ (Kd.R_below (kr_ HO_313001) hb); replace HO_319001 := am_ (Kd.R_below (kr_ HO_319001) hb); replace HO_341001 := am_ (Kd.R_below (kr_ HO_341001) hb); replace BK296 := am_ (blk_below (bk_ BK296) hb); replace BK307 := am_ (blk_below (bk_ BK307) hb); replace BK312 := am_ (blk_below (bk_ BK312) hb); replace BK318 := am_ (blk_below (bk_ BK318) hb); replace BK340 := am_ (blk_below (bk_ BK340) hb); replace HB := am_ (below_step (bl_ HB) hb); (try clear hb); (try clear hb2); (try clear hk); (try clear hi)))
                go_ret
                exact ⟨by first | rfl | (simp [errW_none, errW_some] <;> rfl) | (simp [*, errW_none, errW_some] <;> rfl), bl_ HB⟩
               ·rw [if_neg c155] at H
                have c155b0 : (t342 == t328) = false := beq_eq_false_iff_ne.mpr c155
                have c155b1 : (t342 != t328) = true := bne_iff_ne.mpr c155
                obtain rfl := Option.some.inj H; have hnb162 := NB318_296.out; have hnc162 := NB296_318.out; have hnb163 := NB318_307.out; have hnc163 := NB307_318.out; have hnb164 := NB318_312.out; have hnc164 := NB312_318.out; have hnb165 := NB318_340.out; have hnc165 := NB340_318.out
                have hcz166_0 : wc.cell? ⟨gb318, 0, none⟩ = some (.int .i64 t313) := bc_ BK318 0
                have hcz166_1 : wc.cell? ⟨gb318, 1, none⟩ = some (.slice Ao36 t329.length co36) := bc_ BK318 1
                have hfz166_0 := blk_frozen BK318.out 0; have hfz166_1 := blk_frozen BK318.out 1
                go_wp2_with (first | ((with_reducible refine gate_callee (f := 17) rfl ?_); refine goesL_ (some 90) rfl rfl Tryd.func17 (by kernel_rfl) rfl #[.agg #[.int .i64 t313, .slice Ao36 t329.length co36], .int .i64 1] rfl ma_ ?_; (with_reducible refine (laws_heldWhole.calls kj102 t313 _ _ t329 1 t342 _ ?side1 ?side2 A147.out).mono ?_); (case side1 => exact cr_ HO_319001); (case side2 => exact (Kd.R_reads' HO_319001.out).2.1); rintro e w167 ⟨rfl, hb⟩; refine ⟨_, rfl, ?_⟩; replace HO_308001 := am_ (Kd.R_below (kr_ HO_308001) hb); replace HO_313001 := am_ (Kd.R_below (kr_ HO_313001) hb); replace HO_319001 := am_ (Kd.R_below (kr_ HO_319001) hb); replace HO_341001 := am_ (Kd.R_below (kr_ HO_341001) hb); replace BK296 := am_ (blk_below (bk_ BK296) hb); replace BK307 := am_ (blk_below (bk_ BK307) hb); replace BK312 := am_ (blk_below (bk_ BK312) hb); replace BK318 := am_ (blk_below (bk_ BK318) hb); replace BK340 := am_ (blk_below (bk_ BK340) hb); replace HB := am_ (below_step (bl_ HB) hb); (try clear hb); (try clear hb2); (try clear hk); (try clear hi)))
                go_ret
                exact ⟨by first | rfl | (simp [errW_none, errW_some] <;> rfl) | (simp [*, errW_none, errW_some] <;> rfl), bl_ HB⟩
          ·rw [if_neg c100] at H
           have c100b0 : (t330 == t328) = false := beq_eq_false_iff_ne.mpr c100
           have c100b1 : (t330 != t328) = true := bne_iff_ne.mpr c100
           obtain rfl := Option.some.inj H; have hnb168 := NB318_296.out; have hnc168 := NB296_318.out; have hnb169 := NB318_307.out; have hnc169 := NB307_318.out; have hnb170 := NB318_312.out; have hnc170 := NB312_318.out
           have hcz171_0 : wc.cell? ⟨gb318, 0, none⟩ = some (.int .i64 t313) := bc_ BK318 0
           have hcz171_1 : wc.cell? ⟨gb318, 1, none⟩ = some (.slice Ao36 t314.length co36) := bc_ BK318 1
           have hfz171_0 := blk_frozen BK318.out 0; have hfz171_1 := blk_frozen BK318.out 1
           go_wp2_with (first | ((with_reducible refine gate_callee (f := 16) rfl ?_); refine goesL_ (some 64) rfl rfl Tryd.func16 (by kernel_rfl) rfl #[.agg #[.int .i64 t313, .slice Ao36 t314.length co36], .int .i64 1] rfl ma_ ?_; (with_reducible refine (laws_markWhole.calls kj59 t313 (fun k_ => some k_ = (.slice Ao36 t314.length co36 : Value).ownBlock) (.slice Ao36 t314.length co36) t314 1 t328 t329 w _ ?side1 ?side2 A90.out).mono ?_); (case side1 => exact bl_ HB); (case side2 => exact Kd.R_tight rfl HO_319001.out); rintro e w172 ⟨rfl, hy0, hb, hkp⟩; refine ⟨_, rfl, ?_⟩; have n0_ := am_ (Kd.R_mono (ok' := fun k_ => some k_ ≠ (.slice Ao29 t326.length co29 : Value).ownBlock ∧ some k_ ≠ (.slice Ao36 t314.length co36 : Value).ownBlock) (Kd.R_keptB (HO_308001.out) hkp (fun k_ hk_ hs_ => (hk_.2) hs_)) (fun k_ hk_ => ⟨hk_.1.1, hk_.1.2⟩)); have n1_ := am_ (Kd.R_mono (ok' := fun k_ => some k_ ≠ (.slice Ao22 t303.length co22 : Value).ownBlock ∧ some k_ ≠ (.slice Ao36 t314.length co36 : Value).ownBlock) (Kd.R_keptB (HO_313001.out) hkp (fun k_ hk_ hs_ => (hk_.2) hs_)) (fun k_ hk_ => ⟨hk_.1.1, hk_.1.2⟩)); have n2_ := am_ (Kd.R_reok rfl hy0 (fun k_ e_ => HO_319001.out.1 k_ e_)); have n3_ := am_ (blk_kept (bk_ BK296) hkp (fun hs_ => (fun e_ => (Kd.R_ne HO_319001.out BK296.out (by decide)) e_) hs_)); have n4_ := am_ (blk_kept (bk_ BK307) hkp (fun hs_ => (fun e_ => (Kd.R_ne HO_319001.out BK307.out (by decide)) e_) hs_)); have n5_ := am_ (blk_kept (bk_ BK312) hkp (fun hs_ => (fun e_ => (Kd.R_ne HO_319001.out BK312.out (by decide)) e_) hs_)); have n6_ := am_ (blk_kept (bk_ BK318) hkp (fun hs_ => (fun e_ => (Kd.R_ne HO_319001.out BK318.out (by decide)) e_) hs_)); have n7_ := am_ (hb); clear HO_308001; clear HO_313001; clear HO_319001; clear BK296; clear BK307; clear BK312; clear BK318; clear HB; have HO_308001 := n0_; have HO_313001 := n1_; have HO_319001 := n2_; have BK296 := n3_; have BK307 := n4_; have BK312 := n5_; have BK318 := n6_; have HB := n7_; clear n0_ n1_ n2_ n3_ n4_ n5_ n6_ n7_; (try clear hb); (try clear hkp); (try clear hy0); have hcz173_0 : w172.cell? ⟨gb318, 0, none⟩ = some (.int .i64 t313) := bc_ BK318 0; have hcz173_1 : w172.cell? ⟨gb318, 1, none⟩ = some (.slice Ao36 t314.length co36) := bc_ BK318 1; have hfz173_0 := blk_frozen BK318.out 0; have hfz173_1 := blk_frozen BK318.out 1) | ((with_reducible refine gate_callee (f := 17) rfl ?_); refine goesL_ (some 67) rfl rfl Tryd.func17 (by kernel_rfl) rfl #[.agg #[.int .i64 t313, .slice Ao36 t329.length co36], .int .i64 1] rfl (by (try simp only [List.map_toArray, List.map_cons, List.map_nil]); first | done | (rw [show t329.length = t314.length from (Kd.R_reads' HO_319001.out).1.symm] <;> rfl) | rfl | (simp only [List.length_drop, List.length_take]; rfl)) ?_; (with_reducible refine (laws_heldWhole.calls kj59 t313 _ _ t329 1 t330 _ ?side1 ?side2 A91.out).mono ?_); (case side1 => exact cr_ HO_319001); (case side2 => rw [show t329.length = t314.length from (Kd.R_reads' HO_319001.out).1.symm]; exact (Kd.R_reads' HO_319001.out).2.1); rintro e w174 ⟨rfl, hb⟩; refine ⟨_, rfl, ?_⟩; replace HO_308001 := am_ (Kd.R_below (kr_ HO_308001) hb); replace HO_313001 := am_ (Kd.R_below (kr_ HO_313001) hb); replace HO_319001 := am_ (Kd.R_below (kr_ HO_319001) hb); replace BK296 := am_ (blk_below (bk_ BK296) hb); replace BK307 := am_ (blk_below (bk_ BK307) hb); replace BK312 := am_ (blk_below (bk_ BK312) hb); replace BK318 := am_ (blk_below (bk_ BK318) hb); replace HB := am_ (below_step (bl_ HB) hb); (try clear hb); (try clear hb2); (try clear hk); (try clear hi)))
           go_ret
           exact ⟨by first | rfl | (simp [errW_none, errW_some] <;> rfl) | (simp [*, errW_none, errW_some] <;> rfl), bl_ HB⟩
     ·replace c58 := Bool.eq_false_iff.mpr c58
      subst c58
      have H1 : (some false) = some r := by rw [if_neg (show ¬ (false = true) by decide)] at H; exact H
      clear H; have H := H1; clear H1; obtain rfl := Option.some.inj H
      try go_wp2
      have n0_ := am_ (Kd.R_drew HO_308001.out); have n1_ := am_ (Kd.R_drew HO_313001.out); have n2_ := am_ (Kd.R_drew HO_319001.out); have n3_ := am_ (blk_drew BK296.out); have n4_ := am_ (blk_drew BK307.out); have n5_ := am_ (blk_drew BK312.out); have n6_ := am_ (blk_drew BK318.out); have n7_ := am_ (below_drew1 HB.out); clear HO_308001 HO_313001 HO_319001 BK296 BK307 BK312 BK318 HB; have HO_308001 := n0_; have HO_313001 := n1_; have HO_319001 := n2_; have BK296 := n3_; have BK307 := n4_; have BK312 := n5_; have BK318 := n6_; have HB := n7_; clear n0_ n1_ n2_ n3_ n4_ n5_ n6_ n7_
      refine start_ (n := 5) (S := fun w' => w'.cell? ⟨gb312, 0, none⟩ = some (.int .i64 t308) ∧ w'.cell? ⟨gb312, 1, none⟩ = some (.slice Ao29 t309.length co29) ∧ w'.cell? ⟨gb296, 0, none⟩ = some (.int .i64 a0_0) ∧ w'.cell? ⟨gb296, 1, none⟩ = some (.slice A0_1 l0_1.length c0_1)) (ds := []) #[false, false, false, false, false] (by kernel_rfl) rfl rfl ⟨bc_ BK312 0, bc_ BK312 1, bc_ BK296 0, bc_ BK296 1⟩ (fun hHeld => ?_)
      generalize wc.drew = w175 at HO_308001 HO_313001 HO_319001 BK296 BK307 BK312 BK318 HB hHeld ⊢
      refine take_ (i := 0) (N := some 41) (v := ?_) (a' := ?_) #[true, false, false, false, false] rfl rfl (by kernel_rfl) (fun _ _ _ h => h) (Or.inl ⟨by rfl, ?_⟩) hHeld ?_ ?_
      rotate_left
      ·rintro w' ⟨s0, s1, s2, s3⟩
       go_simp
       with_reducible rfl
      rotate_left
      ·exact nm_
      refine take_ (i := 1) (N := some 42) (v := ?_) (a' := ?_) #[true, true, false, false, false] rfl rfl (by kernel_rfl) (fun _ _ _ h => h) (Or.inl ⟨by rfl, ?_⟩) hHeld ?_ ?_
      rotate_left
      ·rintro w' ⟨s0, s1, s2, s3⟩
       go_simp
       with_reducible rfl
      rotate_left
      ·exact nm_
      refine one_ (i := 2) (N := some 43) #[true, true, true, false, false] rfl rfl (by kernel_rfl) (by decide) (fun K hK => ?_)
      refine goes_ Tryd.func13 (by kernel_rfl) rfl #[.agg #[.int .i64 a0_0, .slice A0_1 l0_1.length c0_1]] (by rfl) rfl rfl ma_ ?_
      with_reducible refine (laws_toWhole.calls kj10 a0_0 _ _ l0_1 t320 t321 _ ?side1 ?side2 A56.out).mono ?_
      (case side1 => exact cb_ HR0_1 HB)
      (case side2 => exact HC0_1.out)
      rintro e w176 ⟨v322, rfl, ho0, hb⟩
      refine ⟨_, rfl, ?_⟩
      have n0_ := am_ (Kd.R_elder' (kr_ HO_308001) (Kd.R_base ho0) hb); have n1_ := am_ (Kd.R_elder' (kr_ HO_313001) (Kd.R_base ho0) hb); have n2_ := am_ (Kd.R_elder' (kr_ HO_319001) (Kd.R_base ho0) hb); have n3_ := am_ (Kd.R_lower (Kd.R_new' (Kd.R_new' (Kd.R_new' ho0 (Kd.R_lt (kr_ HO_308001))) (Kd.R_lt (kr_ HO_313001))) (Kd.R_lt (kr_ HO_319001))) (below_size (bl_ HB))); have n4_ := am_ (blk_below (bk_ BK296) hb); have n5_ := am_ (blk_below (bk_ BK307) hb); have n6_ := am_ (blk_below (bk_ BK312) hb); have n7_ := am_ (blk_below (bk_ BK318) hb); have n8_ := am_ (below_step (bl_ HB) hb); clear HO_308001 HO_313001 HO_319001 BK296 BK307 BK312 BK318 HB; have HO_308001 := n0_; have HO_313001 := n1_; have HO_319001 := n2_; have HO323 := n3_; have BK296 := n4_; have BK307 := n5_; have BK312 := n6_; have BK318 := n7_; have HB := n8_; clear n0_ n1_ n2_ n3_ n4_ n5_ n6_ n7_ n8_; (try clear hb); (try clear hb2); (try clear hk); (try clear hi); (try clear ho0)
      obtain ⟨Ao177, co177, eo177⟩ := Kd.R_slice HO323.out
      (first | subst eo177 | (injection eo177 with f1_ f2_ f3_; have f4_ := f1_.symm; have f5_ := f3_.symm; clear f1_ f2_ f3_; subst f4_; subst f5_))
      refine hK.out _ _ ⟨bc_ BK312 0, bc_ BK312 1, bc_ BK296 0, bc_ BK296 1⟩ (fun hHeld => ?_)
      clear hK K
      refine norm_ (a' := ?_) ?_ ?_
      rotate_left
      ·show Act.put _ (some 43) _ = _
       exact nm_
      refine one_ (i := 3) (N := some 44) #[true, true, true, true, false] rfl rfl (by kernel_rfl) (by decide) (fun K hK => ?_)
      refine goes_ Tryd.func15 (by kernel_rfl) rfl #[.agg #[.int .i64 t308, .slice Ao29 t309.length co29], .agg #[.int .i64 t320, .slice Ao177 t321.length co177]] (by rfl) rfl rfl ma_ ?_
      with_reducible refine (laws_eqWhole.calls kj10 t308 _ _ t309 t320 _ _ t321 false _ ?side1 ?side2 ?side3 ?side4 A57.out).mono ?_
      (case side1 => exact cr_ HO_313001)
      (case side2 => exact (Kd.R_reads' HO_313001.out).2.1)
      (case side3 => exact cr_ HO323)
      (case side4 => exact (Kd.R_reads' HO323.out).2.1)
      rintro e w178 ⟨rfl, hb⟩
      refine ⟨_, rfl, ?_⟩
      have n0_ := am_ (Kd.R_below (kr_ HO_308001) hb); have n1_ := am_ (Kd.R_below (kr_ HO_313001) hb); have n2_ := am_ (Kd.R_below (kr_ HO_319001) hb); have n3_ := am_ (Kd.R_below (kr_ HO323) hb); have n4_ := am_ (blk_below (bk_ BK296) hb); have n5_ := am_ (blk_below (bk_ BK307) hb); have n6_ := am_ (blk_below (bk_ BK312) hb); have n7_ := am_ (blk_below (bk_ BK318) hb); have n8_ := am_ (below_step (bl_ HB) hb); clear HO_308001 HO_313001 HO_319001 HO323 BK296 BK307 BK312 BK318 HB; have HO_308001 := n0_; have HO_313001 := n1_; have HO_319001 := n2_; have HO323 := n3_; have BK296 := n4_; have BK307 := n5_; have BK312 := n6_; have BK318 := n7_; have HB := n8_; clear n0_ n1_ n2_ n3_ n4_ n5_ n6_ n7_ n8_; (try clear hb); (try clear hb2); (try clear hk); (try clear hi)
      refine hK.out _ _ ⟨bc_ BK312 0, bc_ BK312 1, bc_ BK296 0, bc_ BK296 1⟩ (fun hHeld => ?_)
      clear hK K
      refine norm_ (a' := ?_) ?_ ?_
      rotate_left
      ·show Act.put _ (some 44) _ = _
       exact nm_
      refine pure_ (i := 4) (N := some 45) (v := ?_) (a' := ?_) #[true, true, true, true, true] rfl rfl (by kernel_rfl) (fun _ _ _ h => h) (Or.inl ⟨by rfl, ?_⟩) ?_ ?_
      rotate_left
      ·intro w'
       go_simp
       with_reducible rfl
      rotate_left
      ·exact nm_
      refine done_ (by kernel_rfl) ?_
      try go_wp2
      go_ret
      exact ⟨by first | rfl | (simp [errW_none, errW_some] <;> rfl) | (simp [*, errW_none, errW_some] <;> rfl), bl_ HB⟩

end Go.Proofs.YtghhphndbbefjaaDoor.X
