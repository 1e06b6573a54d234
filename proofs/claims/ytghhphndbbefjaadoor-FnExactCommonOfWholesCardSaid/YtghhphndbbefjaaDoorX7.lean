/- Functions of the program as plain Lean functions, each with a proof that its call does what that function says. Printed by a program over the kit's print; conditions stand in each contract. -/
import Derived.Test.YtghhphndbbefjaaDoorSq
import Derived.Test.YtghhphndbbefjaaDoorBnd11
import Derived.Test.YtghhphndbbefjaaDoorX0
import Derived.Test.YtghhphndbbefjaaDoorX1
import Derived.Test.YtghhphndbbefjaaDoorX6
namespace Go.Proofs.YtghhphndbbefjaaDoor.X
open Go.RowKit Go.Proofs.YtghhphndbbefjaaDoorW.PrintWords Go.Proofs.YtghhphndbbefjaaDoorW.PrintLast Go.Proofs.YtghhphndbbefjaaDoorW.PrintMore Go.Proofs.YtghhphndbbefjaaDoor.Sq
attribute [local go_sem] max2_int min2_int max_two min_two max_three min_three max_four min_four   -- for this text's walks alone
set_option linter.unusedVariables false
set_option linter.unusedSimpArgs false

/-! ### laws_FnExactCommonOfWholes: function 6 -/
mutual
def laws_FnExactCommonOfWholes.j0 : Nat → Int → Int → Bool → Int → List Int → Int → List Int → Int → List Int → Int → List Int → Int → List Int → Int → List Int → Option (Bool)
  | 0, _, _, _, _, _, _, _, _, _, _, _, _, _, _, _ => none
  | k + 1, x7, x11, x53, x344000, x344001, x345000, x345001, x361000, x361001, x366000, x366001, x371000, x371001, x377000, x377001 => if x53 = true then (some false) else ((laws_toWhole.f k x344000 x344001).bind fun bt378 => ((laws_eqWhole.f k x366000 x366001 bt378.1 bt378.2).bind fun t382 => (if t382 = true then ((laws_toWhole.f k x345000 x345001).bind fun bt383 => ((laws_eqWhole.f k x371000 x371001 bt383.1 bt383.2).bind fun t387 => (if t387 = true then ((laws_markWhole.f k x366000 x366001 1).bind fun bt388 => ((laws_markWhole.f k x371000 x371001 bt388.1).bind fun bt390 => (if bt390.1 < 0 then (laws_FnExactCommonOfWholes.j1 k x7 true x344000 x344001 x345000 x345001 x361000 x361001 x377000 x377001) else ((laws_eqWhole.f k x377000 x377001 x361000 x361001).bind fun t392 => (if t392 = true then (laws_FnExactCommonOfWholes.j1 k x7 (x11 != x7) x344000 x344001 x345000 x345001 x361000 x361001 x377000 x377001) else (laws_FnExactCommonOfWholes.j1 k x7 true x344000 x344001 x345000 x345001 x361000 x361001 x377000 x377001)))))) else (some false)))) else (some false))))
def laws_FnExactCommonOfWholes.j1 : Nat → Int → Bool → Int → List Int → Int → List Int → Int → List Int → Int → List Int → Option (Bool)
  | 0, _, _, _, _, _, _, _, _, _, _ => none
  | k + 1, x7, x82, x344000, x344001, x345000, x345001, x361000, x361001, x377000, x377001 => if x82 = true then (some false) else ((laws_markWhole.f k x377000 x377001 1).bind fun bt393 => ((laws_heldWhole.f k x377000 bt393.2 1).bind fun t395 => (if t395 < 0 then (some false) else (if t395 = bt393.1 then ((laws_toWhole.f k x344000 x344001).bind fun bt396 => ((laws_toWhole.f k x345000 x345001).bind fun bt400 => ((impl_CommonOfWholes.f bt396.1 bt396.2 bt400.1 bt400.2).bind fun bt404 => ((laws_eqWhole.f k bt404.1 bt404.2.1 x361000 x361001).bind fun t410 => (if t410 = true then (laws_FnExactCommonOfWholes.j2 k bt393.1 (bt404.2.2 != x7) x377000 bt393.2) else (laws_FnExactCommonOfWholes.j2 k bt393.1 true x377000 bt393.2)))))) else (some false)))))
def laws_FnExactCommonOfWholes.j2 : Nat → Int → Bool → Int → List Int → Option (Bool)
  | 0, _, _, _, _ => none
  | k + 1, x13, x110, x377000, x377001 => if x110 = true then (some false) else ((laws_heldWhole.f k x377000 x377001 1).bind fun t411 => (if t411 < 0 then (some false) else (if t411 = x13 then (some true) else (some false))))
end
def laws_FnExactCommonOfWholes.f (k : Nat) (a0_0 : Int) (l0_1 : List Int) (a1_0 : Int) (l1_1 : List Int) : Option (Bool) := (laws_szWhole.f a0_0 l0_1 1048576).bind fun t345 => (if t345 < 0 then (some true) else ((laws_szWhole.f a1_0 l1_1 t345).bind fun t346 => (if t346 < 0 then (some true) else ((laws_toWhole.f k a0_0 l0_1).bind fun bt347 => ((laws_toWhole.f k a1_0 l1_1).bind fun bt351 => ((spec_CommonOfWholes.f k bt347.1 bt347.2 bt351.1 bt351.2).bind fun bt355 => ((laws_toWhole.f k a0_0 l0_1).bind fun bt361 => ((laws_toWhole.f k a1_0 l1_1).bind fun bt366 => ((impl_CommonOfWholes.f bt361.1 bt361.2 bt366.1 bt366.2).bind fun bt371 => ((laws_eqWhole.f k bt371.1 bt371.2.1 bt355.1 bt355.2.1).bind fun t377 => (if t377 = true then (laws_FnExactCommonOfWholes.j0 k bt355.2.2 bt371.2.2 (bt371.2.2 != bt355.2.2) a0_0 l0_1 a1_0 l1_1 bt355.1 bt355.2.1 bt361.1 bt361.2 bt366.1 bt366.2 bt371.1 bt371.2.1) else (laws_FnExactCommonOfWholes.j0 k bt355.2.2 bt371.2.2 true a0_0 l0_1 a1_0 l1_1 bt355.1 bt355.2.1 bt361.1 bt361.2 bt366.1 bt366.2 bt371.1 bt371.2.1))))))))))))
theorem laws_FnExactCommonOfWholes.mono_l : ∀ k, (∀ y0 y1 y2 y3 y4 y5 y6 y7 y8 y9 y10 y11 y12 y13 y14, LeO (laws_FnExactCommonOfWholes.j0 k y0 y1 y2 y3 y4 y5 y6 y7 y8 y9 y10 y11 y12 y13 y14) (laws_FnExactCommonOfWholes.j0 (k + 1) y0 y1 y2 y3 y4 y5 y6 y7 y8 y9 y10 y11 y12 y13 y14)) ∧ (∀ y0 y1 y2 y3 y4 y5 y6 y7 y8 y9, LeO (laws_FnExactCommonOfWholes.j1 k y0 y1 y2 y3 y4 y5 y6 y7 y8 y9) (laws_FnExactCommonOfWholes.j1 (k + 1) y0 y1 y2 y3 y4 y5 y6 y7 y8 y9)) ∧ (∀ y0 y1 y2 y3, LeO (laws_FnExactCommonOfWholes.j2 k y0 y1 y2 y3) (laws_FnExactCommonOfWholes.j2 (k + 1) y0 y1 y2 y3))
  | 0 => ⟨fun _ _ _ _ _ _ _ _ _ _ _ _ _ _ _ r h => by simp [laws_FnExactCommonOfWholes.j0] at h, fun _ _ _ _ _ _ _ _ _ _ r h => by simp [laws_FnExactCommonOfWholes.j1] at h, fun _ _ _ _ r h => by simp [laws_FnExactCommonOfWholes.j2] at h⟩
  | k + 1 => by
    obtain ⟨ih0, ih1, ih2⟩ := laws_FnExactCommonOfWholes.mono_l k
    refine ⟨?_, ?_, ?_⟩
    · intro y0 y1 y2 y3 y4 y5 y6 y7 y8 y9 y10 y11 y12 y13 y14
      unfold laws_FnExactCommonOfWholes.j0
      repeat' first
      | (with_reducible exact ih0 _ _ _ _ _ _ _ _ _ _ _ _ _ _ _)
      | (with_reducible exact ih1 _ _ _ _ _ _ _ _ _ _)
      | (with_reducible exact ih2 _ _ _ _)
      | (with_reducible exact laws_eqWhole.mono _ _ _ _ _)
      | (with_reducible exact laws_heldWhole.mono _ _ _ _)
      | (with_reducible exact laws_markWhole.mono _ _ _ _)
      | (with_reducible exact laws_toWhole.mono _ _ _)
      | (with_reducible exact spec_CommonOfWholes.mono _ _ _ _ _)
      | (with_reducible exact LeO.refl _)
      | (with_reducible exact LeO.none _)
      | (with_reducible refine LeO.ite ?_ ?_)
      | (with_reducible refine LeO.bind ?_ (fun _ => ?_))
      | exact ih0 _ _ _ _ _ _ _ _ _ _ _ _ _ _ _
      | exact ih1 _ _ _ _ _ _ _ _ _ _
      | exact ih2 _ _ _ _
      | exact laws_eqWhole.mono _ _ _ _ _
      | exact laws_heldWhole.mono _ _ _ _
      | exact laws_markWhole.mono _ _ _ _
      | exact laws_toWhole.mono _ _ _
      | exact spec_CommonOfWholes.mono _ _ _ _ _
      | exact LeO.none _
      | refine LeO.ite ?_ ?_
      | refine LeO.bind ?_ (fun _ => ?_)
    · intro y0 y1 y2 y3 y4 y5 y6 y7 y8 y9
      unfold laws_FnExactCommonOfWholes.j1
      repeat' first
      | (with_reducible exact ih0 _ _ _ _ _ _ _ _ _ _ _ _ _ _ _)
      | (with_reducible exact ih1 _ _ _ _ _ _ _ _ _ _)
      | (with_reducible exact ih2 _ _ _ _)
      | (with_reducible exact laws_eqWhole.mono _ _ _ _ _)
      | (with_reducible exact laws_heldWhole.mono _ _ _ _)
      | (with_reducible exact laws_markWhole.mono _ _ _ _)
      | (with_reducible exact laws_toWhole.mono _ _ _)
      | (with_reducible exact spec_CommonOfWholes.mono _ _ _ _ _)
      | (with_reducible exact LeO.refl _)
      | (with_reducible exact LeO.none _)
      | (with_reducible refine LeO.ite ?_ ?_)
      | (with_reducible refine LeO.bind ?_ (fun _ => ?_))
      | exact ih0 _ _ _ _ _ _ _ _ _ _ _ _ _ _ _
      | exact ih1 _ _ _ _ _ _ _ _ _ _
      | exact ih2 _ _ _ _
      | exact laws_eqWhole.mono _ _ _ _ _
      | exact laws_heldWhole.mono _ _ _ _
      | exact laws_markWhole.mono _ _ _ _
      | exact laws_toWhole.mono _ _ _
      | exact spec_CommonOfWholes.mono _ _ _ _ _
      | exact LeO.none _
      | refine LeO.ite ?_ ?_
      | refine LeO.bind ?_ (fun _ => ?_)
    · intro y0 y1 y2 y3
      unfold laws_FnExactCommonOfWholes.j2
      repeat' first
      | (with_reducible exact ih0 _ _ _ _ _ _ _ _ _ _ _ _ _ _ _)
      | (with_reducible exact ih1 _ _ _ _ _ _ _ _ _ _)
      | (with_reducible exact ih2 _ _ _ _)
      | (with_reducible exact laws_eqWhole.mono _ _ _ _ _)
      | (with_reducible exact laws_heldWhole.mono _ _ _ _)
      | (with_reducible exact laws_markWhole.mono _ _ _ _)
      | (with_reducible exact laws_toWhole.mono _ _ _)
      | (with_reducible exact spec_CommonOfWholes.mono _ _ _ _ _)
      | (with_reducible exact LeO.refl _)
      | (with_reducible exact LeO.none _)
      | (with_reducible refine LeO.ite ?_ ?_)
      | (with_reducible refine LeO.bind ?_ (fun _ => ?_))
      | exact ih0 _ _ _ _ _ _ _ _ _ _ _ _ _ _ _
      | exact ih1 _ _ _ _ _ _ _ _ _ _
      | exact ih2 _ _ _ _
      | exact laws_eqWhole.mono _ _ _ _ _
      | exact laws_heldWhole.mono _ _ _ _
      | exact laws_markWhole.mono _ _ _ _
      | exact laws_toWhole.mono _ _ _
      | exact spec_CommonOfWholes.mono _ _ _ _ _
      | exact LeO.none _
      | refine LeO.ite ?_ ?_
      | refine LeO.bind ?_ (fun _ => ?_)
theorem laws_FnExactCommonOfWholes.mono : ∀ a0 a1 a2 a3 k, LeO (laws_FnExactCommonOfWholes.f k a0 a1 a2 a3) (laws_FnExactCommonOfWholes.f (k + 1) a0 a1 a2 a3) := by
  intro a0 a1 a2 a3 k
  obtain ⟨ih0, ih1, ih2⟩ := laws_FnExactCommonOfWholes.mono_l k
  unfold laws_FnExactCommonOfWholes.f
  repeat' first
      | (with_reducible exact ih0 _ _ _ _ _ _ _ _ _ _ _ _ _ _ _)
      | (with_reducible exact ih1 _ _ _ _ _ _ _ _ _ _)
      | (with_reducible exact ih2 _ _ _ _)
      | (with_reducible exact laws_eqWhole.mono _ _ _ _ _)
      | (with_reducible exact laws_heldWhole.mono _ _ _ _)
      | (with_reducible exact laws_markWhole.mono _ _ _ _)
      | (with_reducible exact laws_toWhole.mono _ _ _)
      | (with_reducible exact spec_CommonOfWholes.mono _ _ _ _ _)
      | (with_reducible exact LeO.refl _)
      | (with_reducible exact LeO.none _)
      | (with_reducible refine LeO.ite ?_ ?_)
      | (with_reducible refine LeO.bind ?_ (fun _ => ?_))
      | exact ih0 _ _ _ _ _ _ _ _ _ _ _ _ _ _ _
      | exact ih1 _ _ _ _ _ _ _ _ _ _
      | exact ih2 _ _ _ _
      | exact laws_eqWhole.mono _ _ _ _ _
      | exact laws_heldWhole.mono _ _ _ _
      | exact laws_markWhole.mono _ _ _ _
      | exact laws_toWhole.mono _ _ _
      | exact spec_CommonOfWholes.mono _ _ _ _ _
      | exact LeO.none _
      | refine LeO.ite ?_ ?_
      | refine LeO.bind ?_ (fun _ => ?_)
def laws_FnExactCommonOfWholes.T8 : Bool × List (List Nat × List Nat) := (true, [([], []), ([0], [0]), ([], []), ([2, 1], [2]), ([1, 3, 3], [1, 3]), ([4], [4]), ([5], [5]), ([5], [5]), ([], []), ([8, 6, 4, 0, 1, 2, 3, 4, 5, 6, 8], [6, 8]), ([7, 9, 0, 1, 2, 3, 4, 5, 6, 7, 8, 9], [7])])
def laws_FnExactCommonOfWholes.B8 : List Nat := [0, 1, 0, 7, 15, 31, 63, 63, 0, 383, 1023]
theorem laws_FnExactCommonOfWholes.tab8 : rtab .any (opsOf Tryd.f6 8) = laws_FnExactCommonOfWholes.T8 := by kernel_rfl
theorem laws_FnExactCommonOfWholes.bits8 : waitsOk laws_FnExactCommonOfWholes.T8.2 laws_FnExactCommonOfWholes.B8 = true := by kernel_rfl
def laws_FnExactCommonOfWholes.T31 : Bool × List (List Nat × List Nat) := (true, [([], []), ([0], [0]), ([], []), ([2, 1], [2]), ([1, 3, 3], [1, 3]), ([4], [4]), ([5], [5]), ([5], [5]), ([], []), ([8, 6, 4, 0, 1, 2, 3, 4, 5, 6, 8], [6, 8]), ([7, 9, 0, 1, 2, 3, 4, 5, 6, 7, 8, 9], [7])])
def laws_FnExactCommonOfWholes.B31 : List Nat := [0, 1, 0, 7, 15, 31, 63, 63, 0, 383, 1023]
theorem laws_FnExactCommonOfWholes.tab31 : rtab .any (opsOf Tryd.f6 31) = laws_FnExactCommonOfWholes.T31 := by kernel_rfl
theorem laws_FnExactCommonOfWholes.bits31 : waitsOk laws_FnExactCommonOfWholes.T31.2 laws_FnExactCommonOfWholes.B31 = true := by kernel_rfl
set_option maxHeartbeats 8000000 in
set_option maxRecDepth 100000 in
theorem laws_FnExactCommonOfWholes.calls (k : Nat) (a0_0 : Int) (A0_1 : Option Addr) (c0_1 : Nat) (l0_1 : List Int) (a1_0 : Int) (A1_1 : Option Addr) (c1_1 : Nat) (l1_1 : List Int) (r : Bool) (w : World) (hr0_1 : Kd.C (Kd.int .i64) w A0_1 l0_1.length l0_1) (hc0_1 : l0_1.length ≤ c0_1) (hr1_1 : Kd.C (Kd.int .i64) w A1_1 l1_1.length l1_1) (hc1_1 : l1_1.length ≤ c1_1) (h : laws_FnExactCommonOfWholes.f k a0_0 l0_1 a1_0 l1_1 = some r) (hrt : r = true := by rfl) :
  Calls Tryd.prog 6 #[.agg #[.int .i64 a0_0, .slice A0_1 l0_1.length c0_1], .agg #[.int .i64 a1_0, .slice A1_1 l1_1.length c1_1]] w fun e w' => e = .returned (.bool r) ∧ Below w.heap.size w w' := by
 have hu24 := Tryd.underlying24; have hu26 := Tryd.underlying26; have HR0_1 := Aside0.mk hr0_1; have HC0_1 := Aside0.mk hc0_1; clear hr0_1 hc0_1; have HR1_1 := Aside0.mk hr1_1; have HC1_1 := Aside0.mk hc1_1; clear hr1_1 hc1_1; have HB := am_ (Below.refl w.heap.size w)
 have H : ((laws_szWhole.f a0_0 l0_1 1048576).bind fun t345 => (if t345 < 0 then (some true) else ((laws_szWhole.f a1_0 l1_1 t345).bind fun t346 => (if t346 < 0 then (some true) else ((laws_toWhole.f k a0_0 l0_1).bind fun bt347 => ((laws_toWhole.f k a1_0 l1_1).bind fun bt351 => ((spec_CommonOfWholes.f k bt347.1 bt347.2 bt351.1 bt351.2).bind fun bt355 => ((laws_toWhole.f k a0_0 l0_1).bind fun bt361 => ((laws_toWhole.f k a1_0 l1_1).bind fun bt366 => ((impl_CommonOfWholes.f bt361.1 bt361.2 bt366.1 bt366.2).bind fun bt371 => ((laws_eqWhole.f k bt371.1 bt371.2.1 bt355.1 bt355.2.1).bind fun t377 => (if t377 = true then (laws_FnExactCommonOfWholes.j0 k bt355.2.2 bt371.2.2 (bt371.2.2 != bt355.2.2) a0_0 l0_1 a1_0 l1_1 bt355.1 bt355.2.1 bt361.1 bt361.2 bt366.1 bt366.2 bt371.1 bt371.2.1) else (laws_FnExactCommonOfWholes.j0 k bt355.2.2 bt371.2.2 true a0_0 l0_1 a1_0 l1_1 bt355.1 bt355.2.1 bt361.1 bt361.2 bt366.1 bt366.2 bt371.1 bt371.2.1))))))))))))) = some r := h
 clear h
 replace H := Option.bind_eq_some_iff.mp H
 obtain ⟨t345, A30, H⟩ := H
 replace H : (if t345 < 0 then (some true) else ((laws_szWhole.f a1_0 l1_1 t345).bind fun t346 => (if t346 < 0 then (some true) else ((laws_toWhole.f k a0_0 l0_1).bind fun bt347 => ((laws_toWhole.f k a1_0 l1_1).bind fun bt351 => ((spec_CommonOfWholes.f k bt347.1 bt347.2 bt351.1 bt351.2).bind fun bt355 => ((laws_toWhole.f k a0_0 l0_1).bind fun bt361 => ((laws_toWhole.f k a1_0 l1_1).bind fun bt366 => ((impl_CommonOfWholes.f bt361.1 bt361.2 bt366.1 bt366.2).bind fun bt371 => ((laws_eqWhole.f k bt371.1 bt371.2.1 bt355.1 bt355.2.1).bind fun t377 => (if t377 = true then (laws_FnExactCommonOfWholes.j0 k bt355.2.2 bt371.2.2 (bt371.2.2 != bt355.2.2) a0_0 l0_1 a1_0 l1_1 bt355.1 bt355.2.1 bt361.1 bt361.2 bt366.1 bt366.2 bt371.1 bt371.2.1) else (laws_FnExactCommonOfWholes.j0 k bt355.2.2 bt371.2.2 true a0_0 l0_1 a1_0 l1_1 bt355.1 bt355.2.1 bt361.1 bt361.2 bt366.1 bt366.2 bt371.1 bt371.2.1)))))))))))) = some r := H
 have A3 := Aside0.mk A30; clear A30
 by_cases c4 : t345 < 0
 ·rw [if_pos c4] at H
  have c4b0 : decide (t345 < 0) = true := decide_eq_true c4
  clear c4; obtain rfl := Option.some.inj H
  go_enter Tryd.func6, Tryd.ntmps6
  go_wp2_with (first | ((with_reducible refine gate_dst (N := 2) rfl ?_); refine box_event ?hg (N := 2) ?hd (cs := #[.int .i64 a0_0, .slice A0_1 l0_1.length c0_1]) (t := 24) ?hr ?_; (case hd => rfl); (case hg => rfl); (case hr => first | (go_simp; done) | (go_simp; rfl)); intro gb343 hg w5 hbox hb; have BK343 := am_ (hbox); have GW343 := am_ (gs_ hg HB); have GE343 := am_ (gs_ hg HB); replace HB := am_ (below_step (bl_ HB) hb); clear hb hbox hg) | ((with_reducible refine gate_dst (N := 3) rfl ?_); refine box_event ?hg (N := 3) ?hd (cs := #[.int .i64 a1_0, .slice A1_1 l1_1.length c1_1]) (t := 24) ?hr ?_; (case hd => rfl); (case hg => rfl); (case hr => first | (go_simp; done) | (go_simp; rfl)); intro gb344 hg w6 hbox hb; have BK344 := am_ (hbox); have GW344 := am_ (gs_ hg HB); have GE344 := am_ (gs_ hg HB); have NB343_344 := am_ (nl_ hg BK343); have NB344_343 := am_ (ng_ hg BK343); replace BK343 := am_ (blk_below (bk_ BK343) hb); replace HB := am_ (below_step (bl_ HB) hb); clear hb hbox hg; have hnb7 := NB343_344.out; have hnc7 := NB344_343.out; have hcz8_0 : w6.cell? ⟨gb343, 0, none⟩ = some (.int .i64 a0_0) := bc_ BK343 0; have hcz8_1 : w6.cell? ⟨gb343, 1, none⟩ = some (.slice A0_1 l0_1.length c0_1) := bc_ BK343 1; have hfz8_0 := blk_frozen BK343.out 0; have hfz8_1 := blk_frozen BK343.out 1) | ((with_reducible refine gate_callee (f := 11) rfl ?_); refine goesL_ (some 19) rfl rfl Tryd.func11 (by kernel_rfl) rfl #[.agg #[.int .i64 a0_0, .slice A0_1 l0_1.length c0_1], .int .i64 1048576] rfl ma_ ?_; (with_reducible refine (laws_szWhole.calls a0_0 _ _ l0_1 1048576 t345 _ ?side1 ?side2 A3.out).mono ?_); (case side1 => exact cb_ HR0_1 HB); (case side2 => exact HC0_1.out); rintro e w9 ⟨rfl, hb⟩; refine ⟨_, rfl, ?_⟩; replace BK343 := am_ (blk_below (bk_ BK343) hb); replace BK344 := am_ (blk_below (bk_ BK344) hb); replace HB := am_ (below_step (bl_ HB) hb); (try clear hb); (try clear hb2); (try clear hk); (try clear hi)))
  go_ret
  exact ⟨by first | rfl | (simp [errW_none, errW_some] <;> rfl) | (simp [*, errW_none, errW_some] <;> rfl), bl_ HB⟩
 ·rw [if_neg c4] at H
  have c4b0 : decide (t345 < 0) = false := decide_eq_false c4
  clear c4
  replace H := Option.bind_eq_some_iff.mp H
  obtain ⟨t346, A100, H⟩ := H
  replace H : (if t346 < 0 then (some true) else ((laws_toWhole.f k a0_0 l0_1).bind fun bt347 => ((laws_toWhole.f k a1_0 l1_1).bind fun bt351 => ((spec_CommonOfWholes.f k bt347.1 bt347.2 bt351.1 bt351.2).bind fun bt355 => ((laws_toWhole.f k a0_0 l0_1).bind fun bt361 => ((laws_toWhole.f k a1_0 l1_1).bind fun bt366 => ((impl_CommonOfWholes.f bt361.1 bt361.2 bt366.1 bt366.2).bind fun bt371 => ((laws_eqWhole.f k bt371.1 bt371.2.1 bt355.1 bt355.2.1).bind fun t377 => (if t377 = true then (laws_FnExactCommonOfWholes.j0 k bt355.2.2 bt371.2.2 (bt371.2.2 != bt355.2.2) a0_0 l0_1 a1_0 l1_1 bt355.1 bt355.2.1 bt361.1 bt361.2 bt366.1 bt366.2 bt371.1 bt371.2.1) else (laws_FnExactCommonOfWholes.j0 k bt355.2.2 bt371.2.2 true a0_0 l0_1 a1_0 l1_1 bt355.1 bt355.2.1 bt361.1 bt361.2 bt366.1 bt366.2 bt371.1 bt371.2.1)))))))))) = some r := H
  have A10 := Aside0.mk A100; clear A100
  by_cases c11 : t346 < 0
  ·rw [if_pos c11] at H
   have c11b0 : decide (t346 < 0) = true := decide_eq_true c11
   clear c11; obtain rfl := Option.some.inj H
   go_enter Tryd.func6, Tryd.ntmps6
   go_wp2_with (first | ((with_reducible refine gate_dst (N := 2) rfl ?_); refine box_event ?hg (N := 2) ?hd (cs := #[.int .i64 a0_0, .slice A0_1 l0_1.length c0_1]) (t := 24) ?hr ?_; (case hd => rfl); (case hg => rfl); (case hr => first | (go_simp; done) | (go_simp; rfl)); intro gb343 hg w12 hbox hb; have BK343 := am_ (hbox); have GW343 := am_ (gs_ hg HB); have GE343 := am_ (gs_ hg HB); replace HB := am_ (below_step (bl_ HB) hb); clear hb hbox hg) | ((with_reducible refine gate_dst (N := 3) rfl ?_); refine box_event ?hg (N := 3) ?hd (cs := #[.int .i64 a1_0, .slice A1_1 l1_1.length c1_1]) (t := 24) ?hr ?_; (case hd => rfl); (case hg => rfl); (case hr => first | (go_simp; done) | (go_simp; rfl)); intro gb344 hg w13 hbox hb; have BK344 := am_ (hbox); have GW344 := am_ (gs_ hg HB); have GE344 := am_ (gs_ hg HB); have NB343_344 := am_ (nl_ hg BK343); have NB344_343 := am_ (ng_ hg BK343); replace BK343 := am_ (blk_below (bk_ BK343) hb); replace HB := am_ (below_step (bl_ HB) hb); clear hb hbox hg; have hnb14 := NB343_344.out; have hnc14 := NB344_343.out; have hcz15_0 : w13.cell? ⟨gb343, 0, none⟩ = some (.int .i64 a0_0) := bc_ BK343 0; have hcz15_1 : w13.cell? ⟨gb343, 1, none⟩ = some (.slice A0_1 l0_1.length c0_1) := bc_ BK343 1; have hfz15_0 := blk_frozen BK343.out 0; have hfz15_1 := blk_frozen BK343.out 1) | ((with_reducible refine gate_callee (f := 11) rfl ?_); refine goesL_ (some 19) rfl rfl Tryd.func11 (by kernel_rfl) rfl #[.agg #[.int .i64 a0_0, .slice A0_1 l0_1.length c0_1], .int .i64 1048576] rfl ma_ ?_; (with_reducible refine (laws_szWhole.calls a0_0 _ _ l0_1 1048576 t345 _ ?side1 ?side2 A3.out).mono ?_); (case side1 => exact cb_ HR0_1 HB); (case side2 => exact HC0_1.out); rintro e w16 ⟨rfl, hb⟩; refine ⟨_, rfl, ?_⟩; replace BK343 := am_ (blk_below (bk_ BK343) hb); replace BK344 := am_ (blk_below (bk_ BK344) hb); replace HB := am_ (below_step (bl_ HB) hb); (try clear hb); (try clear hb2); (try clear hk); (try clear hi); have hcz17_0 : w16.cell? ⟨gb344, 0, none⟩ = some (.int .i64 a1_0) := bc_ BK344 0; have hcz17_1 : w16.cell? ⟨gb344, 1, none⟩ = some (.slice A1_1 l1_1.length c1_1) := bc_ BK344 1; have hfz17_0 := blk_frozen BK344.out 0; have hfz17_1 := blk_frozen BK344.out 1) | ((with_reducible refine gate_callee (f := 11) rfl ?_); refine goesL_ (some 24) rfl rfl Tryd.func11 (by kernel_rfl) rfl #[.agg #[.int .i64 a1_0, .slice A1_1 l1_1.length c1_1], .int .i64 t345] rfl ma_ ?_; (with_reducible refine (laws_szWhole.calls a1_0 _ _ l1_1 t345 t346 _ ?side1 ?side2 A10.out).mono ?_); (case side1 => exact cb_ HR1_1 HB); (case side2 => exact HC1_1.out); rintro e w18 ⟨rfl, hb⟩; refine ⟨_, rfl, ?_⟩; replace BK343 := am_ (blk_below (bk_ BK343) hb); replace BK344 := am_ (blk_below (bk_ BK344) hb); replace HB := am_ (below_step (bl_ HB) hb); (try clear hb); (try clear hb2); (try clear hk); (try clear hi)))
   go_ret
   exact ⟨by first | rfl | (simp [errW_none, errW_some] <;> rfl) | (simp [*, errW_none, errW_some] <;> rfl), bl_ HB⟩
  ·rw [if_neg c11] at H
   have c11b0 : decide (t346 < 0) = false := decide_eq_false c11
   clear c11
   replace H := Option.bind_eq_some_iff.mp H
   obtain ⟨⟨t347, t348⟩, A190, H⟩ := H
   replace H : ((laws_toWhole.f k a1_0 l1_1).bind fun bt351 => ((spec_CommonOfWholes.f k t347 t348 bt351.1 bt351.2).bind fun bt355 => ((laws_toWhole.f k a0_0 l0_1).bind fun bt361 => ((laws_toWhole.f k a1_0 l1_1).bind fun bt366 => ((impl_CommonOfWholes.f bt361.1 bt361.2 bt366.1 bt366.2).bind fun bt371 => ((laws_eqWhole.f k bt371.1 bt371.2.1 bt355.1 bt355.2.1).bind fun t377 => (if t377 = true then (laws_FnExactCommonOfWholes.j0 k bt355.2.2 bt371.2.2 (bt371.2.2 != bt355.2.2) a0_0 l0_1 a1_0 l1_1 bt355.1 bt355.2.1 bt361.1 bt361.2 bt366.1 bt366.2 bt371.1 bt371.2.1) else (laws_FnExactCommonOfWholes.j0 k bt355.2.2 bt371.2.2 true a0_0 l0_1 a1_0 l1_1 bt355.1 bt355.2.1 bt361.1 bt361.2 bt366.1 bt366.2 bt371.1 bt371.2.1)))))))) = some r := H
   have A19 := Aside0.mk A190; clear A190
   replace H := Option.bind_eq_some_iff.mp H
   obtain ⟨⟨t351, t352⟩, A200, H⟩ := H
   replace H : ((spec_CommonOfWholes.f k t347 t348 t351 t352).bind fun bt355 => ((laws_toWhole.f k a0_0 l0_1).bind fun bt361 => ((laws_toWhole.f k a1_0 l1_1).bind fun bt366 => ((impl_CommonOfWholes.f bt361.1 bt361.2 bt366.1 bt366.2).bind fun bt371 => ((laws_eqWhole.f k bt371.1 bt371.2.1 bt355.1 bt355.2.1).bind fun t377 => (if t377 = true then (laws_FnExactCommonOfWholes.j0 k bt355.2.2 bt371.2.2 (bt371.2.2 != bt355.2.2) a0_0 l0_1 a1_0 l1_1 bt355.1 bt355.2.1 bt361.1 bt361.2 bt366.1 bt366.2 bt371.1 bt371.2.1) else (laws_FnExactCommonOfWholes.j0 k bt355.2.2 bt371.2.2 true a0_0 l0_1 a1_0 l1_1 bt355.1 bt355.2.1 bt361.1 bt361.2 bt366.1 bt366.2 bt371.1 bt371.2.1))))))) = some r := H
   have A20 := Aside0.mk A200; clear A200
   replace H := Option.bind_eq_some_iff.mp H
   obtain ⟨⟨t355, t356, t359⟩, A210, H⟩ := H
   replace H : ((laws_toWhole.f k a0_0 l0_1).bind fun bt361 => ((laws_toWhole.f k a1_0 l1_1).bind fun bt366 => ((impl_CommonOfWholes.f bt361.1 bt361.2 bt366.1 bt366.2).bind fun bt371 => ((laws_eqWhole.f k bt371.1 bt371.2.1 t355 t356).bind fun t377 => (if t377 = true then (laws_FnExactCommonOfWholes.j0 k t359 bt371.2.2 (bt371.2.2 != t359) a0_0 l0_1 a1_0 l1_1 t355 t356 bt361.1 bt361.2 bt366.1 bt366.2 bt371.1 bt371.2.1) else (laws_FnExactCommonOfWholes.j0 k t359 bt371.2.2 true a0_0 l0_1 a1_0 l1_1 t355 t356 bt361.1 bt361.2 bt366.1 bt366.2 bt371.1 bt371.2.1)))))) = some r := H
   have A21 := Aside0.mk A210; clear A210
   replace H := Option.bind_eq_some_iff.mp H
   obtain ⟨⟨t361, t362⟩, A220, H⟩ := H
   replace H : ((laws_toWhole.f k a1_0 l1_1).bind fun bt366 => ((impl_CommonOfWholes.f t361 t362 bt366.1 bt366.2).bind fun bt371 => ((laws_eqWhole.f k bt371.1 bt371.2.1 t355 t356).bind fun t377 => (if t377 = true then (laws_FnExactCommonOfWholes.j0 k t359 bt371.2.2 (bt371.2.2 != t359) a0_0 l0_1 a1_0 l1_1 t355 t356 t361 t362 bt366.1 bt366.2 bt371.1 bt371.2.1) else (laws_FnExactCommonOfWholes.j0 k t359 bt371.2.2 true a0_0 l0_1 a1_0 l1_1 t355 t356 t361 t362 bt366.1 bt366.2 bt371.1 bt371.2.1))))) = some r := H
   have A22 := Aside0.mk A220; clear A220
   replace H := Option.bind_eq_some_iff.mp H
   obtain ⟨⟨t366, t367⟩, A230, H⟩ := H
   replace H : ((impl_CommonOfWholes.f t361 t362 t366 t367).bind fun bt371 => ((laws_eqWhole.f k bt371.1 bt371.2.1 t355 t356).bind fun t377 => (if t377 = true then (laws_FnExactCommonOfWholes.j0 k t359 bt371.2.2 (bt371.2.2 != t359) a0_0 l0_1 a1_0 l1_1 t355 t356 t361 t362 t366 t367 bt371.1 bt371.2.1) else (laws_FnExactCommonOfWholes.j0 k t359 bt371.2.2 true a0_0 l0_1 a1_0 l1_1 t355 t356 t361 t362 t366 t367 bt371.1 bt371.2.1)))) = some r := H
   have A23 := Aside0.mk A230; clear A230
   replace H := Option.bind_eq_some_iff.mp H
   obtain ⟨⟨t371, t372, t375⟩, A240, H⟩ := H
   replace H : ((laws_eqWhole.f k t371 t372 t355 t356).bind fun t377 => (if t377 = true then (laws_FnExactCommonOfWholes.j0 k t359 t375 (t375 != t359) a0_0 l0_1 a1_0 l1_1 t355 t356 t361 t362 t366 t367 t371 t372) else (laws_FnExactCommonOfWholes.j0 k t359 t375 true a0_0 l0_1 a1_0 l1_1 t355 t356 t361 t362 t366 t367 t371 t372))) = some r := H
   have A24 := Aside0.mk A240; clear A240; have HC25 := Aside0.mk H; clear H
   go_enter Tryd.func6, Tryd.ntmps6
   try go_wp2_with (first | ((with_reducible refine gate_dst (N := 2) rfl ?_); refine box_event ?hg (N := 2) ?hd (cs := #[.int .i64 a0_0, .slice A0_1 l0_1.length c0_1]) (t := 24) ?hr ?_; (case hd => rfl); (case hg => rfl); (case hr => first | (go_simp; done) | (go_simp; rfl)); intro gb343 hg w26 hbox hb; have BK343 := am_ (hbox); have GW343 := am_ (gs_ hg HB); have GE343 := am_ (gs_ hg HB); replace HB := am_ (below_step (bl_ HB) hb); clear hb hbox hg) | ((with_reducible refine gate_dst (N := 3) rfl ?_); refine box_event ?hg (N := 3) ?hd (cs := #[.int .i64 a1_0, .slice A1_1 l1_1.length c1_1]) (t := 24) ?hr ?_; (case hd => rfl); (case hg => rfl); (case hr => first | (go_simp; done) | (go_simp; rfl)); intro gb344 hg w27 hbox hb; have BK344 := am_ (hbox); have GW344 := am_ (gs_ hg HB); have GE344 := am_ (gs_ hg HB); have NB343_344 := am_ (nl_ hg BK343); have NB344_343 := am_ (ng_ hg BK343); replace BK343 := am_ (blk_below (bk_ BK343) hb); replace HB := am_ (below_step (bl_ HB) hb); clear hb hbox hg; have hnb28 := NB343_344.out; have hnc28 := NB344_343.out; have hcz29_0 : w27.cell? ⟨gb343, 0, none⟩ = some (.int .i64 a0_0) := bc_ BK343 0; have hcz29_1 : w27.cell? ⟨gb343, 1, none⟩ = some (.slice A0_1 l0_1.length c0_1) := bc_ BK343 1; have hfz29_0 := blk_frozen BK343.out 0; have hfz29_1 := blk_frozen BK343.out 1) | ((with_reducible refine gate_callee (f := 11) rfl ?_); refine goesL_ (some 19) rfl rfl Tryd.func11 (by kernel_rfl) rfl #[.agg #[.int .i64 a0_0, .slice A0_1 l0_1.length c0_1], .int .i64 1048576] rfl ma_ ?_; (with_reducible refine (laws_szWhole.calls a0_0 _ _ l0_1 1048576 t345 _ ?side1 ?side2 A3.out).mono ?_); (case side1 => exact cb_ HR0_1 HB); (case side2 => exact HC0_1.out); rintro e w30 ⟨rfl, hb⟩; refine ⟨_, rfl, ?_⟩; replace BK343 := am_ (blk_below (bk_ BK343) hb); replace BK344 := am_ (blk_below (bk_ BK344) hb); replace HB := am_ (below_step (bl_ HB) hb); (try clear hb); (try clear hb2); (try clear hk); (try clear hi); have hcz31_0 : w30.cell? ⟨gb344, 0, none⟩ = some (.int .i64 a1_0) := bc_ BK344 0; have hcz31_1 : w30.cell? ⟨gb344, 1, none⟩ = some (.slice A1_1 l1_1.length c1_1) := bc_ BK344 1; have hfz31_0 := blk_frozen BK344.out 0; have hfz31_1 := blk_frozen BK344.out 1) | ((with_reducible refine gate_callee (f := 11) rfl ?_); refine goesL_ (some 24) rfl rfl Tryd.func11 (by kernel_rfl) rfl #[.agg #[.int .i64 a1_0, .slice A1_1 l1_1.length c1_1], .int .i64 t345] rfl ma_ ?_; (with_reducible refine (laws_szWhole.calls a1_0 _ _ l1_1 t345 t346 _ ?side1 ?side2 A10.out).mono ?_); (case side1 => exact cb_ HR1_1 HB); (case side2 => exact HC1_1.out); rintro e w32 ⟨rfl, hb⟩; refine ⟨_, rfl, ?_⟩; replace BK343 := am_ (blk_below (bk_ BK343) hb); replace BK344 := am_ (blk_below (bk_ BK344) hb); replace HB := am_ (below_step (bl_ HB) hb); (try clear hb); (try clear hb2); (try clear hk); (try clear hi)))
   replace BK343 := am_ (blk_drew BK343.out); replace BK344 := am_ (blk_drew BK344.out); replace HB := am_ (below_drew1 HB.out)
   refine start_ (n := 11) (S := fun w' => w'.cell? ⟨gb343, 0, none⟩ = some (.int .i64 a0_0) ∧ w'.cell? ⟨gb343, 1, none⟩ = some (.slice A0_1 l0_1.length c0_1) ∧ w'.cell? ⟨gb344, 0, none⟩ = some (.int .i64 a1_0) ∧ w'.cell? ⟨gb344, 1, none⟩ = some (.slice A1_1 l1_1.length c1_1)) (ds := []) #[false, false, false, false, false, false, false, false, false, false, false] (by kernel_rfl) rfl rfl ⟨bc_ BK343 0, bc_ BK343 1, bc_ BK344 0, bc_ BK344 1⟩ (fun hHeld => ?_); refine with_tabW laws_FnExactCommonOfWholes.tab8 laws_FnExactCommonOfWholes.bits8 (fun HT_ HW_ => ?_)
   generalize w32.drew = w33 at BK343 BK344 HB hHeld ⊢
   refine take_ (i := 0) (N := some 28) (v := ?_) (a' := ?_) #[true, false, false, false, false, false, false, false, false, false, false] rfl rfl (take_ofW HT_.out HW_.out (by kernel_rfl)) (fun _ _ _ h => h) (Or.inl ⟨by rfl, ?_⟩) hHeld ?_ ?_
   rotate_left
   ·rintro w' ⟨s0, s1, s2, s3⟩
    go_simp
    with_reducible rfl
   rotate_left
   ·exact nm_
   refine take_ (i := 2) (N := some 30) (v := ?_) (a' := ?_) #[true, false, true, false, false, false, false, false, false, false, false] rfl rfl (take_ofW HT_.out HW_.out (by kernel_rfl)) (fun _ _ _ h => h) (Or.inl ⟨by rfl, ?_⟩) hHeld ?_ ?_
   rotate_left
   ·rintro w' ⟨s0, s1, s2, s3⟩
    go_simp
    with_reducible rfl
   rotate_left
   ·exact nm_
   refine join_ (σ := Value × Value × Value × Nat) 2 #[true, true, true, true, true, true, true, true, true, false, false] (fun s_ => [(29, .agg #[.int .i64 t347, s_.1]), (31, .agg #[.int .i64 t351, s_.2.1]), (32, .tuple #[.agg #[.int .i64 t355, s_.2.2.1], .int .i64 t359]), (6, .pointer (some ⟨s_.2.2.2, 0, none⟩)), (27, .tuple #[.agg #[.int .i64 t355, s_.2.2.1], .int .i64 t359]), (33, .agg #[.int .i64 t355, s_.2.2.1]), (34, .int .i64 t359)]) (fun s_ w' => (w'.cell? ⟨gb343, 0, none⟩ = some (.int .i64 a0_0) ∧ w'.cell? ⟨gb343, 1, none⟩ = some (.slice A0_1 l0_1.length c0_1) ∧ w'.cell? ⟨gb344, 0, none⟩ = some (.int .i64 a1_0) ∧ w'.cell? ⟨gb344, 1, none⟩ = some (.slice A1_1 l1_1.length c1_1)) ∧ (Kd.R (Kd.int .i64) 2 w' w.heap.size (fun k_ => some k_ ≠ (s_.2.1 : Value).ownBlock ∧ some k_ ≠ (s_.2.2.1 : Value).ownBlock) s_.1 t348) ∧ (Kd.R (Kd.int .i64) 2 w' w.heap.size (fun k_ => some k_ ≠ (s_.1 : Value).ownBlock ∧ some k_ ≠ (s_.2.2.1 : Value).ownBlock) s_.2.1 t352) ∧ (Kd.R (Kd.int .i64) 2 w' w.heap.size (fun k_ => some k_ ≠ (s_.1 : Value).ownBlock ∧ some k_ ≠ (s_.2.1 : Value).ownBlock) s_.2.2.1 t356) ∧ (w'.heap[gb343]? = some (.cells #[.int .i64 a0_0, .slice A0_1 l0_1.length c0_1] 24 (0, 0))) ∧ (w'.heap[gb344]? = some (.cells #[.int .i64 a1_0, .slice A1_1 l1_1.length c1_1] 24 (0, 0))) ∧ (w'.heap[s_.2.2.2]? = some (.cells #[.int .i64 0, .slice none 0 0] 26 (0, 0))) ∧ (w.heap.size ≤ s_.2.2.2) ∧ (w.heap.size ≤ s_.2.2.2) ∧ (gb343 ≠ s_.2.2.2) ∧ (s_.2.2.2 ≠ gb343) ∧ (gb344 ≠ s_.2.2.2) ∧ (s_.2.2.2 ≠ gb344) ∧ (Below w.heap.size w w')) ?_ ?_
   rotate_left
   ·intro hCont
    refine two_ (i := 1) (j := 8) (Ni := some 29) (Nj := some 6) #[true, true, true, false, false, false, false, false, false, false, false] #[true, false, true, false, false, false, false, false, true, false, false] rfl rfl rfl rfl (two_of HT_.out (by kernel_rfl)) (by decide) (by decide) (fun K hK => ?_) (fun K hK => ?_)
    ·skip
     refine goes_ Tryd.func13 (by kernel_rfl) rfl #[.agg #[.int .i64 a0_0, .slice A0_1 l0_1.length c0_1]] (by rfl) rfl rfl ma_ ?_
     with_reducible refine (laws_toWhole.calls k a0_0 _ _ l0_1 t347 t348 _ ?side1 ?side2 A19.out).mono ?_
     (case side1 => exact cb_ HR0_1 HB)
     (case side2 => exact HC0_1.out)
     rintro e w34 ⟨v349, rfl, ho0, hb⟩
     refine ⟨_, rfl, ?_⟩
     have HO350 := am_ (Kd.R_lower ho0 (below_size (bl_ HB))); replace BK343 := am_ (blk_below (bk_ BK343) hb); replace BK344 := am_ (blk_below (bk_ BK344) hb); replace HB := am_ (below_step (bl_ HB) hb); (try clear hb); (try clear hb2); (try clear hk); (try clear hi); (try clear ho0)
     refine hK.out _ _ ⟨bc_ BK343 0, bc_ BK343 1, bc_ BK344 0, bc_ BK344 1⟩ (fun hHeld => ?_)
     clear hK K
     refine norm_ (a' := ?_) ?_ ?_
     rotate_left
     ·show Act.put _ (some 29) _ = _
      exact nm_
     refine two_ (i := 3) (j := 8) (Ni := some 31) (Nj := some 6) #[true, true, true, true, false, false, false, false, false, false, false] #[true, true, true, false, false, false, false, false, true, false, false] rfl rfl rfl rfl (two_of HT_.out (by kernel_rfl)) (by decide) (by decide) (fun K hK => ?_) (fun K hK => ?_)
     ·skip
      refine goes_ Tryd.func13 (by kernel_rfl) rfl #[.agg #[.int .i64 a1_0, .slice A1_1 l1_1.length c1_1]] (by rfl) rfl rfl ma_ ?_
      with_reducible refine (laws_toWhole.calls k a1_0 _ _ l1_1 t351 t352 _ ?side1 ?side2 A20.out).mono ?_
      (case side1 => exact cb_ HR1_1 HB)
      (case side2 => exact HC1_1.out)
      rintro e w35 ⟨v353, rfl, ho0, hb⟩
      refine ⟨_, rfl, ?_⟩
      have HO354 := am_ (Kd.R_lower (Kd.R_new' ho0 (Kd.R_lt (kr_ HO350))) (below_size (bl_ HB))); replace HO350 := am_ (Kd.R_elder' (kr_ HO350) (Kd.R_base ho0) hb); replace BK343 := am_ (blk_below (bk_ BK343) hb); replace BK344 := am_ (blk_below (bk_ BK344) hb); replace HB := am_ (below_step (bl_ HB) hb); (try clear hb); (try clear hb2); (try clear hk); (try clear hi); (try clear ho0)
      obtain ⟨Ao36, co36, eo36⟩ := Kd.R_slice HO350.out
      (first | subst eo36 | (injection eo36 with f1_ f2_ f3_; have f4_ := f1_.symm; have f5_ := f3_.symm; clear f1_ f2_ f3_; subst f4_; subst f5_))
      obtain ⟨Ao37, co37, eo37⟩ := Kd.R_slice HO354.out
      (first | subst eo37 | (injection eo37 with f1_ f2_ f3_; have f4_ := f1_.symm; have f5_ := f3_.symm; clear f1_ f2_ f3_; subst f4_; subst f5_))
      refine hK.out _ _ ⟨bc_ BK343 0, bc_ BK343 1, bc_ BK344 0, bc_ BK344 1⟩ (fun hHeld => ?_)
      clear hK K
      refine norm_ (a' := ?_) ?_ ?_
      rotate_left
      ·show Act.put _ (some 31) _ = _
       exact nm_
      refine two_ (i := 4) (j := 8) (Ni := some 32) (Nj := some 6) #[true, true, true, true, true, false, false, false, false, false, false] #[true, true, true, true, false, false, false, false, true, false, false] rfl rfl rfl rfl (two_of HT_.out (by kernel_rfl)) (by decide) (by decide) (fun K hK => ?_) (fun K hK => ?_)
      ·skip
       refine goes_ Tryd.func22 (by kernel_rfl) rfl #[.agg #[.int .i64 t347, .slice Ao36 t348.length co36], .agg #[.int .i64 t351, .slice Ao37 t352.length co37]] (by rfl) rfl rfl ma_ ?_
       with_reducible refine (spec_CommonOfWholes.calls k t347 _ _ t348 t351 _ _ t352 t355 t356 t359 _ ?side1 ?side2 ?side3 ?side4 A21.out).mono ?_
       (case side1 => exact cr_ HO350)
       (case side2 => exact (Kd.R_reads' HO350.out).2.1)
       (case side3 => exact cr_ HO354)
       (case side4 => exact (Kd.R_reads' HO354.out).2.1)
       rintro e w38 ⟨v357, rfl, ho0, hb⟩
       refine ⟨_, rfl, ?_⟩
       have HO358 := am_ (Kd.R_lower (Kd.R_new' (Kd.R_new' ho0 (Kd.R_lt (kr_ HO350))) (Kd.R_lt (kr_ HO354))) (below_size (bl_ HB))); replace HO350 := am_ (Kd.R_elder' (kr_ HO350) (Kd.R_base ho0) hb); replace HO354 := am_ (Kd.R_elder' (kr_ HO354) (Kd.R_base ho0) hb); replace BK343 := am_ (blk_below (bk_ BK343) hb); replace BK344 := am_ (blk_below (bk_ BK344) hb); replace HB := am_ (below_step (bl_ HB) hb); (try clear hb); (try clear hb2); (try clear hk); (try clear hi); (try clear ho0)
       refine hK.out _ _ ⟨bc_ BK343 0, bc_ BK343 1, bc_ BK344 0, bc_ BK344 1⟩ (fun hHeld => ?_)
       clear hK K
       refine norm_ (a' := ?_) ?_ ?_
       rotate_left
       ·show Act.put _ (some 32) _ = _
        exact nm_
       refine pure_ (i := 5) (N := some 27) (v := ?_) (a' := ?_) #[true, true, true, true, true, true, false, false, false, false, false] rfl rfl (any_of HT_.out (by kernel_rfl)) (fun _ _ _ h => h) (Or.inl ⟨by rfl, ?_⟩) ?_ ?_
       rotate_left
       ·intro w'
        go_simp
        with_reducible rfl
       rotate_left
       ·exact nm_
       refine pure_ (i := 6) (N := some 33) (v := ?_) (a' := ?_) #[true, true, true, true, true, true, true, false, false, false, false] rfl rfl (any_of HT_.out (by kernel_rfl)) (fun _ _ _ h => h) (Or.inl ⟨by rfl, ?_⟩) ?_ ?_
       rotate_left
       ·intro w'
        go_simp
        with_reducible rfl
       rotate_left
       ·exact nm_
       refine pure_ (i := 7) (N := some 34) (v := ?_) (a' := ?_) #[true, true, true, true, true, true, true, true, false, false, false] rfl rfl (any_of HT_.out (by kernel_rfl)) (fun _ _ _ h => h) (Or.inl ⟨by rfl, ?_⟩) ?_ ?_
       rotate_left
       ·intro w'
        go_simp
        with_reducible rfl
       rotate_left
       ·exact nm_
       refine one_ (i := 8) (N := some 6) #[true, true, true, true, true, true, true, true, true, false, false] rfl rfl (one_of HT_.out (by kernel_rfl)) (by decide) (fun K hK => ?_)
       refine box_step ?hg (N := 6) ?hd (cs := #[.int .i64 0, .slice none 0 0]) (t := 26) ?hr ?_; (case hd => rfl); (case hg => rfl); (case hr => first | (go_simp; done) | (go_simp; rfl))
       intro gb360 hg w39 hbox hb
       replace HO350 := am_ (Kd.R_below (kr_ HO350) hb); replace HO354 := am_ (Kd.R_below (kr_ HO354) hb); replace HO358 := am_ (Kd.R_below (kr_ HO358) hb); have BK360 := am_ (hbox); have GW360 := am_ (gs_ hg HB); have GE360 := am_ (gs_ hg HB); replace HB := am_ (below_step (bl_ HB) hb); have NB343_360 := am_ (nl_ hg BK343); have NB360_343 := am_ (ng_ hg BK343); replace BK343 := am_ (blk_below (bk_ BK343) hb); have NB344_360 := am_ (nl_ hg BK344); have NB360_344 := am_ (ng_ hg BK344); replace BK344 := am_ (blk_below (bk_ BK344) hb); clear hb hbox hg
       refine hK.out _ _ ⟨bc_ BK343 0, bc_ BK343 1, bc_ BK344 0, bc_ BK344 1⟩ (fun hHeld => ?_)
       clear hK K
       refine norm_ (a' := ?_) ?_ ?_
       rotate_left
       ·show Act.put _ (some 6) _ = _
        exact nm_
       exact norm_ (by simp only [putAll, Act.put, List.setIfInBounds_toArray, List.set_cons_zero, List.set_cons_succ]) (hCont (.slice Ao36 t348.length co36, .slice Ao37 t352.length co37, v357, gb360) _ ⟨hHeld, (km_ HO350 (fun _ hk => ⟨hk.1.2, hk.2⟩)), (km_ HO354 (fun _ hk => ⟨hk.1.2, hk.2⟩)), (km_ HO358 (fun _ hk => ⟨hk.1.2, hk.2⟩)), (bk_ BK343), (bk_ BK344), (bk_ BK360), GW360.out, GE360.out, NB343_360.out, NB360_343.out, NB344_360.out, NB360_344.out, (bl_ HB)⟩)
      ·skip
       refine box_step ?hg (N := 6) ?hd (cs := #[.int .i64 0, .slice none 0 0]) (t := 26) ?hr ?_; (case hd => rfl); (case hg => rfl); (case hr => first | (go_simp; done) | (go_simp; rfl))
       intro gb360 hg w36 hbox hb
       replace HO350 := am_ (Kd.R_below (kr_ HO350) hb); replace HO354 := am_ (Kd.R_below (kr_ HO354) hb); have BK360 := am_ (hbox); have GW360 := am_ (gs_ hg HB); have GE360 := am_ (gs_ hg HB); replace HB := am_ (below_step (bl_ HB) hb); have NB343_360 := am_ (nl_ hg BK343); have NB360_343 := am_ (ng_ hg BK343); replace BK343 := am_ (blk_below (bk_ BK343) hb); have NB344_360 := am_ (nl_ hg BK344); have NB360_344 := am_ (ng_ hg BK344); replace BK344 := am_ (blk_below (bk_ BK344) hb); clear hb hbox hg
       obtain ⟨Ao37, co37, eo37⟩ := Kd.R_slice HO350.out
       (first | subst eo37 | (injection eo37 with f1_ f2_ f3_; have f4_ := f1_.symm; have f5_ := f3_.symm; clear f1_ f2_ f3_; subst f4_; subst f5_))
       obtain ⟨Ao38, co38, eo38⟩ := Kd.R_slice HO354.out
       (first | subst eo38 | (injection eo38 with f1_ f2_ f3_; have f4_ := f1_.symm; have f5_ := f3_.symm; clear f1_ f2_ f3_; subst f4_; subst f5_))
       refine hK.out _ _ ⟨bc_ BK343 0, bc_ BK343 1, bc_ BK344 0, bc_ BK344 1⟩ (fun hHeld => ?_)
       clear hK K
       refine norm_ (a' := ?_) ?_ ?_
       rotate_left
       ·show Act.put _ (some 6) _ = _
        exact nm_
       refine one_ (i := 4) (N := some 32) #[true, true, true, true, true, false, false, false, true, false, false] rfl rfl (one_of HT_.out (by kernel_rfl)) (by decide) (fun K hK => ?_)
       refine goes_ Tryd.func22 (by kernel_rfl) rfl #[.agg #[.int .i64 t347, .slice Ao37 t348.length co37], .agg #[.int .i64 t351, .slice Ao38 t352.length co38]] (by rfl) rfl rfl ma_ ?_
       with_reducible refine (spec_CommonOfWholes.calls k t347 _ _ t348 t351 _ _ t352 t355 t356 t359 _ ?side1 ?side2 ?side3 ?side4 A21.out).mono ?_
       (case side1 => exact cr_ HO350)
       (case side2 => exact (Kd.R_reads' HO350.out).2.1)
       (case side3 => exact cr_ HO354)
       (case side4 => exact (Kd.R_reads' HO354.out).2.1)
       rintro e w39 ⟨v357, rfl, ho0, hb⟩
       refine ⟨_, rfl, ?_⟩
       have HO358 := am_ (Kd.R_lower (Kd.R_new' (Kd.R_new' ho0 (Kd.R_lt (kr_ HO350))) (Kd.R_lt (kr_ HO354))) (below_size (bl_ HB))); replace HO350 := am_ (Kd.R_elder' (kr_ HO350) (Kd.R_base ho0) hb); replace HO354 := am_ (Kd.R_elder' (kr_ HO354) (Kd.R_base ho0) hb); replace BK343 := am_ (blk_below (bk_ BK343) hb); replace BK344 := am_ (blk_below (bk_ BK344) hb); replace BK360 := am_ (blk_below (bk_ BK360) hb); replace HB := am_ (below_step (bl_ HB) hb); (try clear hb); (try clear hb2); (try clear hk); (try clear hi); (try clear ho0)
       refine hK.out _ _ ⟨bc_ BK343 0, bc_ BK343 1, bc_ BK344 0, bc_ BK344 1⟩ (fun hHeld => ?_)
       clear hK K
       refine norm_ (a' := ?_) ?_ ?_
       rotate_left
       ·show Act.put _ (some 32) _ = _
        exact nm_
       refine pure_ (i := 5) (N := some 27) (v := ?_) (a' := ?_) #[true, true, true, true, true, true, false, false, true, false, false] rfl rfl (any_of HT_.out (by kernel_rfl)) (fun _ _ _ h => h) (Or.inl ⟨by rfl, ?_⟩) ?_ ?_
       rotate_left
       ·intro w'
        go_simp
        with_reducible rfl
       rotate_left
       ·exact nm_
       refine pure_ (i := 6) (N := some 33) (v := ?_) (a' := ?_) #[true, true, true, true, true, true, true, false, true, false, false] rfl rfl (any_of HT_.out (by kernel_rfl)) (fun _ _ _ h => h) (Or.inl ⟨by rfl, ?_⟩) ?_ ?_
       rotate_left
       ·intro w'
        go_simp
        with_reducible rfl
       rotate_left
       ·exact nm_
       refine pure_ (i := 7) (N := some 34) (v := ?_) (a' := ?_) #[true, true, true, true, true, true, true, true, true, false, false] rfl rfl (any_of HT_.out (by kernel_rfl)) (fun _ _ _ h => h) (Or.inl ⟨by rfl, ?_⟩) ?_ ?_
       rotate_left
       ·intro w'
        go_simp
        with_reducible rfl
       rotate_left
       ·exact nm_
       exact norm_ (by simp only [putAll, Act.put, List.setIfInBounds_toArray, List.set_cons_zero, List.set_cons_succ]) (hCont (.slice Ao37 t348.length co37, .slice Ao38 t352.length co38, v357, gb360) _ ⟨hHeld, (km_ HO350 (fun _ hk => ⟨hk.1.2, hk.2⟩)), (km_ HO354 (fun _ hk => ⟨hk.1.2, hk.2⟩)), (km_ HO358 (fun _ hk => ⟨hk.1.2, hk.2⟩)), (bk_ BK343), (bk_ BK344), (bk_ BK360), GW360.out, GE360.out, NB343_360.out, NB360_343.out, NB344_360.out, NB360_344.out, (bl_ HB)⟩)
     ·skip
      refine box_step ?hg (N := 6) ?hd (cs := #[.int .i64 0, .slice none 0 0]) (t := 26) ?hr ?_; (case hd => rfl); (case hg => rfl); (case hr => first | (go_simp; done) | (go_simp; rfl))
      intro gb360 hg w35 hbox hb
      replace HO350 := am_ (Kd.R_below (kr_ HO350) hb); have BK360 := am_ (hbox); have GW360 := am_ (gs_ hg HB); have GE360 := am_ (gs_ hg HB); replace HB := am_ (below_step (bl_ HB) hb); have NB343_360 := am_ (nl_ hg BK343); have NB360_343 := am_ (ng_ hg BK343); replace BK343 := am_ (blk_below (bk_ BK343) hb); have NB344_360 := am_ (nl_ hg BK344); have NB360_344 := am_ (ng_ hg BK344); replace BK344 := am_ (blk_below (bk_ BK344) hb); clear hb hbox hg
      refine hK.out _ _ ⟨bc_ BK343 0, bc_ BK343 1, bc_ BK344 0, bc_ BK344 1⟩ (fun hHeld => ?_)
      clear hK K
      refine norm_ (a' := ?_) ?_ ?_
      rotate_left
      ·show Act.put _ (some 6) _ = _
       exact nm_
      refine one_ (i := 3) (N := some 31) #[true, true, true, true, false, false, false, false, true, false, false] rfl rfl (one_of HT_.out (by kernel_rfl)) (by decide) (fun K hK => ?_)
      refine goes_ Tryd.func13 (by kernel_rfl) rfl #[.agg #[.int .i64 a1_0, .slice A1_1 l1_1.length c1_1]] (by rfl) rfl rfl ma_ ?_
      with_reducible refine (laws_toWhole.calls k a1_0 _ _ l1_1 t351 t352 _ ?side1 ?side2 A20.out).mono ?_
      (case side1 => exact cb_ HR1_1 HB)
      (case side2 => exact HC1_1.out)
      rintro e w36 ⟨v353, rfl, ho0, hb⟩
      refine ⟨_, rfl, ?_⟩
      have HO354 := am_ (Kd.R_lower (Kd.R_new' ho0 (Kd.R_lt (kr_ HO350))) (below_size (bl_ HB))); replace HO350 := am_ (Kd.R_elder' (kr_ HO350) (Kd.R_base ho0) hb); replace BK343 := am_ (blk_below (bk_ BK343) hb); replace BK344 := am_ (blk_below (bk_ BK344) hb); replace BK360 := am_ (blk_below (bk_ BK360) hb); replace HB := am_ (below_step (bl_ HB) hb); (try clear hb); (try clear hb2); (try clear hk); (try clear hi); (try clear ho0)
      obtain ⟨Ao37, co37, eo37⟩ := Kd.R_slice HO350.out
      (first | subst eo37 | (injection eo37 with f1_ f2_ f3_; have f4_ := f1_.symm; have f5_ := f3_.symm; clear f1_ f2_ f3_; subst f4_; subst f5_))
      obtain ⟨Ao38, co38, eo38⟩ := Kd.R_slice HO354.out
      (first | subst eo38 | (injection eo38 with f1_ f2_ f3_; have f4_ := f1_.symm; have f5_ := f3_.symm; clear f1_ f2_ f3_; subst f4_; subst f5_))
      refine hK.out _ _ ⟨bc_ BK343 0, bc_ BK343 1, bc_ BK344 0, bc_ BK344 1⟩ (fun hHeld => ?_)
      clear hK K
      refine norm_ (a' := ?_) ?_ ?_
      rotate_left
      ·show Act.put _ (some 31) _ = _
       exact nm_
      refine one_ (i := 4) (N := some 32) #[true, true, true, true, true, false, false, false, true, false, false] rfl rfl (one_of HT_.out (by kernel_rfl)) (by decide) (fun K hK => ?_)
      refine goes_ Tryd.func22 (by kernel_rfl) rfl #[.agg #[.int .i64 t347, .slice Ao37 t348.length co37], .agg #[.int .i64 t351, .slice Ao38 t352.length co38]] (by rfl) rfl rfl ma_ ?_
      with_reducible refine (spec_CommonOfWholes.calls k t347 _ _ t348 t351 _ _ t352 t355 t356 t359 _ ?side1 ?side2 ?side3 ?side4 A21.out).mono ?_
      (case side1 => exact cr_ HO350)
      (case side2 => exact (Kd.R_reads' HO350.out).2.1)
      (case side3 => exact cr_ HO354)
      (case side4 => exact (Kd.R_reads' HO354.out).2.1)
      rintro e w39 ⟨v357, rfl, ho0, hb⟩
      refine ⟨_, rfl, ?_⟩
      have HO358 := am_ (Kd.R_lower (Kd.R_new' (Kd.R_new' ho0 (Kd.R_lt (kr_ HO350))) (Kd.R_lt (kr_ HO354))) (below_size (bl_ HB))); replace HO350 := am_ (Kd.R_elder' (kr_ HO350) (Kd.R_base ho0) hb); replace HO354 := am_ (Kd.R_elder' (kr_ HO354) (Kd.R_base ho0) hb); replace BK343 := am_ (blk_below (bk_ BK343) hb); replace BK344 := am_ (blk_below (bk_ BK344) hb); replace BK360 := am_ (blk_below (bk_ BK360) hb); replace HB := am_ (below_step (bl_ HB) hb); (try clear hb); (try clear hb2); (try clear hk); (try clear hi); (try clear ho0)
      refine hK.out _ _ ⟨bc_ BK343 0, bc_ BK343 1, bc_ BK344 0, bc_ BK344 1⟩ (fun hHeld => ?_)
      clear hK K
      refine norm_ (a' := ?_) ?_ ?_
      rotate_left
      ·show Act.put _ (some 32) _ = _
       exact nm_
      refine pure_ (i := 5) (N := some 27) (v := ?_) (a' := ?_) #[true, true, true, true, true, true, false, false, true, false, false] rfl rfl (any_of HT_.out (by kernel_rfl)) (fun _ _ _ h => h) (Or.inl ⟨by rfl, ?_⟩) ?_ ?_
      rotate_left
      ·intro w'
       go_simp
       with_reducible rfl
      rotate_left
      ·exact nm_
      refine pure_ (i := 6) (N := some 33) (v := ?_) (a' := ?_) #[true, true, true, true, true, true, true, false, true, false, false] rfl rfl (any_of HT_.out (by kernel_rfl)) (fun _ _ _ h => h) (Or.inl ⟨by rfl, ?_⟩) ?_ ?_
      rotate_left
      ·intro w'
       go_simp
       with_reducible rfl
      rotate_left
      ·exact nm_
      refine pure_ (i := 7) (N := some 34) (v := ?_) (a' := ?_) #[true, true, true, true, true, true, true, true, true, false, false] rfl rfl (any_of HT_.out (by kernel_rfl)) (fun _ _ _ h => h) (Or.inl ⟨by rfl, ?_⟩) ?_ ?_
      rotate_left
      ·intro w'
       go_simp
       with_reducible rfl
      rotate_left
      ·exact nm_
      exact norm_ (by simp only [putAll, Act.put, List.setIfInBounds_toArray, List.set_cons_zero, List.set_cons_succ]) (hCont (.slice Ao37 t348.length co37, .slice Ao38 t352.length co38, v357, gb360) _ ⟨hHeld, (km_ HO350 (fun _ hk => ⟨hk.1.2, hk.2⟩)), (km_ HO354 (fun _ hk => ⟨hk.1.2, hk.2⟩)), (km_ HO358 (fun _ hk => ⟨hk.1.2, hk.2⟩)), (bk_ BK343), (bk_ BK344), (bk_ BK360), GW360.out, GE360.out, NB343_360.out, NB360_343.out, NB344_360.out, NB360_344.out, (bl_ HB)⟩)
    ·skip
     refine box_step ?hg (N := 6) ?hd (cs := #[.int .i64 0, .slice none 0 0]) (t := 26) ?hr ?_; (case hd => rfl); (case hg => rfl); (case hr => first | (go_simp; done) | (go_simp; rfl))
     intro gb360 hg w34 hbox hb
     have BK360 := am_ (hbox); have GW360 := am_ (gs_ hg HB); have GE360 := am_ (gs_ hg HB); replace HB := am_ (below_step (bl_ HB) hb); have NB343_360 := am_ (nl_ hg BK343); have NB360_343 := am_ (ng_ hg BK343); replace BK343 := am_ (blk_below (bk_ BK343) hb); have NB344_360 := am_ (nl_ hg BK344); have NB360_344 := am_ (ng_ hg BK344); replace BK344 := am_ (blk_below (bk_ BK344) hb); clear hb hbox hg
     refine hK.out _ _ ⟨bc_ BK343 0, bc_ BK343 1, bc_ BK344 0, bc_ BK344 1⟩ (fun hHeld => ?_)
     clear hK K
     refine norm_ (a' := ?_) ?_ ?_
     rotate_left
     ·show Act.put _ (some 6) _ = _
      exact nm_
     refine one_ (i := 1) (N := some 29) #[true, true, true, false, false, false, false, false, true, false, false] rfl rfl (one_of HT_.out (by kernel_rfl)) (by decide) (fun K hK => ?_)
     refine goes_ Tryd.func13 (by kernel_rfl) rfl #[.agg #[.int .i64 a0_0, .slice A0_1 l0_1.length c0_1]] (by rfl) rfl rfl ma_ ?_
     with_reducible refine (laws_toWhole.calls k a0_0 _ _ l0_1 t347 t348 _ ?side1 ?side2 A19.out).mono ?_
     (case side1 => exact cb_ HR0_1 HB)
     (case side2 => exact HC0_1.out)
     rintro e w35 ⟨v349, rfl, ho0, hb⟩
     refine ⟨_, rfl, ?_⟩
     have HO350 := am_ (Kd.R_lower ho0 (below_size (bl_ HB))); replace BK343 := am_ (blk_below (bk_ BK343) hb); replace BK344 := am_ (blk_below (bk_ BK344) hb); replace BK360 := am_ (blk_below (bk_ BK360) hb); replace HB := am_ (below_step (bl_ HB) hb); (try clear hb); (try clear hb2); (try clear hk); (try clear hi); (try clear ho0)
     refine hK.out _ _ ⟨bc_ BK343 0, bc_ BK343 1, bc_ BK344 0, bc_ BK344 1⟩ (fun hHeld => ?_)
     clear hK K
     refine norm_ (a' := ?_) ?_ ?_
     rotate_left
     ·show Act.put _ (some 29) _ = _
      exact nm_
     refine one_ (i := 3) (N := some 31) #[true, true, true, true, false, false, false, false, true, false, false] rfl rfl (one_of HT_.out (by kernel_rfl)) (by decide) (fun K hK => ?_)
     refine goes_ Tryd.func13 (by kernel_rfl) rfl #[.agg #[.int .i64 a1_0, .slice A1_1 l1_1.length c1_1]] (by rfl) rfl rfl ma_ ?_
     with_reducible refine (laws_toWhole.calls k a1_0 _ _ l1_1 t351 t352 _ ?side1 ?side2 A20.out).mono ?_
     (case side1 => exact cb_ HR1_1 HB)
     (case side2 => exact HC1_1.out)
     rintro e w36 ⟨v353, rfl, ho0, hb⟩
     refine ⟨_, rfl, ?_⟩
     have HO354 := am_ (Kd.R_lower (Kd.R_new' ho0 (Kd.R_lt (kr_ HO350))) (below_size (bl_ HB))); replace HO350 := am_ (Kd.R_elder' (kr_ HO350) (Kd.R_base ho0) hb); replace BK343 := am_ (blk_below (bk_ BK343) hb); replace BK344 := am_ (blk_below (bk_ BK344) hb); replace BK360 := am_ (blk_below (bk_ BK360) hb); replace HB := am_ (below_step (bl_ HB) hb); (try clear hb); (try clear hb2); (try clear hk); (try clear hi); (try clear ho0)
     obtain ⟨Ao37, co37, eo37⟩ := Kd.R_slice HO350.out
     (first | subst eo37 | (injection eo37 with f1_ f2_ f3_; have f4_ := f1_.symm; have f5_ := f3_.symm; clear f1_ f2_ f3_; subst f4_; subst f5_))
     obtain ⟨Ao38, co38, eo38⟩ := Kd.R_slice HO354.out
     (first | subst eo38 | (injection eo38 with f1_ f2_ f3_; have f4_ := f1_.symm; have f5_ := f3_.symm; clear f1_ f2_ f3_; subst f4_; subst f5_))
     refine hK.out _ _ ⟨bc_ BK343 0, bc_ BK343 1, bc_ BK344 0, bc_ BK344 1⟩ (fun hHeld => ?_)
     clear hK K
     refine norm_ (a' := ?_) ?_ ?_
     rotate_left
     ·show Act.put _ (some 31) _ = _
      exact nm_
     refine one_ (i := 4) (N := some 32) #[true, true, true, true, true, false, false, false, true, false, false] rfl rfl (one_of HT_.out (by kernel_rfl)) (by decide) (fun K hK => ?_)
     refine goes_ Tryd.func22 (by kernel_rfl) rfl #[.agg #[.int .i64 t347, .slice Ao37 t348.length co37], .agg #[.int .i64 t351, .slice Ao38 t352.length co38]] (by rfl) rfl rfl ma_ ?_
     with_reducible refine (spec_CommonOfWholes.calls k t347 _ _ t348 t351 _ _ t352 t355 t356 t359 _ ?side1 ?side2 ?side3 ?side4 A21.out).mono ?_
     (case side1 => exact cr_ HO350)
     (case side2 => exact (Kd.R_reads' HO350.out).2.1)
     (case side3 => exact cr_ HO354)
     (case side4 => exact (Kd.R_reads' HO354.out).2.1)
     rintro e w39 ⟨v357, rfl, ho0, hb⟩
     refine ⟨_, rfl, ?_⟩
     have HO358 := am_ (Kd.R_lower (Kd.R_new' (Kd.R_new' ho0 (Kd.R_lt (kr_ HO350))) (Kd.R_lt (kr_ HO354))) (below_size (bl_ HB))); replace HO350 := am_ (Kd.R_elder' (kr_ HO350) (Kd.R_base ho0) hb); replace HO354 := am_ (Kd.R_elder' (kr_ HO354) (Kd.R_base ho0) hb); replace BK343 := am_ (blk_below (bk_ BK343) hb); replace BK344 := am_ (blk_below (bk_ BK344) hb); replace BK360 := am_ (blk_below (bk_ BK360) hb); replace HB := am_ (below_step (bl_ HB) hb); (try clear hb); (try clear hb2); (try clear hk); (try clear hi); (try clear ho0)
     refine hK.out _ _ ⟨bc_ BK343 0, bc_ BK343 1, bc_ BK344 0, bc_ BK344 1⟩ (fun hHeld => ?_)
     clear hK K
     refine norm_ (a' := ?_) ?_ ?_
     rotate_left
     ·show Act.put _ (some 32) _ = _
      exact nm_
     refine pure_ (i := 5) (N := some 27) (v := ?_) (a' := ?_) #[true, true, true, true, true, true, false, false, true, false, false] rfl rfl (any_of HT_.out (by kernel_rfl)) (fun _ _ _ h => h) (Or.inl ⟨by rfl, ?_⟩) ?_ ?_
     rotate_left
     ·intro w'
      go_simp
      with_reducible rfl
     rotate_left
     ·exact nm_
     refine pure_ (i := 6) (N := some 33) (v := ?_) (a' := ?_) #[true, true, true, true, true, true, true, false, true, false, false] rfl rfl (any_of HT_.out (by kernel_rfl)) (fun _ _ _ h => h) (Or.inl ⟨by rfl, ?_⟩) ?_ ?_
     rotate_left
     ·intro w'
      go_simp
      with_reducible rfl
     rotate_left
     ·exact nm_
     refine pure_ (i := 7) (N := some 34) (v := ?_) (a' := ?_) #[true, true, true, true, true, true, true, true, true, false, false] rfl rfl (any_of HT_.out (by kernel_rfl)) (fun _ _ _ h => h) (Or.inl ⟨by rfl, ?_⟩) ?_ ?_
     rotate_left
     ·intro w'
      go_simp
      with_reducible rfl
     rotate_left
     ·exact nm_
     exact norm_ (by simp only [putAll, Act.put, List.setIfInBounds_toArray, List.set_cons_zero, List.set_cons_succ]) (hCont (.slice Ao37 t348.length co37, .slice Ao38 t352.length co38, v357, gb360) _ ⟨hHeld, (km_ HO350 (fun _ hk => ⟨hk.1.2, hk.2⟩)), (km_ HO354 (fun _ hk => ⟨hk.1.2, hk.2⟩)), (km_ HO358 (fun _ hk => ⟨hk.1.2, hk.2⟩)), (bk_ BK343), (bk_ BK344), (bk_ BK360), GW360.out, GE360.out, NB343_360.out, NB360_343.out, NB344_360.out, NB360_344.out, (bl_ HB)⟩)
   rintro ⟨v349, v353, v357, gb360⟩ w40 ⟨hS_, h0_, h1_, h2_, h3_, h4_, h5_, h6_, h7_, h8_, h9_, h10_, h11_, h12_⟩
   have n0_ : Aside0 (Kd.R (Kd.int .i64) 2 w40 w.heap.size (fun k_ => some k_ ≠ (v353 : Value).ownBlock ∧ some k_ ≠ (v357 : Value).ownBlock) v349 t348) := ⟨h0_⟩
   have n1_ : Aside0 (Kd.R (Kd.int .i64) 2 w40 w.heap.size (fun k_ => some k_ ≠ (v349 : Value).ownBlock ∧ some k_ ≠ (v357 : Value).ownBlock) v353 t352) := ⟨h1_⟩
   have n2_ : Aside0 (Kd.R (Kd.int .i64) 2 w40 w.heap.size (fun k_ => some k_ ≠ (v349 : Value).ownBlock ∧ some k_ ≠ (v353 : Value).ownBlock) v357 t356) := ⟨h2_⟩
   have n3_ : Aside0 (w40.heap[gb343]? = some (.cells #[.int .i64 a0_0, .slice A0_1 l0_1.length c0_1] 24 (0, 0))) := ⟨h3_⟩
   have n4_ : Aside0 (w40.heap[gb344]? = some (.cells #[.int .i64 a1_0, .slice A1_1 l1_1.length c1_1] 24 (0, 0))) := ⟨h4_⟩
   have n5_ : Aside0 (w40.heap[gb360]? = some (.cells #[.int .i64 0, .slice none 0 0] 26 (0, 0))) := ⟨h5_⟩
   have n6_ : Aside0 (w.heap.size ≤ gb360) := ⟨h6_⟩
   have n7_ : Aside0 (w.heap.size ≤ gb360) := ⟨h7_⟩
   have n8_ : Aside0 (gb343 ≠ gb360) := ⟨h8_⟩
   have n9_ : Aside0 (gb360 ≠ gb343) := ⟨h9_⟩
   have n10_ : Aside0 (gb344 ≠ gb360) := ⟨h10_⟩
   have n11_ : Aside0 (gb360 ≠ gb344) := ⟨h11_⟩
   have n12_ : Aside0 (Below w.heap.size w w40) := ⟨h12_⟩
   clear BK343 BK344 HB h0_ h1_ h2_ h3_ h4_ h5_ h6_ h7_ h8_ h9_ h10_ h11_ h12_; have HO350 := n0_; have HO354 := n1_; have HO358 := n2_; have BK343 := n3_; have BK344 := n4_; have BK360 := n5_; have GW360 := n6_; have GE360 := n7_; have NB343_360 := n8_; have NB360_343 := n9_; have NB344_360 := n10_; have NB360_344 := n11_; have HB := n12_; clear n0_ n1_ n2_ n3_ n4_ n5_ n6_ n7_ n8_ n9_ n10_ n11_ n12_
   have hHeld : w40.cell? ⟨gb343, 0, none⟩ = some (.int .i64 a0_0) ∧ w40.cell? ⟨gb343, 1, none⟩ = some (.slice A0_1 l0_1.length c0_1) ∧ w40.cell? ⟨gb344, 0, none⟩ = some (.int .i64 a1_0) ∧ w40.cell? ⟨gb344, 1, none⟩ = some (.slice A1_1 l1_1.length c1_1) := hS_
   obtain ⟨Ao42, co42, eo42⟩ := Kd.R_slice HO358.out
   (first | subst eo42 | (injection eo42 with f1_ f2_ f3_; have f4_ := f1_.symm; have f5_ := f3_.symm; clear f1_ f2_ f3_; subst f4_; subst f5_))
   refine norm_ (a' := ?_) ?_ ?_
   rotate_left
   ·simp only [putAll, Act.put, List.setIfInBounds_toArray, List.set_cons_zero, List.set_cons_succ]
    rfl
   refine one_ (i := 9) (N := none) #[true, true, true, true, true, true, true, true, true, true, false] rfl rfl (one_of HT_.out (by kernel_rfl)) (by decide) (fun K hK => ?_)
   have hs41 : w40.cell? ⟨gb360, 0, none⟩ = some (.int .i64 0) := bc_ BK360 0
   have hfs41 := blk_frozen BK360.out 0; have hns41_0 := NB343_360.out; have hns41_1 := NB344_360.out; have hms41_0 := NB360_343.out; have hms41_1 := NB360_344.out
   have hs43 : w40.cell? ⟨gb360, 1, none⟩ = some (.slice none 0 0) := bc_ BK360 1
   have hfs43 := blk_frozen BK360.out 1; have hns43_0 := NB343_360.out; have hns43_1 := NB344_360.out; have hms43_0 := NB360_343.out; have hms43_1 := NB360_344.out
   refine skip_ (w1 := ?_) (by rfl) rfl ?_ ?_
   rotate_left
   ·go_simp
    rfl
   refine hK.out _ _ ⟨((cell_far (p := ⟨gb360, _, none⟩) NB343_360.out _).trans (((cell_far (p := ⟨gb360, _, none⟩) NB343_360.out _).trans (hHeld.1)))), ((cell_far (p := ⟨gb360, _, none⟩) NB343_360.out _).trans (((cell_far (p := ⟨gb360, _, none⟩) NB343_360.out _).trans (hHeld.2.1)))), ((cell_far (p := ⟨gb360, _, none⟩) NB344_360.out _).trans (((cell_far (p := ⟨gb360, _, none⟩) NB344_360.out _).trans (hHeld.2.2.1)))), ((cell_far (p := ⟨gb360, _, none⟩) NB344_360.out _).trans (((cell_far (p := ⟨gb360, _, none⟩) NB344_360.out _).trans (hHeld.2.2.2))))⟩ (fun hHeld => ?_)
   clear hK K
   refine pure_ (i := 10) (N := some 7) (v := ?_) (a' := ?_) #[true, true, true, true, true, true, true, true, true, true, true] rfl rfl (any_of HT_.out (by kernel_rfl)) (fun _ _ _ h => h) (Or.inl ⟨by rfl, ?_⟩) ?_ ?_
   rotate_left
   ·intro w'
    go_simp
    with_reducible rfl
   rotate_left
   ·exact nm_
   refine done_ (done_of HT_.out (by kernel_rfl)) ?_
   have hnb44 := NB343_360.out; have hnc44 := NB360_343.out
   have hcz45_0 : w40.cell? ⟨gb343, 0, none⟩ = some (.int .i64 a0_0) := bc_ BK343 0
   have hcz45_1 : w40.cell? ⟨gb343, 1, none⟩ = some (.slice A0_1 l0_1.length c0_1) := bc_ BK343 1
   have hfz45_0 := blk_frozen BK343.out 0; have hfz45_1 := blk_frozen BK343.out 1
   go_upto_region 12 with (first | ((with_reducible refine gate_callee (f := 13) rfl ?_); refine goesL_ (some 36) rfl rfl Tryd.func13 (by kernel_rfl) rfl #[.agg #[.int .i64 a0_0, .slice A0_1 l0_1.length c0_1]] rfl ma_ ?_; (with_reducible refine (laws_toWhole.calls k a0_0 _ _ l0_1 t361 t362 _ ?side1 ?side2 A22.out).mono ?_); (case side1 => exact Kd.C_below HR0_1.out (bl_ HB)); (case side2 => exact HC0_1.out); rintro e w46 ⟨v363, rfl, ho0, hb⟩; refine ⟨_, rfl, ?_⟩; have HO364 := am_ (Kd.R_lower (Kd.R_new' (Kd.R_new' (Kd.R_new' ho0 (Kd.R_lt (rg_ HO350 BK360))) (Kd.R_lt (rg_ HO354 BK360))) (Kd.R_lt (rg_ HO358 BK360))) (below_size (bl_ HB))); replace HO350 := am_ (Kd.R_elder' (rg_ HO350 BK360) (Kd.R_base ho0) hb); replace HO354 := am_ (Kd.R_elder' (rg_ HO354 BK360) (Kd.R_base ho0) hb); replace HO358 := am_ (Kd.R_elder' (rg_ HO358 BK360) (Kd.R_base ho0) hb); replace BK343 := am_ (blk_below (bk_ BK343) hb); replace BK344 := am_ (blk_below (bk_ BK344) hb); replace BK360 := am_ (blk_below (bp2_ BK360) hb); replace HB := am_ (below_step (bl_ HB) hb); (try clear hb); (try clear hb2); (try clear hk); (try clear hi); (try clear ho0)) | ((with_reducible refine gate_dst (N := 8) rfl ?_); refine box_event ?hg (N := 8) ?hd (cs := #[.int .i64 0, .slice none 0 0]) (t := 26) ?hr ?_; (case hd => rfl); (case hg => rfl); (case hr => first | (go_simp; done) | (go_simp; rfl)); intro gb365 hg w47 hbox hb; have BK365 := am_ (hbox); have GW365 := am_ (gs_ hg HB); have GE365 := am_ (gs_ hg HB); have NB343_365 := am_ (nl_ hg BK343); have NB365_343 := am_ (ng_ hg BK343); have NB344_365 := am_ (nl_ hg BK344); have NB365_344 := am_ (ng_ hg BK344); have NB360_365 := am_ (nl_ hg BK360); have NB365_360 := am_ (ng_ hg BK360); replace HO350 := am_ (Kd.R_below (kr_ HO350) hb); replace HO354 := am_ (Kd.R_below (kr_ HO354) hb); replace HO358 := am_ (Kd.R_below (kr_ HO358) hb); replace HO364 := am_ (Kd.R_below (kr_ HO364) hb); replace BK343 := am_ (blk_below (bk_ BK343) hb); replace BK344 := am_ (blk_below (bk_ BK344) hb); replace BK360 := am_ (blk_below (bk_ BK360) hb); replace HB := am_ (below_step (bl_ HB) hb); clear hb hbox hg; have hnb48 := NB365_343.out; have hnc48 := NB343_365.out; have hnb49 := NB365_344.out; have hnc49 := NB344_365.out; have hnb50 := NB365_360.out; have hnc50 := NB360_365.out; have hcz51_0 : w47.cell? ⟨gb365, 0, none⟩ = some (.int .i64 0) := bc_ BK365 0; have hcz51_1 : w47.cell? ⟨gb365, 1, none⟩ = some (.slice none 0 0) := bc_ BK365 1; have hfz51_0 := blk_frozen BK365.out 0; have hfz51_1 := blk_frozen BK365.out 1; obtain ⟨Ao52, co52, eo52⟩ := Kd.R_slice HO364.out; subst eo52; have hnb53 := NB344_360.out; have hnc53 := NB360_344.out; have hcz54_0 : w47.cell? ⟨gb344, 0, none⟩ = some (.int .i64 a1_0) := bc_ BK344 0; have hcz54_1 : w47.cell? ⟨gb344, 1, none⟩ = some (.slice A1_1 l1_1.length c1_1) := bc_ BK344 1; have hfz54_0 := blk_frozen BK344.out 0; have hfz54_1 := blk_frozen BK344.out 1) | ((with_reducible refine gate_callee (f := 13) rfl ?_); refine goesL_ (some 38) rfl rfl Tryd.func13 (by kernel_rfl) rfl #[.agg #[.int .i64 a1_0, .slice A1_1 l1_1.length c1_1]] rfl ma_ ?_; (with_reducible refine (laws_toWhole.calls k a1_0 _ _ l1_1 t366 t367 _ ?side1 ?side2 A23.out).mono ?_); (case side1 => exact Kd.C_below HR1_1.out (bl_ HB)); (case side2 => exact HC1_1.out); rintro e w55 ⟨v368, rfl, ho0, hb⟩; refine ⟨_, rfl, ?_⟩; have HO369 := am_ (Kd.R_lower (Kd.R_new' (Kd.R_new' (Kd.R_new' (Kd.R_new' ho0 (Kd.R_lt (rg_ HO350 BK365))) (Kd.R_lt (rg_ HO354 BK365))) (Kd.R_lt (rg_ HO358 BK365))) (Kd.R_lt (rg_ HO364 BK365))) (below_size (bl_ HB))); replace HO350 := am_ (Kd.R_elder' (rg_ HO350 BK365) (Kd.R_base ho0) hb); replace HO354 := am_ (Kd.R_elder' (rg_ HO354 BK365) (Kd.R_base ho0) hb); replace HO358 := am_ (Kd.R_elder' (rg_ HO358 BK365) (Kd.R_base ho0) hb); replace HO364 := am_ (Kd.R_elder' (rg_ HO364 BK365) (Kd.R_base ho0) hb); replace BK343 := am_ (blk_below (bk_ BK343) hb); replace BK344 := am_ (blk_below (bk_ BK344) hb); replace BK360 := am_ (blk_below (bk_ BK360) hb); replace BK365 := am_ (blk_below (bp2_ BK365) hb); replace HB := am_ (below_step (bl_ HB) hb); (try clear hb); (try clear hb2); (try clear hk); (try clear hi); (try clear ho0)) | ((with_reducible refine gate_dst (N := 9) rfl ?_); refine box_event ?hg (N := 9) ?hd (cs := #[.int .i64 0, .slice none 0 0]) (t := 26) ?hr ?_; (case hd => rfl); (case hg => rfl); (case hr => first | (go_simp; done) | (go_simp; rfl)); intro gb370 hg w56 hbox hb; have BK370 := am_ (hbox); have GW370 := am_ (gs_ hg HB); have GE370 := am_ (gs_ hg HB); have NB343_370 := am_ (nl_ hg BK343); have NB370_343 := am_ (ng_ hg BK343); have NB344_370 := am_ (nl_ hg BK344); have NB370_344 := am_ (ng_ hg BK344); have NB360_370 := am_ (nl_ hg BK360); have NB370_360 := am_ (ng_ hg BK360); have NB365_370 := am_ (nl_ hg BK365); have NB370_365 := am_ (ng_ hg BK365); replace HO350 := am_ (Kd.R_below (kr_ HO350) hb); replace HO354 := am_ (Kd.R_below (kr_ HO354) hb); replace HO358 := am_ (Kd.R_below (kr_ HO358) hb); replace HO364 := am_ (Kd.R_below (kr_ HO364) hb); replace HO369 := am_ (Kd.R_below (kr_ HO369) hb); replace BK343 := am_ (blk_below (bk_ BK343) hb); replace BK344 := am_ (blk_below (bk_ BK344) hb); replace BK360 := am_ (blk_below (bk_ BK360) hb); replace BK365 := am_ (blk_below (bk_ BK365) hb); replace HB := am_ (below_step (bl_ HB) hb); clear hb hbox hg; have hnb57 := NB370_343.out; have hnc57 := NB343_370.out; have hnb58 := NB370_344.out; have hnc58 := NB344_370.out; have hnb59 := NB370_360.out; have hnc59 := NB360_370.out; have hnb60 := NB370_365.out; have hnc60 := NB365_370.out; have hcz61_0 : w56.cell? ⟨gb370, 0, none⟩ = some (.int .i64 0) := bc_ BK370 0; have hcz61_1 : w56.cell? ⟨gb370, 1, none⟩ = some (.slice none 0 0) := bc_ BK370 1; have hfz61_0 := blk_frozen BK370.out 0; have hfz61_1 := blk_frozen BK370.out 1; obtain ⟨Ao62, co62, eo62⟩ := Kd.R_slice HO369.out; subst eo62; have hcz63_0 : w56.cell? ⟨gb365, 0, none⟩ = some (.int .i64 t361) := bc_ BK365 0; have hcz63_1 : w56.cell? ⟨gb365, 1, none⟩ = some (.slice Ao52 t362.length co52) := bc_ BK365 1; have hfz63_0 := blk_frozen BK365.out 0; have hfz63_1 := blk_frozen BK365.out 1) | ((with_reducible refine gate_callee (f := 23) rfl ?_); refine goesL_ (some 42) rfl rfl Tryd.func23 (by kernel_rfl) rfl #[.agg #[.int .i64 t361, .slice Ao52 t362.length co52], .agg #[.int .i64 t366, .slice Ao62 t367.length co62]] rfl ma_ ?_; (with_reducible refine (impl_CommonOfWholes.calls t361 _ _ t362 t366 _ _ t367 t371 t372 t375 _ ?side1 ?side2 ?side3 ?side4 A24.out).mono ?_); (case side1 => refine (Kd.R_reads' (e := 2) (base := w.heap.size) (ok := fun k_ => ((((True ∧ some k_ ≠ (v349 : Value).ownBlock) ∧ some k_ ≠ (v353 : Value).ownBlock) ∧ some k_ ≠ (.slice Ao42 t356.length co42 : Value).ownBlock) ∧ some k_ ≠ (.slice Ao62 t367.length co62 : Value).ownBlock)) (n := t362.length) (c := co52) ?_).2.2; exact (rg_ HO364 BK370)); (case side2 => exact (Kd.R_reads' HO364.out).2.1); (case side3 => refine (Kd.R_reads' (e := 2) (base := w.heap.size) (ok := fun k_ => ((((True ∧ some k_ ≠ (v349 : Value).ownBlock) ∧ some k_ ≠ (v353 : Value).ownBlock) ∧ some k_ ≠ (.slice Ao42 t356.length co42 : Value).ownBlock) ∧ some k_ ≠ (.slice Ao52 t362.length co52 : Value).ownBlock)) (n := t367.length) (c := co62) ?_).2.2; exact (rg_ HO369 BK370)); (case side4 => exact (Kd.R_reads' HO369.out).2.1); rintro e w64 ⟨v373, rfl, ho0, hb⟩; refine ⟨_, rfl, ?_⟩; have HO374 := am_ (Kd.R_lower (Kd.R_new' (Kd.R_new' (Kd.R_new' (Kd.R_new' (Kd.R_new' ho0 (Kd.R_lt (rg_ HO350 BK370))) (Kd.R_lt (rg_ HO354 BK370))) (Kd.R_lt (rg_ HO358 BK370))) (Kd.R_lt (rg_ HO364 BK370))) (Kd.R_lt (rg_ HO369 BK370))) (below_size (bl_ HB))); replace HO350 := am_ (Kd.R_elder' (rg_ HO350 BK370) (Kd.R_base ho0) hb); replace HO354 := am_ (Kd.R_elder' (rg_ HO354 BK370) (Kd.R_base ho0) hb); replace HO358 := am_ (Kd.R_elder' (rg_ HO358 BK370) (Kd.R_base ho0) hb); replace HO364 := am_ (Kd.R_elder' (rg_ HO364 BK370) (Kd.R_base ho0) hb); replace HO369 := am_ (Kd.R_elder' (rg_ HO369 BK370) (Kd.R_base ho0) hb); replace BK343 := am_ (blk_below (bk_ BK343) hb); replace BK344 := am_ (blk_below (bk_ BK344) hb); replace BK360 := am_ (blk_below (bk_ BK360) hb); replace BK365 := am_ (blk_below (bk_ BK365) hb); replace BK370 := am_ (blk_below (bp2_ BK370) hb); replace HB := am_ (below_step (bl_ HB) hb); (try clear hb); (try clear hb2); (try clear hk); (try clear hi); (try clear ho0)) | ((with_reducible refine gate_dst (N := 10) rfl ?_); refine box_event ?hg (N := 10) ?hd (cs := #[.int .i64 0, .slice none 0 0]) (t := 26) ?hr ?_; (case hd => rfl); (case hg => rfl); (case hr => first | (go_simp; done) | (go_simp; rfl)); intro gb376 hg w65 hbox hb; have BK376 := am_ (hbox); have GW376 := am_ (gs_ hg HB); have GE376 := am_ (gs_ hg HB); have NB343_376 := am_ (nl_ hg BK343); have NB376_343 := am_ (ng_ hg BK343); have NB344_376 := am_ (nl_ hg BK344); have NB376_344 := am_ (ng_ hg BK344); have NB360_376 := am_ (nl_ hg BK360); have NB376_360 := am_ (ng_ hg BK360); have NB365_376 := am_ (nl_ hg BK365); have NB376_365 := am_ (ng_ hg BK365); have NB370_376 := am_ (nl_ hg BK370); have NB376_370 := am_ (ng_ hg BK370); replace HO350 := am_ (Kd.R_below (kr_ HO350) hb); replace HO354 := am_ (Kd.R_below (kr_ HO354) hb); replace HO358 := am_ (Kd.R_below (kr_ HO358) hb); replace HO364 := am_ (Kd.R_below (kr_ HO364) hb); replace HO369 := am_ (Kd.R_below (kr_ HO369) hb); replace HO374 := am_ (Kd.R_below (kr_ HO374) hb); replace BK343 := am_ (blk_below (bk_ BK343) hb); replace BK344 := am_ (blk_below (bk_ BK344) hb); replace BK360 := am_ (blk_below (bk_ BK360) hb); replace BK365 := am_ (blk_below (bk_ BK365) hb); replace BK370 := am_ (blk_below (bk_ BK370) hb); replace HB := am_ (below_step (bl_ HB) hb); clear hb hbox hg; have hnb66 := NB376_343.out; have hnc66 := NB343_376.out; have hnb67 := NB376_344.out; have hnc67 := NB344_376.out; have hnb68 := NB376_360.out; have hnc68 := NB360_376.out; have hnb69 := NB376_365.out; have hnc69 := NB365_376.out; have hnb70 := NB376_370.out; have hnc70 := NB370_376.out; have hcz71_0 : w65.cell? ⟨gb376, 0, none⟩ = some (.int .i64 0) := bc_ BK376 0; have hcz71_1 : w65.cell? ⟨gb376, 1, none⟩ = some (.slice none 0 0) := bc_ BK376 1; have hfz71_0 := blk_frozen BK376.out 0; have hfz71_1 := blk_frozen BK376.out 1; obtain ⟨Ao72, co72, eo72⟩ := Kd.R_slice HO374.out; subst eo72))
   (try simp only [Act.put, List.setIfInBounds_toArray, List.set_cons_zero, List.set_cons_succ])
   go_cut [53] (fun v53 wc => ∃ (kq : Nat) (x53_24 : Bool), v53 = .bool x53_24 ∧ Aside0 (laws_FnExactCommonOfWholes.j0 kq t359 t375 x53_24 a0_0 l0_1 a1_0 l1_1 t355 t356 t361 t362 t366 t367 t371 t372 = some r) ∧ Aside0 (kq ≤ k) ∧ Aside0 (Kd.R (Kd.int .i64) 2 wc w.heap.size (fun k_ => some k_ ≠ ((.slice Ao52 t362.length co52) : Value).ownBlock ∧ some k_ ≠ ((.slice Ao62 t367.length co62) : Value).ownBlock ∧ some k_ ≠ ((.slice Ao72 t372.length co72) : Value).ownBlock) (.slice Ao42 t356.length co42) t356) ∧ Aside0 (Kd.R (Kd.int .i64) 2 wc w.heap.size (fun k_ => some k_ ≠ ((.slice Ao42 t356.length co42) : Value).ownBlock ∧ some k_ ≠ ((.slice Ao62 t367.length co62) : Value).ownBlock ∧ some k_ ≠ ((.slice Ao72 t372.length co72) : Value).ownBlock) (.slice Ao52 t362.length co52) t362) ∧ Aside0 (Kd.R (Kd.int .i64) 2 wc w.heap.size (fun k_ => some k_ ≠ ((.slice Ao42 t356.length co42) : Value).ownBlock ∧ some k_ ≠ ((.slice Ao52 t362.length co52) : Value).ownBlock ∧ some k_ ≠ ((.slice Ao72 t372.length co72) : Value).ownBlock) (.slice Ao62 t367.length co62) t367) ∧ Aside0 (Kd.R (Kd.int .i64) 2 wc w.heap.size (fun k_ => some k_ ≠ ((.slice Ao42 t356.length co42) : Value).ownBlock ∧ some k_ ≠ ((.slice Ao52 t362.length co52) : Value).ownBlock ∧ some k_ ≠ ((.slice Ao62 t367.length co62) : Value).ownBlock) (.slice Ao72 t372.length co72) t372) ∧ Aside0 (wc.heap[gb343]? = some (.cells #[.int .i64 a0_0, (.slice A0_1 l0_1.length c0_1)] 24 (0, 0))) ∧ Aside0 (wc.heap[gb344]? = some (.cells #[.int .i64 a1_0, (.slice A1_1 l1_1.length c1_1)] 24 (0, 0))) ∧ Aside0 (wc.heap[gb360]? = some (.cells #[.int .i64 t355, (.slice Ao42 t356.length co42)] 26 (0, 0))) ∧ Aside0 (wc.heap[gb365]? = some (.cells #[.int .i64 t361, (.slice Ao52 t362.length co52)] 26 (0, 0))) ∧ Aside0 (wc.heap[gb370]? = some (.cells #[.int .i64 t366, (.slice Ao62 t367.length co62)] 26 (0, 0))) ∧ Aside0 (wc.heap[gb376]? = some (.cells #[.int .i64 t371, (.slice Ao72 t372.length co72)] 26 (0, 0))) ∧ Aside0 (Below w.heap.size w wc))
   case first =>
    have H := HC25.out; clear HC25
    replace H := Option.bind_eq_some_iff.mp H
    obtain ⟨t377, A730, H⟩ := H
    replace H : (if t377 = true then (laws_FnExactCommonOfWholes.j0 k t359 t375 (t375 != t359) a0_0 l0_1 a1_0 l1_1 t355 t356 t361 t362 t366 t367 t371 t372) else (laws_FnExactCommonOfWholes.j0 k t359 t375 true a0_0 l0_1 a1_0 l1_1 t355 t356 t361 t362 t366 t367 t371 t372)) = some r := H
    have A73 := Aside0.mk A730; clear A730
    by_cases c74 : t377 = true
    ·subst c74
     have H1 : (laws_FnExactCommonOfWholes.j0 k t359 t375 (t375 != t359) a0_0 l0_1 a1_0 l1_1 t355 t356 t361 t362 t366 t367 t371 t372) = some r := by rw [if_pos rfl] at H; exact H
     clear H; have H := H1; clear H1
     have H' := Aside0.mk H
     clear H; have hnb75 := NB376_343.out; have hnc75 := NB343_376.out; have hnb76 := NB376_344.out; have hnc76 := NB344_376.out; have hnb77 := NB376_360.out; have hnc77 := NB360_376.out; have hnb78 := NB376_365.out; have hnc78 := NB365_376.out; have hnb79 := NB376_370.out; have hnc79 := NB370_376.out
     have hcz80_0 : w65.cell? ⟨gb376, 0, none⟩ = some (.int .i64 0) := bc_ BK376 0
     have hcz80_1 : w65.cell? ⟨gb376, 1, none⟩ = some (.slice none 0 0) := bc_ BK376 1
     have hfz80_0 := blk_frozen BK376.out 0; have hfz80_1 := blk_frozen BK376.out 1; have hnb81 := NB360_343.out; have hnc81 := NB343_360.out; have hnb82 := NB360_344.out; have hnc82 := NB344_360.out; have hnb83 := NB360_365.out; have hnc83 := NB365_360.out; have hnb84 := NB360_370.out; have hnc84 := NB370_360.out
     have hcz85_0 : w65.cell? ⟨gb360, 0, none⟩ = some (.int .i64 t355) := bc_ BK360 0
     have hcz85_1 : w65.cell? ⟨gb360, 1, none⟩ = some (.slice Ao42 t356.length co42) := bc_ BK360 1
     have hfz85_0 := blk_frozen BK360.out 0; have hfz85_1 := blk_frozen BK360.out 1
     go_wp2_with (first | ((with_reducible refine gate_callee (f := 15) rfl ?_); refine goesL_ (some 47) rfl rfl Tryd.func15 (by kernel_rfl) rfl #[.agg #[.int .i64 t371, .slice Ao72 t372.length co72], .agg #[.int .i64 t355, .slice Ao42 t356.length co42]] rfl ma_ ?_; (with_reducible refine (laws_eqWhole.calls k t371 _ _ t372 t355 _ _ t356 true _ ?side1 ?side2 ?side3 ?side4 A73.out).mono ?_); (case side1 => refine (Kd.R_reads' (e := 2) (base := w.heap.size) (ok := fun k_ => (((((True ∧ some k_ ≠ (v349 : Value).ownBlock) ∧ some k_ ≠ (v353 : Value).ownBlock) ∧ some k_ ≠ (.slice Ao42 t356.length co42 : Value).ownBlock) ∧ some k_ ≠ (.slice Ao52 t362.length co52 : Value).ownBlock) ∧ some k_ ≠ (.slice Ao62 t367.length co62 : Value).ownBlock)) (n := t372.length) (c := co72) ?_).2.2; exact (rg_ HO374 BK376)); (case side2 => exact (Kd.R_reads' HO374.out).2.1); (case side3 => refine (Kd.R_reads' (e := 2) (base := w.heap.size) (ok := fun k_ => ((((some k_ ≠ (v349 : Value).ownBlock ∧ some k_ ≠ (v353 : Value).ownBlock) ∧ some k_ ≠ (.slice Ao52 t362.length co52 : Value).ownBlock) ∧ some k_ ≠ (.slice Ao62 t367.length co62 : Value).ownBlock) ∧ some k_ ≠ (.slice Ao72 t372.length co72 : Value).ownBlock)) (n := t356.length) (c := co42) ?_).2.2; exact (rg_ HO358 BK376)); (case side4 => exact (Kd.R_reads' HO358.out).2.1); rintro e w86 ⟨rfl, hb⟩; refine ⟨_, rfl, ?_⟩; replace HO350 := am_ (Kd.R_below (rg_ HO350 BK376) hb); replace HO354 := am_ (Kd.R_below (rg_ HO354 BK376) hb); replace HO358 := am_ (Kd.R_below (rg_ HO358 BK376) hb); replace HO364 := am_ (Kd.R_below (rg_ HO364 BK376) hb); replace HO369 := am_ (Kd.R_below (rg_ HO369 BK376) hb); replace HO374 := am_ (Kd.R_below (rg_ HO374 BK376) hb); replace BK343 := am_ (blk_below (bk_ BK343) hb); replace BK344 := am_ (blk_below (bk_ BK344) hb); replace BK360 := am_ (blk_below (bk_ BK360) hb); replace BK365 := am_ (blk_below (bk_ BK365) hb); replace BK370 := am_ (blk_below (bk_ BK370) hb); replace BK376 := am_ (blk_below (bp2_ BK376) hb); replace HB := am_ (below_step (bl_ HB) hb); (try clear hb); (try clear hb2); (try clear hk); (try clear hi)))
     go_meet
     case rel => exact ⟨_, ((t375 != t359)), (by first | rfl | (simp; done) | (simp [*]; done)), H', ⟨by first | omega | exact Nat.le_refl _⟩, ⟨km_ HO358 (fun _ hk => ⟨hk.1.1.2, ⟨hk.1.2, hk.2⟩⟩)⟩, ⟨km_ HO364 (fun _ hk => ⟨hk.1.1.2, ⟨hk.1.2, hk.2⟩⟩)⟩, ⟨km_ HO369 (fun _ hk => ⟨hk.1.1.2, ⟨hk.1.2, hk.2⟩⟩)⟩, ⟨km_ HO374 (fun _ hk => ⟨hk.1.1.2, ⟨hk.1.2, hk.2⟩⟩)⟩, ⟨bk_ BK343⟩, ⟨bk_ BK344⟩, ⟨bk_ BK360⟩, ⟨bk_ BK365⟩, ⟨bk_ BK370⟩, ⟨bk_ BK376⟩, ⟨bl_ HB⟩⟩
    ·replace c74 := Bool.eq_false_iff.mpr c74
     subst c74
     have H1 : (laws_FnExactCommonOfWholes.j0 k t359 t375 true a0_0 l0_1 a1_0 l1_1 t355 t356 t361 t362 t366 t367 t371 t372) = some r := by rw [if_neg (show ¬ (false = true) by decide)] at H; exact H
     clear H; have H := H1; clear H1
     have H' := Aside0.mk H
     clear H; have hnb87 := NB376_343.out; have hnc87 := NB343_376.out; have hnb88 := NB376_344.out; have hnc88 := NB344_376.out; have hnb89 := NB376_360.out; have hnc89 := NB360_376.out; have hnb90 := NB376_365.out; have hnc90 := NB365_376.out; have hnb91 := NB376_370.out; have hnc91 := NB370_376.out
     have hcz92_0 : w65.cell? ⟨gb376, 0, none⟩ = some (.int .i64 0) := bc_ BK376 0
     have hcz92_1 : w65.cell? ⟨gb376, 1, none⟩ = some (.slice none 0 0) := bc_ BK376 1
     have hfz92_0 := blk_frozen BK376.out 0; have hfz92_1 := blk_frozen BK376.out 1; have hnb93 := NB360_343.out; have hnc93 := NB343_360.out; have hnb94 := NB360_344.out; have hnc94 := NB344_360.out; have hnb95 := NB360_365.out; have hnc95 := NB365_360.out; have hnb96 := NB360_370.out; have hnc96 := NB370_360.out
     have hcz97_0 : w65.cell? ⟨gb360, 0, none⟩ = some (.int .i64 t355) := bc_ BK360 0
     have hcz97_1 : w65.cell? ⟨gb360, 1, none⟩ = some (.slice Ao42 t356.length co42) := bc_ BK360 1
     have hfz97_0 := blk_frozen BK360.out 0; have hfz97_1 := blk_frozen BK360.out 1
     go_wp2_with (first | ((with_reducible refine gate_callee (f := 15) rfl ?_); refine goesL_ (some 47) rfl rfl Tryd.func15 (by kernel_rfl) rfl #[.agg #[.int .i64 t371, .slice Ao72 t372.length co72], .agg #[.int .i64 t355, .slice Ao42 t356.length co42]] rfl ma_ ?_; (with_reducible refine (laws_eqWhole.calls k t371 _ _ t372 t355 _ _ t356 false _ ?side1 ?side2 ?side3 ?side4 A73.out).mono ?_); (case side1 => refine (Kd.R_reads' (e := 2) (base := w.heap.size) (ok := fun k_ => (((((True ∧ some k_ ≠ (v349 : Value).ownBlock) ∧ some k_ ≠ (v353 : Value).ownBlock) ∧ some k_ ≠ (.slice Ao42 t356.length co42 : Value).ownBlock) ∧ some k_ ≠ (.slice Ao52 t362.length co52 : Value).ownBlock) ∧ some k_ ≠ (.slice Ao62 t367.length co62 : Value).ownBlock)) (n := t372.length) (c := co72) ?_).2.2; exact (rg_ HO374 BK376)); (case side2 => exact (Kd.R_reads' HO374.out).2.1); (case side3 => refine (Kd.R_reads' (e := 2) (base := w.heap.size) (ok := fun k_ => ((((some k_ ≠ (v349 : Value).ownBlock ∧ some k_ ≠ (v353 : Value).ownBlock) ∧ some k_ ≠ (.slice Ao52 t362.length co52 : Value).ownBlock) ∧ some k_ ≠ (.slice Ao62 t367.length co62 : Value).ownBlock) ∧ some k_ ≠ (.slice Ao72 t372.length co72 : Value).ownBlock)) (n := t356.length) (c := co42) ?_).2.2; exact (rg_ HO358 BK376)); (case side4 => exact (Kd.R_reads' HO358.out).2.1); rintro e w98 ⟨rfl, hb⟩; refine ⟨_, rfl, ?_⟩; replace HO350 := am_ (Kd.R_below (rg_ HO350 BK376) hb); replace HO354 := am_ (Kd.R_below (rg_ HO354 BK376) hb); replace HO358 := am_ (Kd.R_below (rg_ HO358 BK376) hb); replace HO364 := am_ (Kd.R_below (rg_ HO364 BK376) hb); replace HO369 := am_ (Kd.R_below (rg_ HO369 BK376) hb); replace HO374 := am_ (Kd.R_below (rg_ HO374 BK376) hb); replace BK343 := am_ (blk_below (bk_ BK343) hb); replace BK344 := am_ (blk_below (bk_ BK344) hb); replace BK360 := am_ (blk_below (bk_ BK360) hb); replace BK365 := am_ (blk_below (bk_ BK365) hb); replace BK370 := am_ (blk_below (bk_ BK370) hb); replace BK376 := am_ (blk_below (bp2_ BK376) hb); replace HB := am_ (below_step (bl_ HB) hb); (try clear hb); (try clear hb2); (try clear hk); (try clear hi)))
     go_meet
     case rel => exact ⟨_, (true), (by first | rfl | (simp; done) | (simp [*]; done)), H', ⟨by first | omega | exact Nat.le_refl _⟩, ⟨km_ HO358 (fun _ hk => ⟨hk.1.1.2, ⟨hk.1.2, hk.2⟩⟩)⟩, ⟨km_ HO364 (fun _ hk => ⟨hk.1.1.2, ⟨hk.1.2, hk.2⟩⟩)⟩, ⟨km_ HO369 (fun _ hk => ⟨hk.1.1.2, ⟨hk.1.2, hk.2⟩⟩)⟩, ⟨km_ HO374 (fun _ hk => ⟨hk.1.1.2, ⟨hk.1.2, hk.2⟩⟩)⟩, ⟨bk_ BK343⟩, ⟨bk_ BK344⟩, ⟨bk_ BK360⟩, ⟨bk_ BK365⟩, ⟨bk_ BK370⟩, ⟨bk_ BK376⟩, ⟨bl_ HB⟩⟩
   case rest =>
    clear HC25; try clear c1; try clear c2; try clear p2; try clear c4; try clear c5; try clear c6; try clear c7; try clear c8; try clear c9; try clear c13; try clear c15; try clear c22; try clear c23; try clear c44; try clear c48; try clear c49; try clear c50; try clear c53; try clear c57; try clear c58; try clear c59; try clear c60; try clear c66; try clear c67; try clear c68; try clear c69; try clear c70; try clear c74; try clear c75; try clear c76; try clear c77; try clear c78; try clear c79; try clear c81; try clear c82; try clear c83; try clear c84; try clear c87; try clear c88; try clear c89; try clear c90; try clear c91; try clear c93; try clear c94; try clear c95; try clear c96; try clear hcz45_0; try clear hcz45_1; try clear hcz51_0; try clear hcz51_1; try clear hcz54_0; try clear hcz54_1; try clear hcz61_0; try clear hcz61_1; try clear hcz63_0; try clear hcz63_1; try clear hcz71_0; try clear hcz71_1; try clear hcz80_0; try clear hcz80_1; try clear hcz85_0; try clear hcz85_1; try clear hcz92_0; try clear hcz92_1; try clear hcz97_0; try clear hcz97_1; try clear hfz45_0; try clear hfz45_1; try clear hfz51_0; try clear hfz51_1; try clear hfz54_0; try clear hfz54_1; try clear hfz61_0; try clear hfz61_1; try clear hfz63_0; try clear hfz63_1; try clear hfz71_0; try clear hfz71_1; try clear hfz80_0; try clear hfz80_1; try clear hfz85_0; try clear hfz85_1; try clear hfz92_0; try clear hfz92_1; try clear hfz97_0; try clear hfz97_1
    obtain ⟨kq, x53_24, rfl, HA, HJ24, HO_361001, HO_366001, HO_371001, HO_377001, BK343, BK344, BK360, BK365, BK370, BK376, HB⟩ := hcut
    cases kq with
    | zero => exact absurd HA.out (by simp [laws_FnExactCommonOfWholes.j0])
    | succ kj24 =>
     have H := HA.out; clear HA
     simp only [laws_FnExactCommonOfWholes.j0] at H
     by_cases c99 : x53_24 = true
     ·subst c99
      have H1 : (some false) = some r := by rw [if_pos rfl] at H; exact H
      clear H; have H := H1; clear H1; obtain rfl := Option.some.inj H; exact absurd hrt (by decide)
     ·replace c99 := Bool.eq_false_iff.mpr c99
      subst c99
      have H1 : ((laws_toWhole.f kj24 a0_0 l0_1).bind fun bt378 => ((laws_eqWhole.f kj24 t361 t362 bt378.1 bt378.2).bind fun t382 => (if t382 = true then ((laws_toWhole.f kj24 a1_0 l1_1).bind fun bt383 => ((laws_eqWhole.f kj24 t366 t367 bt383.1 bt383.2).bind fun t387 => (if t387 = true then ((laws_markWhole.f kj24 t361 t362 1).bind fun bt388 => ((laws_markWhole.f kj24 t366 t367 bt388.1).bind fun bt390 => (if bt390.1 < 0 then (laws_FnExactCommonOfWholes.j1 kj24 t359 true a0_0 l0_1 a1_0 l1_1 t355 t356 t371 t372) else ((laws_eqWhole.f kj24 t371 t372 t355 t356).bind fun t392 => (if t392 = true then (laws_FnExactCommonOfWholes.j1 kj24 t359 (t375 != t359) a0_0 l0_1 a1_0 l1_1 t355 t356 t371 t372) else (laws_FnExactCommonOfWholes.j1 kj24 t359 true a0_0 l0_1 a1_0 l1_1 t355 t356 t371 t372)))))) else (some false)))) else (some false)))) = some r := by rw [if_neg (show ¬ (false = true) by decide)] at H; exact H
      clear H; have H := H1; clear H1
      replace H := Option.bind_eq_some_iff.mp H
      obtain ⟨⟨t378, t379⟩, A1000, H⟩ := H
      replace H : ((laws_eqWhole.f kj24 t361 t362 t378 t379).bind fun t382 => (if t382 = true then ((laws_toWhole.f kj24 a1_0 l1_1).bind fun bt383 => ((laws_eqWhole.f kj24 t366 t367 bt383.1 bt383.2).bind fun t387 => (if t387 = true then ((laws_markWhole.f kj24 t361 t362 1).bind fun bt388 => ((laws_markWhole.f kj24 t366 t367 bt388.1).bind fun bt390 => (if bt390.1 < 0 then (laws_FnExactCommonOfWholes.j1 kj24 t359 true a0_0 l0_1 a1_0 l1_1 t355 t356 t371 t372) else ((laws_eqWhole.f kj24 t371 t372 t355 t356).bind fun t392 => (if t392 = true then (laws_FnExactCommonOfWholes.j1 kj24 t359 (t375 != t359) a0_0 l0_1 a1_0 l1_1 t355 t356 t371 t372) else (laws_FnExactCommonOfWholes.j1 kj24 t359 true a0_0 l0_1 a1_0 l1_1 t355 t356 t371 t372)))))) else (some false)))) else (some false))) = some r := H
      have A100 := Aside0.mk A1000; clear A1000
      replace H := Option.bind_eq_some_iff.mp H
      obtain ⟨t382, A1010, H⟩ := H
      replace H : (if t382 = true then ((laws_toWhole.f kj24 a1_0 l1_1).bind fun bt383 => ((laws_eqWhole.f kj24 t366 t367 bt383.1 bt383.2).bind fun t387 => (if t387 = true then ((laws_markWhole.f kj24 t361 t362 1).bind fun bt388 => ((laws_markWhole.f kj24 t366 t367 bt388.1).bind fun bt390 => (if bt390.1 < 0 then (laws_FnExactCommonOfWholes.j1 kj24 t359 true a0_0 l0_1 a1_0 l1_1 t355 t356 t371 t372) else ((laws_eqWhole.f kj24 t371 t372 t355 t356).bind fun t392 => (if t392 = true then (laws_FnExactCommonOfWholes.j1 kj24 t359 (t375 != t359) a0_0 l0_1 a1_0 l1_1 t355 t356 t371 t372) else (laws_FnExactCommonOfWholes.j1 kj24 t359 true a0_0 l0_1 a1_0 l1_1 t355 t356 t371 t372)))))) else (some false)))) else (some false)) = some r := H
      have A101 := Aside0.mk A1010; clear A1010
      by_cases c102 : t382 = true
      ·subst c102
       have H1 : ((laws_toWhole.f kj24 a1_0 l1_1).bind fun bt383 => ((laws_eqWhole.f kj24 t366 t367 bt383.1 bt383.2).bind fun t387 => (if t387 = true then ((laws_markWhole.f kj24 t361 t362 1).bind fun bt388 => ((laws_markWhole.f kj24 t366 t367 bt388.1).bind fun bt390 => (if bt390.1 < 0 then (laws_FnExactCommonOfWholes.j1 kj24 t359 true a0_0 l0_1 a1_0 l1_1 t355 t356 t371 t372) else ((laws_eqWhole.f kj24 t371 t372 t355 t356).bind fun t392 => (if t392 = true then (laws_FnExactCommonOfWholes.j1 kj24 t359 (t375 != t359) a0_0 l0_1 a1_0 l1_1 t355 t356 t371 t372) else (laws_FnExactCommonOfWholes.j1 kj24 t359 true a0_0 l0_1 a1_0 l1_1 t355 t356 t371 t372)))))) else (some false)))) = some r := by rw [if_pos rfl] at H; exact H
       clear H; have H := H1; clear H1
       replace H := Option.bind_eq_some_iff.mp H
       obtain ⟨⟨t383, t384⟩, A1030, H⟩ := H
       replace H : ((laws_eqWhole.f kj24 t366 t367 t383 t384).bind fun t387 => (if t387 = true then ((laws_markWhole.f kj24 t361 t362 1).bind fun bt388 => ((laws_markWhole.f kj24 t366 t367 bt388.1).bind fun bt390 => (if bt390.1 < 0 then (laws_FnExactCommonOfWholes.j1 kj24 t359 true a0_0 l0_1 a1_0 l1_1 t355 t356 t371 t372) else ((laws_eqWhole.f kj24 t371 t372 t355 t356).bind fun t392 => (if t392 = true then (laws_FnExactCommonOfWholes.j1 kj24 t359 (t375 != t359) a0_0 l0_1 a1_0 l1_1 t355 t356 t371 t372) else (laws_FnExactCommonOfWholes.j1 kj24 t359 true a0_0 l0_1 a1_0 l1_1 t355 t356 t371 t372)))))) else (some false))) = some r := H
       have A103 := Aside0.mk A1030; clear A1030
       replace H := Option.bind_eq_some_iff.mp H
       obtain ⟨t387, A1040, H⟩ := H
       replace H : (if t387 = true then ((laws_markWhole.f kj24 t361 t362 1).bind fun bt388 => ((laws_markWhole.f kj24 t366 t367 bt388.1).bind fun bt390 => (if bt390.1 < 0 then (laws_FnExactCommonOfWholes.j1 kj24 t359 true a0_0 l0_1 a1_0 l1_1 t355 t356 t371 t372) else ((laws_eqWhole.f kj24 t371 t372 t355 t356).bind fun t392 => (if t392 = true then (laws_FnExactCommonOfWholes.j1 kj24 t359 (t375 != t359) a0_0 l0_1 a1_0 l1_1 t355 t356 t371 t372) else (laws_FnExactCommonOfWholes.j1 kj24 t359 true a0_0 l0_1 a1_0 l1_1 t355 t356 t371 t372)))))) else (some false)) = some r := H
       have A104 := Aside0.mk A1040; clear A1040
       by_cases c105 : t387 = true
       ·subst c105
        have H1 : ((laws_markWhole.f kj24 t361 t362 1).bind fun bt388 => ((laws_markWhole.f kj24 t366 t367 bt388.1).bind fun bt390 => (if bt390.1 < 0 then (laws_FnExactCommonOfWholes.j1 kj24 t359 true a0_0 l0_1 a1_0 l1_1 t355 t356 t371 t372) else ((laws_eqWhole.f kj24 t371 t372 t355 t356).bind fun t392 => (if t392 = true then (laws_FnExactCommonOfWholes.j1 kj24 t359 (t375 != t359) a0_0 l0_1 a1_0 l1_1 t355 t356 t371 t372) else (laws_FnExactCommonOfWholes.j1 kj24 t359 true a0_0 l0_1 a1_0 l1_1 t355 t356 t371 t372)))))) = some r := by rw [if_pos rfl] at H; exact H
        clear H; have H := H1; clear H1
        replace H := Option.bind_eq_some_iff.mp H
        obtain ⟨⟨t388, t389⟩, A1060, H⟩ := H
        replace H : ((laws_markWhole.f kj24 t366 t367 t388).bind fun bt390 => (if bt390.1 < 0 then (laws_FnExactCommonOfWholes.j1 kj24 t359 true a0_0 l0_1 a1_0 l1_1 t355 t356 t371 t372) else ((laws_eqWhole.f kj24 t371 t372 t355 t356).bind fun t392 => (if t392 = true then (laws_FnExactCommonOfWholes.j1 kj24 t359 (t375 != t359) a0_0 l0_1 a1_0 l1_1 t355 t356 t371 t372) else (laws_FnExactCommonOfWholes.j1 kj24 t359 true a0_0 l0_1 a1_0 l1_1 t355 t356 t371 t372))))) = some r := H
        have A106 := Aside0.mk A1060; clear A1060
        replace H := Option.bind_eq_some_iff.mp H
        obtain ⟨⟨t390, t391⟩, A1070, H⟩ := H
        replace H : (if t390 < 0 then (laws_FnExactCommonOfWholes.j1 kj24 t359 true a0_0 l0_1 a1_0 l1_1 t355 t356 t371 t372) else ((laws_eqWhole.f kj24 t371 t372 t355 t356).bind fun t392 => (if t392 = true then (laws_FnExactCommonOfWholes.j1 kj24 t359 (t375 != t359) a0_0 l0_1 a1_0 l1_1 t355 t356 t371 t372) else (laws_FnExactCommonOfWholes.j1 kj24 t359 true a0_0 l0_1 a1_0 l1_1 t355 t356 t371 t372)))) = some r := H
        have A107 := Aside0.mk A1070; clear A1070; have HC108 := Aside0.mk H; clear H
        try go_wp2
        replace HO_361001 := am_ (Kd.R_drew HO_361001.out); replace HO_366001 := am_ (Kd.R_drew HO_366001.out); replace HO_371001 := am_ (Kd.R_drew HO_371001.out); replace HO_377001 := am_ (Kd.R_drew HO_377001.out); replace BK343 := am_ (blk_drew BK343.out); replace BK344 := am_ (blk_drew BK344.out); replace BK360 := am_ (blk_drew BK360.out); replace BK365 := am_ (blk_drew BK365.out); replace BK370 := am_ (blk_drew BK370.out); replace BK376 := am_ (blk_drew BK376.out); replace HB := am_ (below_drew1 HB.out)
        refine start_ (n := 5) (S := fun w' => w'.cell? ⟨gb365, 0, none⟩ = some (.int .i64 t361) ∧ w'.cell? ⟨gb365, 1, none⟩ = some (.slice Ao52 t362.length co52) ∧ w'.cell? ⟨gb343, 0, none⟩ = some (.int .i64 a0_0) ∧ w'.cell? ⟨gb343, 1, none⟩ = some (.slice A0_1 l0_1.length c0_1)) (ds := []) #[false, false, false, false, false] (by kernel_rfl) rfl rfl ⟨bc_ BK365 0, bc_ BK365 1, bc_ BK343 0, bc_ BK343 1⟩ (fun hHeld => ?_)
        generalize wc.drew = w109 at HO_361001 HO_366001 HO_371001 HO_377001 BK343 BK344 BK360 BK365 BK370 BK376 HB hHeld ⊢
        refine take_ (i := 0) (N := some 54) (v := ?_) (a' := ?_) #[true, false, false, false, false] rfl rfl (by kernel_rfl) (fun _ _ _ h => h) (Or.inl ⟨by rfl, ?_⟩) hHeld ?_ ?_
        rotate_left
        ·rintro w' ⟨s0, s1, s2, s3⟩
         go_simp
         with_reducible rfl
        rotate_left
        ·exact nm_
        refine take_ (i := 1) (N := some 55) (v := ?_) (a' := ?_) #[true, true, false, false, false] rfl rfl (by kernel_rfl) (fun _ _ _ h => h) (Or.inl ⟨by rfl, ?_⟩) hHeld ?_ ?_
        rotate_left
        ·rintro w' ⟨s0, s1, s2, s3⟩
         go_simp
         with_reducible rfl
        rotate_left
        ·exact nm_
        refine one_ (i := 2) (N := some 56) #[true, true, true, false, false] rfl rfl (by kernel_rfl) (by decide) (fun K hK => ?_)
        refine goes_ Tryd.func13 (by kernel_rfl) rfl #[.agg #[.int .i64 a0_0, .slice A0_1 l0_1.length c0_1]] (by rfl) rfl rfl ma_ ?_
        with_reducible refine (laws_toWhole.calls kj24 a0_0 _ _ l0_1 t378 t379 _ ?side1 ?side2 A100.out).mono ?_
        (case side1 => exact cb_ HR0_1 HB)
        (case side2 => exact HC0_1.out)
        rintro e w110 ⟨v380, rfl, ho0, hb⟩
        refine ⟨_, rfl, ?_⟩
        have HO381 := am_ (Kd.R_lower (Kd.R_new' (Kd.R_new' (Kd.R_new' (Kd.R_new' ho0 (Kd.R_lt (kr_ HO_361001))) (Kd.R_lt (kr_ HO_366001))) (Kd.R_lt (kr_ HO_371001))) (Kd.R_lt (kr_ HO_377001))) (below_size (bl_ HB))); replace HO_361001 := am_ (Kd.R_elder' (kr_ HO_361001) (Kd.R_base ho0) hb); replace HO_366001 := am_ (Kd.R_elder' (kr_ HO_366001) (Kd.R_base ho0) hb); replace HO_371001 := am_ (Kd.R_elder' (kr_ HO_371001) (Kd.R_base ho0) hb); replace HO_377001 := am_ (Kd.R_elder' (kr_ HO_377001) (Kd.R_base ho0) hb); replace BK343 := am_ (blk_below (bk_ BK343) hb); replace BK344 := am_ (blk_below (bk_ BK344) hb); replace BK360 := am_ (blk_below (bk_ BK360) hb); replace BK365 := am_ (blk_below (bk_ BK365) hb); replace BK370 := am_ (blk_below (bk_ BK370) hb); replace BK376 := am_ (blk_below (bk_ BK376) hb); replace HB := am_ (below_step (bl_ HB) hb); (try clear hb); (try clear hb2); (try clear hk); (try clear hi); (try clear ho0)
        obtain ⟨Ao111, co111, eo111⟩ := Kd.R_slice HO381.out
        (first | subst eo111 | (injection eo111 with f1_ f2_ f3_; have f4_ := f1_.symm; have f5_ := f3_.symm; clear f1_ f2_ f3_; subst f4_; subst f5_))
        refine hK.out _ _ ⟨bc_ BK365 0, bc_ BK365 1, bc_ BK343 0, bc_ BK343 1⟩ (fun hHeld => ?_)
        clear hK K
        refine norm_ (a' := ?_) ?_ ?_
        rotate_left
        ·show Act.put _ (some 56) _ = _
         exact nm_
        refine one_ (i := 3) (N := some 57) #[true, true, true, true, false] rfl rfl (by kernel_rfl) (by decide) (fun K hK => ?_)
        refine goes_ Tryd.func15 (by kernel_rfl) rfl #[.agg #[.int .i64 t361, .slice Ao52 t362.length co52], .agg #[.int .i64 t378, .slice Ao111 t379.length co111]] (by rfl) rfl rfl ma_ ?_
        with_reducible refine (laws_eqWhole.calls kj24 t361 _ _ t362 t378 _ _ t379 true _ ?side1 ?side2 ?side3 ?side4 A101.out).mono ?_
        (case side1 => exact cr_ HO_366001)
        (case side2 => exact (Kd.R_reads' HO_366001.out).2.1)
        (case side3 => exact cr_ HO381)
        (case side4 => exact (Kd.R_reads' HO381.out).2.1)
        rintro e w112 ⟨rfl, hb⟩
        refine ⟨_, rfl, ?_⟩
        replace HO_361001 := am_ (Kd.R_below (kr_ HO_361001) hb); replace HO_366001 := am_ (Kd.R_below (kr_ HO_366001) hb); replace HO_371001 := am_ (Kd.R_below (kr_ HO_371001) hb); replace HO_377001 := am_ (Kd.R_below (kr_ HO_377001) hb); replace HO381 := am_ (Kd.R_below (kr_ HO381) hb); replace BK343 := am_ (blk_below (bk_ BK343) hb); replace BK344 := am_ (blk_below (bk_ BK344) hb); replace BK360 := am_ (blk_below (bk_ BK360) hb); replace BK365 := am_ (blk_below (bk_ BK365) hb); replace BK370 := am_ (blk_below (bk_ BK370) hb); replace BK376 := am_ (blk_below (bk_ BK376) hb); replace HB := am_ (below_step (bl_ HB) hb); (try clear hb); (try clear hb2); (try clear hk); (try clear hi)
        refine hK.out _ _ ⟨bc_ BK365 0, bc_ BK365 1, bc_ BK343 0, bc_ BK343 1⟩ (fun hHeld => ?_)
        clear hK K
        refine norm_ (a' := ?_) ?_ ?_
        rotate_left
        ·show Act.put _ (some 57) _ = _
         exact nm_
        refine pure_ (i := 4) (N := some 58) (v := ?_) (a' := ?_) #[true, true, true, true, true] rfl rfl (by kernel_rfl) (fun _ _ _ h => h) (Or.inl ⟨by rfl, ?_⟩) ?_ ?_
        rotate_left
        ·intro w'
         go_simp
         with_reducible rfl
        rotate_left
        ·exact nm_
        refine done_ (by kernel_rfl) ?_
        try go_wp2
        replace HO_361001 := am_ (Kd.R_drew HO_361001.out); replace HO_366001 := am_ (Kd.R_drew HO_366001.out); replace HO_371001 := am_ (Kd.R_drew HO_371001.out); replace HO_377001 := am_ (Kd.R_drew HO_377001.out); replace HO381 := am_ (Kd.R_drew HO381.out); replace BK343 := am_ (blk_drew BK343.out); replace BK344 := am_ (blk_drew BK344.out); replace BK360 := am_ (blk_drew BK360.out); replace BK365 := am_ (blk_drew BK365.out); replace BK370 := am_ (blk_drew BK370.out); replace BK376 := am_ (blk_drew BK376.out); replace HB := am_ (below_drew1 HB.out)
        refine start_ (n := 5) (S := fun w' => w'.cell? ⟨gb370, 0, none⟩ = some (.int .i64 t366) ∧ w'.cell? ⟨gb370, 1, none⟩ = some (.slice Ao62 t367.length co62) ∧ w'.cell? ⟨gb344, 0, none⟩ = some (.int .i64 a1_0) ∧ w'.cell? ⟨gb344, 1, none⟩ = some (.slice A1_1 l1_1.length c1_1)) (ds := []) #[false, false, false, false, false] (by kernel_rfl) rfl rfl ⟨bc_ BK370 0, bc_ BK370 1, bc_ BK344 0, bc_ BK344 1⟩ (fun hHeld => ?_)
        generalize w112.drew = w113 at HO_361001 HO_366001 HO_371001 HO_377001 HO381 BK343 BK344 BK360 BK365 BK370 BK376 HB hHeld ⊢
        refine take_ (i := 0) (N := some 59) (v := ?_) (a' := ?_) #[true, false, false, false, false] rfl rfl (by kernel_rfl) (fun _ _ _ h => h) (Or.inl ⟨by rfl, ?_⟩) hHeld ?_ ?_
        rotate_left
        ·rintro w' ⟨s0, s1, s2, s3⟩
         go_simp
         with_reducible rfl
        rotate_left
        ·exact nm_
        refine take_ (i := 1) (N := some 60) (v := ?_) (a' := ?_) #[true, true, false, false, false] rfl rfl (by kernel_rfl) (fun _ _ _ h => h) (Or.inl ⟨by rfl, ?_⟩) hHeld ?_ ?_
        rotate_left
        ·rintro w' ⟨s0, s1, s2, s3⟩
         go_simp
         with_reducible rfl
        rotate_left
        ·exact nm_
        refine one_ (i := 2) (N := some 61) #[true, true, true, false, false] rfl rfl (by kernel_rfl) (by decide) (fun K hK => ?_)
        refine goes_ Tryd.func13 (by kernel_rfl) rfl #[.agg #[.int .i64 a1_0, .slice A1_1 l1_1.length c1_1]] (by rfl) rfl rfl ma_ ?_
        with_reducible refine (laws_toWhole.calls kj24 a1_0 _ _ l1_1 t383 t384 _ ?side1 ?side2 A103.out).mono ?_
        (case side1 => exact cb_ HR1_1 HB)
        (case side2 => exact HC1_1.out)
        rintro e w114 ⟨v385, rfl, ho0, hb⟩
        refine ⟨_, rfl, ?_⟩
        have HO386 := am_ (Kd.R_lower (Kd.R_new' (Kd.R_new' (Kd.R_new' (Kd.R_new' (Kd.R_new' ho0 (Kd.R_lt (kr_ HO_361001))) (Kd.R_lt (kr_ HO_366001))) (Kd.R_lt (kr_ HO_371001))) (Kd.R_lt (kr_ HO_377001))) (Kd.R_lt (kr_ HO381))) (below_size (bl_ HB))); replace HO_361001 := am_ (Kd.R_elder' (kr_ HO_361001) (Kd.R_base ho0) hb); replace HO_366001 := am_ (Kd.R_elder' (kr_ HO_366001) (Kd.R_base ho0) hb); replace HO_371001 := am_ (Kd.R_elder' (kr_ HO_371001) (Kd.R_base ho0) hb); replace HO_377001 := am_ (Kd.R_elder' (kr_ HO_377001) (Kd.R_base ho0) hb); replace HO381 := am_ (Kd.R_elder' (kr_ HO381) (Kd.R_base ho0) hb); replace BK343 := am_ (blk_below (bk_ BK343) hb); replace BK344 := am_ (blk_below (bk_ BK344) hb); replace BK360 := am_ (blk_below (bk_ BK360) hb); replace BK365 := am_ (blk_below (bk_ BK365) hb); replace BK370 := am_ (blk_below (bk_ BK370) hb); replace BK376 := am_ (blk_below (bk_ BK376) hb); replace HB := am_ (below_step (bl_ HB) hb); (try clear hb); (try clear hb2); (try clear hk); (try clear hi); (try clear ho0)
        obtain ⟨Ao115, co115, eo115⟩ := Kd.R_slice HO386.out
        (first | subst eo115 | (injection eo115 with f1_ f2_ f3_; have f4_ := f1_.symm; have f5_ := f3_.symm; clear f1_ f2_ f3_; subst f4_; subst f5_))
        refine hK.out _ _ ⟨bc_ BK370 0, bc_ BK370 1, bc_ BK344 0, bc_ BK344 1⟩ (fun hHeld => ?_)
        clear hK K
        refine norm_ (a' := ?_) ?_ ?_
        rotate_left
        ·show Act.put _ (some 61) _ = _
         exact nm_
        refine one_ (i := 3) (N := some 62) #[true, true, true, true, false] rfl rfl (by kernel_rfl) (by decide) (fun K hK => ?_)
        refine goes_ Tryd.func15 (by kernel_rfl) rfl #[.agg #[.int .i64 t366, .slice Ao62 t367.length co62], .agg #[.int .i64 t383, .slice Ao115 t384.length co115]] (by rfl) rfl rfl ma_ ?_
        with_reducible refine (laws_eqWhole.calls kj24 t366 _ _ t367 t383 _ _ t384 true _ ?side1 ?side2 ?side3 ?side4 A104.out).mono ?_
        (case side1 => exact cr_ HO_371001)
        (case side2 => exact (Kd.R_reads' HO_371001.out).2.1)
        (case side3 => exact cr_ HO386)
        (case side4 => exact (Kd.R_reads' HO386.out).2.1)
        rintro e w116 ⟨rfl, hb⟩
        refine ⟨_, rfl, ?_⟩
        replace HO_361001 := am_ (Kd.R_below (kr_ HO_361001) hb); replace HO_366001 := am_ (Kd.R_below (kr_ HO_366001) hb); replace HO_371001 := am_ (Kd.R_below (kr_ HO_371001) hb); replace HO_377001 := am_ (Kd.R_below (kr_ HO_377001) hb); replace HO381 := am_ (Kd.R_below (kr_ HO381) hb); replace HO386 := am_ (Kd.R_below (kr_ HO386) hb); replace BK343 := am_ (blk_below (bk_ BK343) hb); replace BK344 := am_ (blk_below (bk_ BK344) hb); replace BK360 := am_ (blk_below (bk_ BK360) hb); replace BK365 := am_ (blk_below (bk_ BK365) hb); replace BK370 := am_ (blk_below (bk_ BK370) hb); replace BK376 := am_ (blk_below (bk_ BK376) hb); replace HB := am_ (below_step (bl_ HB) hb); (try clear hb); (try clear hb2); (try clear hk); (try clear hi)
        refine hK.out _ _ ⟨bc_ BK370 0, bc_ BK370 1, bc_ BK344 0, bc_ BK344 1⟩ (fun hHeld => ?_)
        clear hK K
        refine norm_ (a' := ?_) ?_ ?_
        rotate_left
        ·show Act.put _ (some 62) _ = _
         exact nm_
        refine pure_ (i := 4) (N := some 63) (v := ?_) (a' := ?_) #[true, true, true, true, true] rfl rfl (by kernel_rfl) (fun _ _ _ h => h) (Or.inl ⟨by rfl, ?_⟩) ?_ ?_
        rotate_left
        ·intro w'
         go_simp
         with_reducible rfl
        rotate_left
        ·exact nm_
        refine done_ (by kernel_rfl) ?_
        have hnb117 := NB365_343.out; have hnc117 := NB343_365.out; have hnb118 := NB365_344.out; have hnc118 := NB344_365.out; have hnb119 := NB365_360.out; have hnc119 := NB360_365.out; have hnb120 := NB365_370.out; have hnc120 := NB370_365.out; have hnb121 := NB365_376.out; have hnc121 := NB376_365.out
        have hcz122_0 : w116.cell? ⟨gb365, 0, none⟩ = some (.int .i64 t361) := bc_ BK365 0
        have hcz122_1 : w116.cell? ⟨gb365, 1, none⟩ = some (.slice Ao52 t362.length co52) := bc_ BK365 1
        have hfz122_0 := blk_frozen BK365.out 0; have hfz122_1 := blk_frozen BK365.out 1
        go_upto_region 21 with (first | ((with_reducible refine gate_callee (f := 16) rfl ?_); refine goesL_ (some 66) rfl rfl Tryd.func16 (by kernel_rfl) rfl #[.agg #[.int .i64 t361, .slice Ao52 t362.length co52], .int .i64 1] rfl ma_ ?_; (with_reducible refine (laws_markWhole.calls kj24 t361 (fun k_ => some k_ = (.slice Ao52 t362.length co52 : Value).ownBlock) (.slice Ao52 t362.length co52) t362 1 t388 t389 w _ ?side1 ?side2 A106.out).mono ?_); (case side1 => exact bl_ HB); (case side2 => exact Kd.R_tight rfl HO_366001.out); rintro e w123 ⟨rfl, hy0, hb, hkp⟩; refine ⟨_, rfl, ?_⟩; have n0_ := am_ (Kd.R_mono (ok' := fun k_ => some k_ ≠ (.slice Ao52 t362.length co52 : Value).ownBlock ∧ some k_ ≠ (.slice Ao62 t367.length co62 : Value).ownBlock ∧ some k_ ≠ (.slice Ao72 t372.length co72 : Value).ownBlock ∧ some k_ ≠ (.slice Ao111 t379.length co111 : Value).ownBlock ∧ some k_ ≠ (.slice Ao115 t384.length co115 : Value).ownBlock) (Kd.R_keptB (HO_361001.out) hkp (fun k_ hk_ hs_ => (hk_.1.1.1) hs_)) (fun k_ hk_ => ⟨hk_.1.1.1.1, hk_.1.1.1.2.1, hk_.1.1.1.2.2, hk_.1.1.2, hk_.1.2⟩)); have n1_ := am_ (Kd.R_reok rfl hy0 (fun k_ e_ => HO_366001.out.1 k_ e_)); have n2_ := am_ (Kd.R_mono (ok' := fun k_ => some k_ ≠ (.slice Ao42 t356.length co42 : Value).ownBlock ∧ some k_ ≠ (.slice Ao52 t362.length co52 : Value).ownBlock ∧ some k_ ≠ (.slice Ao72 t372.length co72 : Value).ownBlock ∧ some k_ ≠ (.slice Ao111 t379.length co111 : Value).ownBlock ∧ some k_ ≠ (.slice Ao115 t384.length co115 : Value).ownBlock) (Kd.R_keptB (HO_371001.out) hkp (fun k_ hk_ hs_ => (hk_.1.1.2.1) hs_)) (fun k_ hk_ => ⟨hk_.1.1.1.1, hk_.1.1.1.2.1, hk_.1.1.1.2.2, hk_.1.1.2, hk_.1.2⟩)); have n3_ := am_ (Kd.R_mono (ok' := fun k_ => some k_ ≠ (.slice Ao42 t356.length co42 : Value).ownBlock ∧ some k_ ≠ (.slice Ao52 t362.length co52 : Value).ownBlock ∧ some k_ ≠ (.slice Ao62 t367.length co62 : Value).ownBlock ∧ some k_ ≠ (.slice Ao111 t379.length co111 : Value).ownBlock ∧ some k_ ≠ (.slice Ao115 t384.length co115 : Value).ownBlock) (Kd.R_keptB (HO_377001.out) hkp (fun k_ hk_ hs_ => (hk_.1.1.2.1) hs_)) (fun k_ hk_ => ⟨hk_.1.1.1.1, hk_.1.1.1.2.1, hk_.1.1.1.2.2, hk_.1.1.2, hk_.1.2⟩)); have n4_ := am_ (blk_kept (bk_ BK343) hkp (fun hs_ => (fun e_ => (Kd.R_ne HO_366001.out BK343.out (by decide)) e_) hs_)); have n5_ := am_ (blk_kept (bk_ BK344) hkp (fun hs_ => (fun e_ => (Kd.R_ne HO_366001.out BK344.out (by decide)) e_) hs_)); have n6_ := am_ (blk_kept (bk_ BK360) hkp (fun hs_ => (fun e_ => (Kd.R_ne HO_366001.out BK360.out (by decide)) e_) hs_)); have n7_ := am_ (blk_kept (bk_ BK365) hkp (fun hs_ => (fun e_ => (Kd.R_ne HO_366001.out BK365.out (by decide)) e_) hs_)); have n8_ := am_ (blk_kept (bk_ BK370) hkp (fun hs_ => (fun e_ => (Kd.R_ne HO_366001.out BK370.out (by decide)) e_) hs_)); have n9_ := am_ (blk_kept (bk_ BK376) hkp (fun hs_ => (fun e_ => (Kd.R_ne HO_366001.out BK376.out (by decide)) e_) hs_)); have n10_ := am_ (Kd.R_mono (ok' := fun k_ => some k_ ≠ (.slice Ao42 t356.length co42 : Value).ownBlock ∧ some k_ ≠ (.slice Ao52 t362.length co52 : Value).ownBlock ∧ some k_ ≠ (.slice Ao62 t367.length co62 : Value).ownBlock ∧ some k_ ≠ (.slice Ao72 t372.length co72 : Value).ownBlock ∧ some k_ ≠ (.slice Ao115 t384.length co115 : Value).ownBlock) (Kd.R_keptB (HO381.out) hkp (fun k_ hk_ hs_ => (hk_.1.1.1.2) hs_)) (fun k_ hk_ => ⟨hk_.1.1.1.1.1.2, hk_.1.1.1.1.2, hk_.1.1.1.2, hk_.1.1.2, hk_.1.2⟩)); have n11_ := am_ (Kd.R_mono (ok' := fun k_ => some k_ ≠ (.slice Ao42 t356.length co42 : Value).ownBlock ∧ some k_ ≠ (.slice Ao52 t362.length co52 : Value).ownBlock ∧ some k_ ≠ (.slice Ao62 t367.length co62 : Value).ownBlock ∧ some k_ ≠ (.slice Ao72 t372.length co72 : Value).ownBlock ∧ some k_ ≠ (.slice Ao111 t379.length co111 : Value).ownBlock) (Kd.R_keptB (HO386.out) hkp (fun k_ hk_ hs_ => (hk_.1.1.1.2) hs_)) (fun k_ hk_ => ⟨hk_.1.1.1.1.1.2, hk_.1.1.1.1.2, hk_.1.1.1.2, hk_.1.1.2, hk_.1.2⟩)); have n12_ := am_ (hb); clear HO_361001; clear HO_366001; clear HO_371001; clear HO_377001; clear BK343; clear BK344; clear BK360; clear BK365; clear BK370; clear BK376; clear HO381; clear HO386; clear HB; have HO_361001 := n0_; have HO_366001 := n1_; have HO_371001 := n2_; have HO_377001 := n3_; have BK343 := n4_; have BK344 := n5_; have BK360 := n6_; have BK365 := n7_; have BK370 := n8_; have BK376 := n9_; have HO381 := n10_; have HO386 := n11_; have HB := n12_; clear n0_ n1_ n2_ n3_ n4_ n5_ n6_ n7_ n8_ n9_ n10_ n11_ n12_; (try clear hb); (try clear hkp); (try clear hy0); have hnb124 := NB370_343.out; have hnc124 := NB343_370.out; have hnb125 := NB370_344.out; have hnc125 := NB344_370.out; have hnb126 := NB370_360.out; have hnc126 := NB360_370.out; have hnb127 := NB370_376.out; have hnc127 := NB376_370.out; have hcz128_0 : w123.cell? ⟨gb370, 0, none⟩ = some (.int .i64 t366) := bc_ BK370 0; have hcz128_1 : w123.cell? ⟨gb370, 1, none⟩ = some (.slice Ao62 t367.length co62) := bc_ BK370 1; have hfz128_0 := blk_frozen BK370.out 0; have hfz128_1 := blk_frozen BK370.out 1) | ((with_reducible refine gate_callee (f := 16) rfl ?_); refine goesL_ (some 69) rfl rfl Tryd.func16 (by kernel_rfl) rfl #[.agg #[.int .i64 t366, .slice Ao62 t367.length co62], .int .i64 t388] rfl ma_ ?_; (with_reducible refine (laws_markWhole.calls kj24 t366 (fun k_ => some k_ = (.slice Ao62 t367.length co62 : Value).ownBlock) (.slice Ao62 t367.length co62) t367 t388 t390 t391 w _ ?side1 ?side2 A107.out).mono ?_); (case side1 => exact bl_ HB); (case side2 => exact Kd.R_tight rfl HO_371001.out); rintro e w129 ⟨rfl, hy0, hb, hkp⟩; refine ⟨_, rfl, ?_⟩; have n0_ := am_ (Kd.R_mono (ok' := fun k_ => some k_ ≠ (.slice Ao52 t362.length co52 : Value).ownBlock ∧ some k_ ≠ (.slice Ao62 t367.length co62 : Value).ownBlock ∧ some k_ ≠ (.slice Ao72 t372.length co72 : Value).ownBlock ∧ some k_ ≠ (.slice Ao111 t379.length co111 : Value).ownBlock ∧ some k_ ≠ (.slice Ao115 t384.length co115 : Value).ownBlock) (Kd.R_keptB (HO_361001.out) hkp (fun k_ hk_ hs_ => (hk_.2.1) hs_)) (fun k_ hk_ => ⟨hk_.1.1, hk_.1.2.1, hk_.1.2.2.1, hk_.1.2.2.2.1, hk_.1.2.2.2.2⟩)); have n1_ := am_ (Kd.R_mono (ok' := fun k_ => some k_ ≠ (.slice Ao42 t356.length co42 : Value).ownBlock ∧ some k_ ≠ (.slice Ao62 t367.length co62 : Value).ownBlock ∧ some k_ ≠ (.slice Ao72 t372.length co72 : Value).ownBlock ∧ some k_ ≠ (.slice Ao111 t379.length co111 : Value).ownBlock ∧ some k_ ≠ (.slice Ao115 t384.length co115 : Value).ownBlock) (Kd.R_keptB (HO_366001.out) hkp (fun k_ hk_ hs_ => (hk_.1.1.2.1) hs_)) (fun k_ hk_ => ⟨hk_.1.1.1.1, hk_.1.1.1.2.1, hk_.1.1.1.2.2, hk_.1.1.2, hk_.1.2⟩)); have n2_ := am_ (Kd.R_reok rfl hy0 (fun k_ e_ => HO_371001.out.1 k_ e_)); have n3_ := am_ (Kd.R_mono (ok' := fun k_ => some k_ ≠ (.slice Ao42 t356.length co42 : Value).ownBlock ∧ some k_ ≠ (.slice Ao52 t362.length co52 : Value).ownBlock ∧ some k_ ≠ (.slice Ao62 t367.length co62 : Value).ownBlock ∧ some k_ ≠ (.slice Ao111 t379.length co111 : Value).ownBlock ∧ some k_ ≠ (.slice Ao115 t384.length co115 : Value).ownBlock) (Kd.R_keptB (HO_377001.out) hkp (fun k_ hk_ hs_ => (hk_.2.2.1) hs_)) (fun k_ hk_ => ⟨hk_.1.1, hk_.1.2.1, hk_.1.2.2.1, hk_.1.2.2.2.1, hk_.1.2.2.2.2⟩)); have n4_ := am_ (blk_kept (bk_ BK343) hkp (fun hs_ => (fun e_ => (Kd.R_ne HO_371001.out BK343.out (by decide)) e_) hs_)); have n5_ := am_ (blk_kept (bk_ BK344) hkp (fun hs_ => (fun e_ => (Kd.R_ne HO_371001.out BK344.out (by decide)) e_) hs_)); have n6_ := am_ (blk_kept (bk_ BK360) hkp (fun hs_ => (fun e_ => (Kd.R_ne HO_371001.out BK360.out (by decide)) e_) hs_)); have n7_ := am_ (blk_kept (bk_ BK365) hkp (fun hs_ => (fun e_ => (Kd.R_ne HO_371001.out BK365.out (by decide)) e_) hs_)); have n8_ := am_ (blk_kept (bk_ BK370) hkp (fun hs_ => (fun e_ => (Kd.R_ne HO_371001.out BK370.out (by decide)) e_) hs_)); have n9_ := am_ (blk_kept (bk_ BK376) hkp (fun hs_ => (fun e_ => (Kd.R_ne HO_371001.out BK376.out (by decide)) e_) hs_)); have n10_ := am_ (Kd.R_mono (ok' := fun k_ => some k_ ≠ (.slice Ao42 t356.length co42 : Value).ownBlock ∧ some k_ ≠ (.slice Ao52 t362.length co52 : Value).ownBlock ∧ some k_ ≠ (.slice Ao62 t367.length co62 : Value).ownBlock ∧ some k_ ≠ (.slice Ao72 t372.length co72 : Value).ownBlock ∧ some k_ ≠ (.slice Ao115 t384.length co115 : Value).ownBlock) (Kd.R_keptB (HO381.out) hkp (fun k_ hk_ hs_ => (hk_.2.2.1) hs_)) (fun k_ hk_ => ⟨hk_.1.1, hk_.1.2.1, hk_.1.2.2.1, hk_.1.2.2.2.1, hk_.1.2.2.2.2⟩)); have n11_ := am_ (Kd.R_mono (ok' := fun k_ => some k_ ≠ (.slice Ao42 t356.length co42 : Value).ownBlock ∧ some k_ ≠ (.slice Ao52 t362.length co52 : Value).ownBlock ∧ some k_ ≠ (.slice Ao62 t367.length co62 : Value).ownBlock ∧ some k_ ≠ (.slice Ao72 t372.length co72 : Value).ownBlock ∧ some k_ ≠ (.slice Ao111 t379.length co111 : Value).ownBlock) (Kd.R_keptB (HO386.out) hkp (fun k_ hk_ hs_ => (hk_.2.2.1) hs_)) (fun k_ hk_ => ⟨hk_.1.1, hk_.1.2.1, hk_.1.2.2.1, hk_.1.2.2.2.1, hk_.1.2.2.2.2⟩)); have n12_ := am_ (hb); clear HO_361001; clear HO_366001; clear HO_371001; clear HO_377001; clear BK343; clear BK344; clear BK360; clear BK365; clear BK370; clear BK376; clear HO381; clear HO386; clear HB; have HO_361001 := n0_; have HO_366001 := n1_; have HO_371001 := n2_; have HO_377001 := n3_; have BK343 := n4_; have BK344 := n5_; have BK360 := n6_; have BK365 := n7_; have BK370 := n8_; have BK376 := n9_; have HO381 := n10_; have HO386 := n11_; have HB := n12_; clear n0_ n1_ n2_ n3_ n4_ n5_ n6_ n7_ n8_ n9_ n10_ n11_ n12_; (try clear hb); (try clear hkp); (try clear hy0)))
        (try simp only [Act.put, List.setIfInBounds_toArray, List.set_cons_zero, List.set_cons_succ])
        go_cut [82] (fun v82 wc => ∃ (kq : Nat) (x82_107 : Bool), v82 = .bool x82_107 ∧ Aside0 (laws_FnExactCommonOfWholes.j1 kq t359 x82_107 a0_0 l0_1 a1_0 l1_1 t355 t356 t371 t372 = some r) ∧ Aside0 (kq ≤ kj24) ∧ Aside0 (Kd.R (Kd.int .i64) 2 wc w.heap.size (fun k_ => some k_ ≠ ((.slice Ao52 t362.length co52) : Value).ownBlock ∧ some k_ ≠ ((.slice Ao62 t367.length co62) : Value).ownBlock ∧ some k_ ≠ ((.slice Ao72 t372.length co72) : Value).ownBlock) (.slice Ao42 t356.length co42) t356) ∧ Aside0 (Kd.R (Kd.int .i64) 2 wc w.heap.size (fun k_ => some k_ ≠ ((.slice Ao42 t356.length co42) : Value).ownBlock ∧ some k_ ≠ ((.slice Ao62 t367.length co62) : Value).ownBlock ∧ some k_ ≠ ((.slice Ao72 t372.length co72) : Value).ownBlock) (.slice Ao52 t362.length co52) t389) ∧ Aside0 (Kd.R (Kd.int .i64) 2 wc w.heap.size (fun k_ => some k_ ≠ ((.slice Ao42 t356.length co42) : Value).ownBlock ∧ some k_ ≠ ((.slice Ao52 t362.length co52) : Value).ownBlock ∧ some k_ ≠ ((.slice Ao72 t372.length co72) : Value).ownBlock) (.slice Ao62 t367.length co62) t391) ∧ Aside0 (Kd.R (Kd.int .i64) 2 wc w.heap.size (fun k_ => some k_ ≠ ((.slice Ao42 t356.length co42) : Value).ownBlock ∧ some k_ ≠ ((.slice Ao52 t362.length co52) : Value).ownBlock ∧ some k_ ≠ ((.slice Ao62 t367.length co62) : Value).ownBlock) (.slice Ao72 t372.length co72) t372) ∧ Aside0 (wc.heap[gb343]? = some (.cells #[.int .i64 a0_0, (.slice A0_1 l0_1.length c0_1)] 24 (0, 0))) ∧ Aside0 (wc.heap[gb344]? = some (.cells #[.int .i64 a1_0, (.slice A1_1 l1_1.length c1_1)] 24 (0, 0))) ∧ Aside0 (wc.heap[gb360]? = some (.cells #[.int .i64 t355, (.slice Ao42 t356.length co42)] 26 (0, 0))) ∧ Aside0 (wc.heap[gb365]? = some (.cells #[.int .i64 t361, (.slice Ao52 t362.length co52)] 26 (0, 0))) ∧ Aside0 (wc.heap[gb370]? = some (.cells #[.int .i64 t366, (.slice Ao62 t367.length co62)] 26 (0, 0))) ∧ Aside0 (wc.heap[gb376]? = some (.cells #[.int .i64 t371, (.slice Ao72 t372.length co72)] 26 (0, 0))) ∧ Aside0 (Below w.heap.size w wc))
        case first =>
         have H := HC108.out; clear HC108
         by_cases c130 : t390 < 0
         ·rw [if_pos c130] at H
          have c130b0 : decide (t390 < 0) = true := decide_eq_true c130
          clear c130
          (first | rw [c130b0] | (simp only [i64_w, i32_w]; rw [c130b0]) | skip)
          have H' := Aside0.mk H
          clear H
          go_wp2
          go_meet
          case rel => exact ⟨_, (true), (by first | rfl | (simp; done) | (simp [*]; done)), H', ⟨by have := HJ24.out; first | omega | exact Nat.le_refl _⟩, ⟨km_ HO_361001 (fun _ hk => ⟨hk.1, ⟨hk.2.1, hk.2.2.1⟩⟩)⟩, ⟨km_ HO_366001 (fun _ hk => ⟨hk.1, ⟨hk.2.1, hk.2.2.1⟩⟩)⟩, ⟨km_ HO_371001 (fun _ hk => ⟨hk.1, ⟨hk.2.1, hk.2.2.1⟩⟩)⟩, ⟨km_ HO_377001 (fun _ hk => ⟨hk.1, ⟨hk.2.1, hk.2.2.1⟩⟩)⟩, ⟨bk_ BK343⟩, ⟨bk_ BK344⟩, ⟨bk_ BK360⟩, ⟨bk_ BK365⟩, ⟨bk_ BK370⟩, ⟨bk_ BK376⟩, ⟨bl_ HB⟩⟩
         ·rw [if_neg c130] at H
          have c130b0 : decide (t390 < 0) = false := decide_eq_false c130
          clear c130
          (first | rw [c130b0] | (simp only [i64_w, i32_w]; rw [c130b0]) | skip)
          replace H := Option.bind_eq_some_iff.mp H
          obtain ⟨t392, A1310, H⟩ := H
          replace H : (if t392 = true then (laws_FnExactCommonOfWholes.j1 kj24 t359 (t375 != t359) a0_0 l0_1 a1_0 l1_1 t355 t356 t371 t372) else (laws_FnExactCommonOfWholes.j1 kj24 t359 true a0_0 l0_1 a1_0 l1_1 t355 t356 t371 t372)) = some r := H
          have A131 := Aside0.mk A1310; clear A1310
          by_cases c132 : t392 = true
          ·subst c132
           have H1 : (laws_FnExactCommonOfWholes.j1 kj24 t359 (t375 != t359) a0_0 l0_1 a1_0 l1_1 t355 t356 t371 t372) = some r := by rw [if_pos rfl] at H; exact H
           clear H; have H := H1; clear H1
           have H' := Aside0.mk H
           clear H; have hnb133 := NB376_343.out; have hnc133 := NB343_376.out; have hnb134 := NB376_344.out; have hnc134 := NB344_376.out; have hnb135 := NB376_360.out; have hnc135 := NB360_376.out; have hnb136 := NB376_365.out; have hnc136 := NB365_376.out; have hnb137 := NB376_370.out; have hnc137 := NB370_376.out
           have hcz138_0 : w129.cell? ⟨gb376, 0, none⟩ = some (.int .i64 t371) := bc_ BK376 0
           have hcz138_1 : w129.cell? ⟨gb376, 1, none⟩ = some (.slice Ao72 t372.length co72) := bc_ BK376 1
           have hfz138_0 := blk_frozen BK376.out 0; have hfz138_1 := blk_frozen BK376.out 1; have hnb139 := NB360_343.out; have hnc139 := NB343_360.out; have hnb140 := NB360_344.out; have hnc140 := NB344_360.out; have hnb141 := NB360_365.out; have hnc141 := NB365_360.out; have hnb142 := NB360_370.out; have hnc142 := NB370_360.out
           have hcz143_0 : w129.cell? ⟨gb360, 0, none⟩ = some (.int .i64 t355) := bc_ BK360 0
           have hcz143_1 : w129.cell? ⟨gb360, 1, none⟩ = some (.slice Ao42 t356.length co42) := bc_ BK360 1
           have hfz143_0 := blk_frozen BK360.out 0; have hfz143_1 := blk_frozen BK360.out 1
           go_wp2_with (first | (go_at_call 15; (with_reducible refine (laws_eqWhole.calls kj24 t371 _ _ t372 t355 _ _ t356 true _ ?side1 ?side2 ?side3 ?side4 A131.out).mono ?_); (case side1 => exact cr_ HO_377001); (case side2 => exact (Kd.R_reads' HO_377001.out).2.1); (case side3 => exact cr_ HO_361001); (case side4 => exact (Kd.R_reads' HO_361001.out).2.1); rintro e w144 ⟨rfl, hb⟩; replace HO_361001 := am_ (Kd.R_below (kr_ HO_361001) hb); replace HO_366001 := am_ (Kd.R_below (kr_ HO_366001) hb); replace HO_371001 := am_ (Kd.R_below (kr_ HO_371001) hb); replace HO_377001 := am_ (Kd.R_below (kr_ HO_377001) hb); replace HO381 := am_ (Kd.R_below (kr_ HO381) hb); replace HO386 := am_ (Kd.R_below (kr_ HO386) hb); replace BK343 := am_ (blk_below (bk_ BK343) hb); replace BK344 := am_ (blk_below (bk_ BK344) hb); replace BK360 := am_ (blk_below (bk_ BK360) hb); replace BK365 := am_ (blk_below (bk_ BK365) hb); replace BK370 := am_ (blk_below (bk_ BK370) hb); replace BK376 := am_ (blk_below (bk_ BK376) hb); replace HB := am_ (below_step (bl_ HB) hb); (try clear hb); (try clear hb2); (try clear hk); (try clear hi)))
           go_meet
           case rel => exact ⟨_, ((t375 != t359)), (by first | rfl | (simp; done) | (simp [*]; done)), H', ⟨by have := HJ24.out; first | omega | exact Nat.le_refl _⟩, ⟨km_ HO_361001 (fun _ hk => ⟨hk.1, ⟨hk.2.1, hk.2.2.1⟩⟩)⟩, ⟨km_ HO_366001 (fun _ hk => ⟨hk.1, ⟨hk.2.1, hk.2.2.1⟩⟩)⟩, ⟨km_ HO_371001 (fun _ hk => ⟨hk.1, ⟨hk.2.1, hk.2.2.1⟩⟩)⟩, ⟨km_ HO_377001 (fun _ hk => ⟨hk.1, ⟨hk.2.1, hk.2.2.1⟩⟩)⟩, ⟨bk_ BK343⟩, ⟨bk_ BK344⟩, ⟨bk_ BK360⟩, ⟨bk_ BK365⟩, ⟨bk_ BK370⟩, ⟨bk_ BK376⟩, ⟨bl_ HB⟩⟩
          ·replace c132 := Bool.eq_false_iff.mpr c132
           subst c132
           have H1 : (laws_FnExactCommonOfWholes.j1 kj24 t359 true a0_0 l0_1 a1_0 l1_1 t355 t356 t371 t372) = some r := by rw [if_neg (show ¬ (false = true) by decide)] at H; exact H
           clear H; have H := H1; clear H1
           have H' := Aside0.mk H
           clear H; have hnb145 := NB376_343.out; have hnc145 := NB343_376.out; have hnb146 := NB376_344.out; have hnc146 := NB344_376.out; have hnb147 := NB376_360.out; have hnc147 := NB360_376.out; have hnb148 := NB376_365.out; have hnc148 := NB365_376.out; have hnb149 := NB376_370.out; have hnc149 := NB370_376.out
           have hcz150_0 : w129.cell? ⟨gb376, 0, none⟩ = some (.int .i64 t371) := bc_ BK376 0
           have hcz150_1 : w129.cell? ⟨gb376, 1, none⟩ = some (.slice Ao72 t372.length co72) := bc_ BK376 1
           have hfz150_0 := blk_frozen BK376.out 0; have hfz150_1 := blk_frozen BK376.out 1; have hnb151 := NB360_343.out; have hnc151 := NB343_360.out; have hnb152 := NB360_344.out; have hnc152 := NB344_360.out; have hnb153 := NB360_365.out; have hnc153 := NB365_360.out; have hnb154 := NB360_370.out; have hnc154 := NB370_360.out
           have hcz155_0 : w129.cell? ⟨gb360, 0, none⟩ = some (.int .i64 t355) := bc_ BK360 0
           have hcz155_1 : w129.cell? ⟨gb360, 1, none⟩ = some (.slice Ao42 t356.length co42) := bc_ BK360 1
           have hfz155_0 := blk_frozen BK360.out 0; have hfz155_1 := blk_frozen BK360.out 1
           go_wp2_with (first | (go_at_call 15; (with_reducible refine (laws_eqWhole.calls kj24 t371 _ _ t372 t355 _ _ t356 false _ ?side1 ?side2 ?side3 ?side4 A131.out).mono ?_); (case side1 => exact cr_ HO_377001); (case side2 => exact (Kd.R_reads' HO_377001.out).2.1); (case side3 => exact cr_ HO_361001); (case side4 => exact (Kd.R_reads' HO_361001.out).2.1); rintro e w156 ⟨rfl, hb⟩; replace HO_361001 := am_ (Kd.R_below (kr_ HO_361001) hb); replace HO_366001 := am_ (Kd.R_below (kr_ HO_366001) hb); replace HO_371001 := am_ (Kd.R_below (kr_ HO_371001) hb); replace HO_377001 := am_ (Kd.R_below (kr_ HO_377001) hb); replace HO381 := am_ (Kd.R_below (kr_ HO381) hb); replace HO386 := am_ (Kd.R_below (kr_ HO386) hb); replace BK343 := am_ (blk_below (bk_ BK343) hb); replace BK344 := am_ (blk_below (bk_ BK344) hb); replace BK360 := am_ (blk_below (bk_ BK360) hb); replace BK365 := am_ (blk_below (bk_ BK365) hb); replace BK370 := am_ (blk_below (bk_ BK370) hb); replace BK376 := am_ (blk_below (bk_ BK376) hb); replace HB := am_ (below_step (bl_ HB) hb); (try clear hb); (try clear hb2); (try clear hk); (try clear hi)))
           go_meet
           case rel => exact ⟨_, (true), (by first | rfl | (simp; done) | (simp [*]; done)), H', ⟨by have := HJ24.out; first | omega | exact Nat.le_refl _⟩, ⟨km_ HO_361001 (fun _ hk => ⟨hk.1, ⟨hk.2.1, hk.2.2.1⟩⟩)⟩, ⟨km_ HO_366001 (fun _ hk => ⟨hk.1, ⟨hk.2.1, hk.2.2.1⟩⟩)⟩, ⟨km_ HO_371001 (fun _ hk => ⟨hk.1, ⟨hk.2.1, hk.2.2.1⟩⟩)⟩, ⟨km_ HO_377001 (fun _ hk => ⟨hk.1, ⟨hk.2.1, hk.2.2.1⟩⟩)⟩, ⟨bk_ BK343⟩, ⟨bk_ BK344⟩, ⟨bk_ BK360⟩, ⟨bk_ BK365⟩, ⟨bk_ BK370⟩, ⟨bk_ BK376⟩, ⟨bl_ HB⟩⟩
        case rest =>
         clear HC108; try clear c1; try clear p2; try clear c7; try clear c8; try clear c9; try clear c10; try clear c11; try clear c12; try clear c13; try clear c14; try clear c15; try clear c16; try clear c76; try clear c77; try clear c78; try clear c79; try clear c81; try clear c82; try clear c83; try clear c84; try clear c87; try clear c88; try clear c89; try clear c90; try clear c91; try clear c93; try clear c94; try clear c95; try clear c96; try clear c99; try clear c102; try clear c105; try clear c117; try clear c118; try clear c119; try clear c120; try clear c121; try clear c124; try clear c125; try clear c126; try clear c127; try clear c130; try clear c130b0; try clear c132; try clear c133; try clear c134; try clear c135; try clear c136; try clear c137; try clear c139; try clear c140; try clear c141; try clear c142; try clear c145; try clear c146; try clear c147; try clear c148; try clear c149; try clear c151; try clear c152; try clear c153; try clear c154; try clear hcz122_0; try clear hcz122_1; try clear hcz128_0; try clear hcz128_1; try clear hcz138_0; try clear hcz138_1; try clear hcz143_0; try clear hcz143_1; try clear hcz150_0; try clear hcz150_1; try clear hcz155_0; try clear hcz155_1; try clear hcz45_0; try clear hcz45_1; try clear hcz51_0; try clear hcz51_1; try clear hcz54_0; try clear hcz54_1; try clear hcz61_0; try clear hcz61_1; try clear hcz63_0; try clear hcz63_1; try clear hcz71_0; try clear hcz71_1; try clear hcz80_0; try clear hcz80_1; try clear hcz85_0; try clear hcz85_1; try clear hcz92_0; try clear hcz92_1; try clear hcz97_0; try clear hcz97_1; try clear hfz122_0; try clear hfz122_1; try clear hfz128_0; try clear hfz128_1; try clear hfz138_0; try clear hfz138_1; try clear hfz143_0; try clear hfz143_1; try clear hfz150_0; try clear hfz150_1; try clear hfz155_0; try clear hfz155_1; try clear hfz45_0; try clear hfz45_1; try clear hfz51_0; try clear hfz51_1; try clear hfz54_0; try clear hfz54_1; try clear hfz61_0; try clear hfz61_1; try clear hfz63_0
         try clear hfz63_1; try clear hfz71_0; try clear hfz71_1; try clear hfz80_0; try clear hfz80_1; try clear hfz85_0; try clear hfz85_1; try clear hfz92_0; try clear hfz92_1; try clear hfz97_0; try clear hfz97_1
         obtain ⟨kq, x82_107, rfl, HA, HJ107, HO_361001, HO_366001, HO_371001, HO_377001, BK343, BK344, BK360, BK365, BK370, BK376, HB⟩ := hcut
         have hl366001_107 := (Kd.R_reads' HO_366001.out).1
         rw [hl366001_107] at HO_366001
         (try simp only [hl366001_107])
         (try simp only [hl366001_107] at BK343)
         (try simp only [hl366001_107] at BK344)
         (try simp only [hl366001_107] at BK360)
         (try simp only [hl366001_107] at BK365)
         (try simp only [hl366001_107] at BK370)
         (try simp only [hl366001_107] at BK376)
         (try simp only [hl366001_107] at HO_361001)
         (try simp only [hl366001_107] at HO_371001)
         (try simp only [hl366001_107] at HO_377001)
         have hl371001_107 := (Kd.R_reads' HO_371001.out).1
         rw [hl371001_107] at HO_371001
         (try simp only [hl371001_107])
         (try simp only [hl371001_107] at BK343)
         (try simp only [hl371001_107] at BK344)
         (try simp only [hl371001_107] at BK360)
         (try simp only [hl371001_107] at BK365)
         (try simp only [hl371001_107] at BK370)
         (try simp only [hl371001_107] at BK376)
         (try simp only [hl371001_107] at HO_361001)
         (try simp only [hl371001_107] at HO_366001)
         (try simp only [hl371001_107] at HO_377001)
         cases kq with
         | zero => exact absurd HA.out (by simp [laws_FnExactCommonOfWholes.j1])
         | succ kj107 =>
          have H := HA.out; clear HA
          simp only [laws_FnExactCommonOfWholes.j1] at H
          by_cases c157 : x82_107 = true
          ·subst c157
           have H1 : (some false) = some r := by rw [if_pos rfl] at H; exact H
           clear H; have H := H1; clear H1; obtain rfl := Option.some.inj H; exact absurd hrt (by decide)
          ·replace c157 := Bool.eq_false_iff.mpr c157
           subst c157
           have H1 : ((laws_markWhole.f kj107 t371 t372 1).bind fun bt393 => ((laws_heldWhole.f kj107 t371 bt393.2 1).bind fun t395 => (if t395 < 0 then (some false) else (if t395 = bt393.1 then ((laws_toWhole.f kj107 a0_0 l0_1).bind fun bt396 => ((laws_toWhole.f kj107 a1_0 l1_1).bind fun bt400 => ((impl_CommonOfWholes.f bt396.1 bt396.2 bt400.1 bt400.2).bind fun bt404 => ((laws_eqWhole.f kj107 bt404.1 bt404.2.1 t355 t356).bind fun t410 => (if t410 = true then (laws_FnExactCommonOfWholes.j2 kj107 bt393.1 (bt404.2.2 != t359) t371 bt393.2) else (laws_FnExactCommonOfWholes.j2 kj107 bt393.1 true t371 bt393.2)))))) else (some false))))) = some r := by rw [if_neg (show ¬ (false = true) by decide)] at H; exact H
           clear H; have H := H1; clear H1
           replace H := Option.bind_eq_some_iff.mp H
           obtain ⟨⟨t393, t394⟩, A1580, H⟩ := H
           replace H : ((laws_heldWhole.f kj107 t371 t394 1).bind fun t395 => (if t395 < 0 then (some false) else (if t395 = t393 then ((laws_toWhole.f kj107 a0_0 l0_1).bind fun bt396 => ((laws_toWhole.f kj107 a1_0 l1_1).bind fun bt400 => ((impl_CommonOfWholes.f bt396.1 bt396.2 bt400.1 bt400.2).bind fun bt404 => ((laws_eqWhole.f kj107 bt404.1 bt404.2.1 t355 t356).bind fun t410 => (if t410 = true then (laws_FnExactCommonOfWholes.j2 kj107 t393 (bt404.2.2 != t359) t371 t394) else (laws_FnExactCommonOfWholes.j2 kj107 t393 true t371 t394)))))) else (some false)))) = some r := H
           have A158 := Aside0.mk A1580; clear A1580
           replace H := Option.bind_eq_some_iff.mp H
           obtain ⟨t395, A1590, H⟩ := H
           replace H : (if t395 < 0 then (some false) else (if t395 = t393 then ((laws_toWhole.f kj107 a0_0 l0_1).bind fun bt396 => ((laws_toWhole.f kj107 a1_0 l1_1).bind fun bt400 => ((impl_CommonOfWholes.f bt396.1 bt396.2 bt400.1 bt400.2).bind fun bt404 => ((laws_eqWhole.f kj107 bt404.1 bt404.2.1 t355 t356).bind fun t410 => (if t410 = true then (laws_FnExactCommonOfWholes.j2 kj107 t393 (bt404.2.2 != t359) t371 t394) else (laws_FnExactCommonOfWholes.j2 kj107 t393 true t371 t394)))))) else (some false))) = some r := H
           have A159 := Aside0.mk A1590; clear A1590
           by_cases c160 : t395 < 0
           ·rw [if_pos c160] at H
            have c160b0 : decide (t395 < 0) = true := decide_eq_true c160
            clear c160; obtain rfl := Option.some.inj H; exact absurd hrt (by decide)
           ·rw [if_neg c160] at H
            have c160b0 : decide (t395 < 0) = false := decide_eq_false c160
            clear c160
            by_cases c170 : t395 = t393
            ·rw [if_pos c170] at H
             have c170b0 : (t395 == t393) = true := beq_iff_eq.mpr c170
             have c170b1 : (t395 != t393) = false := bne_eq_false_iff_eq.mpr c170
             clear c170
             replace H := Option.bind_eq_some_iff.mp H
             obtain ⟨⟨t396, t397⟩, A1710, H⟩ := H
             replace H : ((laws_toWhole.f kj107 a1_0 l1_1).bind fun bt400 => ((impl_CommonOfWholes.f t396 t397 bt400.1 bt400.2).bind fun bt404 => ((laws_eqWhole.f kj107 bt404.1 bt404.2.1 t355 t356).bind fun t410 => (if t410 = true then (laws_FnExactCommonOfWholes.j2 kj107 t393 (bt404.2.2 != t359) t371 t394) else (laws_FnExactCommonOfWholes.j2 kj107 t393 true t371 t394))))) = some r := H
             have A171 := Aside0.mk A1710; clear A1710
             replace H := Option.bind_eq_some_iff.mp H
             obtain ⟨⟨t400, t401⟩, A1720, H⟩ := H
             replace H : ((impl_CommonOfWholes.f t396 t397 t400 t401).bind fun bt404 => ((laws_eqWhole.f kj107 bt404.1 bt404.2.1 t355 t356).bind fun t410 => (if t410 = true then (laws_FnExactCommonOfWholes.j2 kj107 t393 (bt404.2.2 != t359) t371 t394) else (laws_FnExactCommonOfWholes.j2 kj107 t393 true t371 t394)))) = some r := H
             have A172 := Aside0.mk A1720; clear A1720
             replace H := Option.bind_eq_some_iff.mp H
             obtain ⟨⟨t404, t405, t408⟩, A1730, H⟩ := H
             replace H : ((laws_eqWhole.f kj107 t404 t405 t355 t356).bind fun t410 => (if t410 = true then (laws_FnExactCommonOfWholes.j2 kj107 t393 (t408 != t359) t371 t394) else (laws_FnExactCommonOfWholes.j2 kj107 t393 true t371 t394))) = some r := H
             have A173 := Aside0.mk A1730; clear A1730; have HC174 := Aside0.mk H; clear H; have hnb175 := NB376_343.out; have hnc175 := NB343_376.out; have hnb176 := NB376_344.out; have hnc176 := NB344_376.out; have hnb177 := NB376_360.out; have hnc177 := NB360_376.out; have hnb178 := NB376_365.out; have hnc178 := NB365_376.out; have hnb179 := NB376_370.out; have hnc179 := NB370_376.out
             have hcz180_0 : wc.cell? ⟨gb376, 0, none⟩ = some (.int .i64 t371) := bc_ BK376 0
             have hcz180_1 : wc.cell? ⟨gb376, 1, none⟩ = some (.slice Ao72 t372.length co72) := bc_ BK376 1
             have hfz180_0 := blk_frozen BK376.out 0; have hfz180_1 := blk_frozen BK376.out 1
             try go_wp2_with (first | ((with_reducible refine gate_callee (f := 16) rfl ?_); refine goesL_ (some 85) rfl rfl Tryd.func16 (by kernel_rfl) rfl #[.agg #[.int .i64 t371, .slice Ao72 t372.length co72], .int .i64 1] rfl ma_ ?_; (with_reducible refine (laws_markWhole.calls kj107 t371 (fun k_ => some k_ = (.slice Ao72 t372.length co72 : Value).ownBlock) (.slice Ao72 t372.length co72) t372 1 t393 t394 w _ ?side1 ?side2 A158.out).mono ?_); (case side1 => exact bl_ HB); (case side2 => exact Kd.R_tight rfl HO_377001.out); rintro e w181 ⟨rfl, hy0, hb, hkp⟩; refine ⟨_, rfl, ?_⟩; have n0_ := am_ (Kd.R_mono (ok' := fun k_ => some k_ ≠ (.slice Ao52 t389.length co52 : Value).ownBlock ∧ some k_ ≠ (.slice Ao62 t391.length co62 : Value).ownBlock ∧ some k_ ≠ (.slice Ao72 t372.length co72 : Value).ownBlock) (Kd.R_keptB (HO_361001.out) hkp (fun k_ hk_ hs_ => (hk_.2.2) hs_)) (fun k_ hk_ => ⟨hk_.1.1, hk_.1.2.1, hk_.1.2.2⟩)); have n1_ := am_ (Kd.R_mono (ok' := fun k_ => some k_ ≠ (.slice Ao42 t356.length co42 : Value).ownBlock ∧ some k_ ≠ (.slice Ao62 t391.length co62 : Value).ownBlock ∧ some k_ ≠ (.slice Ao72 t372.length co72 : Value).ownBlock) (Kd.R_keptB (HO_366001.out) hkp (fun k_ hk_ hs_ => (hk_.2.2) hs_)) (fun k_ hk_ => ⟨hk_.1.1, hk_.1.2.1, hk_.1.2.2⟩)); have n2_ := am_ (Kd.R_mono (ok' := fun k_ => some k_ ≠ (.slice Ao42 t356.length co42 : Value).ownBlock ∧ some k_ ≠ (.slice Ao52 t389.length co52 : Value).ownBlock ∧ some k_ ≠ (.slice Ao72 t372.length co72 : Value).ownBlock) (Kd.R_keptB (HO_371001.out) hkp (fun k_ hk_ hs_ => (hk_.2.2) hs_)) (fun k_ hk_ => ⟨hk_.1.1, hk_.1.2.1, hk_.1.2.2⟩)); have n3_ := am_ (Kd.R_reok rfl hy0 (fun k_ e_ => HO_377001.out.1 k_ e_)); have n4_ := am_ (blk_kept (bk_ BK343) hkp (fun hs_ => (fun e_ => (Kd.R_ne HO_377001.out BK343.out (by decide)) e_) hs_)); have n5_ := am_ (blk_kept (bk_ BK344) hkp (fun hs_ => (fun e_ => (Kd.R_ne HO_377001.out BK344.out (by decide)) e_) hs_)); have n6_ := am_ (blk_kept (bk_ BK360) hkp (fun hs_ => (fun e_ => (Kd.R_ne HO_377001.out BK360.out (by decide)) e_) hs_)); have n7_ := am_ (blk_kept (bk_ BK365) hkp (fun hs_ => (fun e_ => (Kd.R_ne HO_377001.out BK365.out (by decide)) e_) hs_)); have n8_ := am_ (blk_kept (bk_ BK370) hkp (fun hs_ => (fun e_ => (Kd.R_ne HO_377001.out BK370.out (by decide)) e_) hs_)); have n9_ := am_ (blk_kept (bk_ BK376) hkp (fun hs_ => (fun e_ => (Kd.R_ne HO_377001.out BK376.out (by decide)) e_) hs_)); have n10_ := am_ (hb); clear HO_361001; clear HO_366001; clear HO_371001; clear HO_377001; clear BK343; clear BK344; clear BK360; clear BK365; clear BK370; clear BK376; clear HB; have HO_361001 := n0_; have HO_366001 := n1_; have HO_371001 := n2_; have HO_377001 := n3_; have BK343 := n4_; have BK344 := n5_; have BK360 := n6_; have BK365 := n7_; have BK370 := n8_; have BK376 := n9_; have HB := n10_; clear n0_ n1_ n2_ n3_ n4_ n5_ n6_ n7_ n8_ n9_ n10_; (try clear hb); (try clear hkp); (try clear hy0); have hcz182_0 : w181.cell? ⟨gb376, 0, none⟩ = some (.int .i64 t371) := bc_ BK376 0; have hcz182_1 : w181.cell? ⟨gb376, 1, none⟩ = some (.slice Ao72 t372.length co72) := bc_ BK376 1; have hfz182_0 := blk_frozen BK376.out 0; have hfz182_1 := blk_frozen BK376.out 1) | ((with_reducible refine gate_callee (f := 17) rfl ?_); refine goesL_ (some 88) rfl rfl Tryd.func17 (by kernel_rfl) rfl #[.agg #[.int .i64 t371, .slice Ao72 t394.length co72], .int .i64 1] rfl (by (try simp only [List.map_toArray, List.map_cons, List.map_nil]); first | done | (rw [show t394.length = t372.length from (Kd.R_reads' HO_377001.out).1.symm] <;> rfl) | rfl | (simp only [List.length_drop, List.length_take]; rfl)) ?_; (with_reducible refine (laws_heldWhole.calls kj107 t371 _ _ t394 1 t395 _ ?side1 ?side2 A159.out).mono ?_); (case side1 => exact cr_ HO_377001); (case side2 => rw [show t394.length = t372.length from (Kd.R_reads' HO_377001.out).1.symm]; exact (Kd.R_reads' HO_377001.out).2.1); rintro e w183 ⟨rfl, hb⟩; refine ⟨_, rfl, ?_⟩; replace HO_361001 := am_ (Kd.R_below (kr_ HO_361001) hb); replace HO_366001 := am_ (Kd.R_below (kr_ HO_366001) hb); replace HO_371001 := am_ (Kd.R_below (kr_ HO_371001) hb); replace HO_377001 := am_ (Kd.R_below (kr_ HO_377001) hb); replace BK343 := am_ (blk_below (bk_ BK343) hb); replace BK344 := am_ (blk_below (bk_ BK344) hb); replace BK360 := am_ (blk_below (bk_ BK360) hb); replace BK365 := am_ (blk_below (bk_ BK365) hb); replace BK370 := am_ (blk_below (bk_ BK370) hb); replace BK376 := am_ (blk_below (bk_ BK376) hb); replace HB := am_ (below_step (bl_ HB) hb); (try clear hb); (try clear hb2); (try clear hk); (try clear hi)))
             replace HO_361001 := am_ (Kd.R_drew HO_361001.out); replace HO_366001 := am_ (Kd.R_drew HO_366001.out); replace HO_371001 := am_ (Kd.R_drew HO_371001.out); replace HO_377001 := am_ (Kd.R_drew HO_377001.out); replace BK343 := am_ (blk_drew BK343.out); replace BK344 := am_ (blk_drew BK344.out); replace BK360 := am_ (blk_drew BK360.out); replace BK365 := am_ (blk_drew BK365.out); replace BK370 := am_ (blk_drew BK370.out); replace BK376 := am_ (blk_drew BK376.out); replace HB := am_ (below_drew1 HB.out)
             refine start_ (n := 11) (S := fun w' => w'.cell? ⟨gb343, 0, none⟩ = some (.int .i64 a0_0) ∧ w'.cell? ⟨gb343, 1, none⟩ = some (.slice A0_1 l0_1.length c0_1) ∧ w'.cell? ⟨gb344, 0, none⟩ = some (.int .i64 a1_0) ∧ w'.cell? ⟨gb344, 1, none⟩ = some (.slice A1_1 l1_1.length c1_1)) (ds := []) #[false, false, false, false, false, false, false, false, false, false, false] (by kernel_rfl) rfl rfl ⟨bc_ BK343 0, bc_ BK343 1, bc_ BK344 0, bc_ BK344 1⟩ (fun hHeld => ?_); refine with_tabW laws_FnExactCommonOfWholes.tab31 laws_FnExactCommonOfWholes.bits31 (fun HT_ HW_ => ?_)
             generalize w183.drew = w184 at HO_361001 HO_366001 HO_371001 HO_377001 BK343 BK344 BK360 BK365 BK370 BK376 HB hHeld ⊢
             refine take_ (i := 0) (N := some 95) (v := ?_) (a' := ?_) #[true, false, false, false, false, false, false, false, false, false, false] rfl rfl (take_ofW HT_.out HW_.out (by kernel_rfl)) (fun _ _ _ h => h) (Or.inl ⟨by rfl, ?_⟩) hHeld ?_ ?_
             rotate_left
             ·rintro w' ⟨s0, s1, s2, s3⟩
              go_simp
              with_reducible rfl
             rotate_left
             ·exact nm_
             refine take_ (i := 2) (N := some 97) (v := ?_) (a' := ?_) #[true, false, true, false, false, false, false, false, false, false, false] rfl rfl (take_ofW HT_.out HW_.out (by kernel_rfl)) (fun _ _ _ h => h) (Or.inl ⟨by rfl, ?_⟩) hHeld ?_ ?_
             rotate_left
             ·rintro w' ⟨s0, s1, s2, s3⟩
              go_simp
              with_reducible rfl
             rotate_left
             ·exact nm_
             refine join_ (σ := Value × Value × Value × Nat) 2 #[true, true, true, true, true, true, true, true, true, false, false] (fun s_ => [(96, .agg #[.int .i64 t396, s_.1]), (98, .agg #[.int .i64 t400, s_.2.1]), (99, .tuple #[.agg #[.int .i64 t404, s_.2.2.1], .int .i64 t408]), (15, .pointer (some ⟨s_.2.2.2, 0, none⟩)), (94, .tuple #[.agg #[.int .i64 t404, s_.2.2.1], .int .i64 t408]), (100, .agg #[.int .i64 t404, s_.2.2.1]), (101, .int .i64 t408)]) (fun s_ w' => (w'.cell? ⟨gb343, 0, none⟩ = some (.int .i64 a0_0) ∧ w'.cell? ⟨gb343, 1, none⟩ = some (.slice A0_1 l0_1.length c0_1) ∧ w'.cell? ⟨gb344, 0, none⟩ = some (.int .i64 a1_0) ∧ w'.cell? ⟨gb344, 1, none⟩ = some (.slice A1_1 l1_1.length c1_1)) ∧ (Kd.R (Kd.int .i64) 2 w' w.heap.size (fun k_ => some k_ ≠ (s_.2.1 : Value).ownBlock ∧ some k_ ≠ (s_.2.2.1 : Value).ownBlock ∧ some k_ ≠ (.slice Ao42 t356.length co42 : Value).ownBlock ∧ some k_ ≠ (.slice Ao52 t389.length co52 : Value).ownBlock ∧ some k_ ≠ (.slice Ao62 t391.length co62 : Value).ownBlock ∧ some k_ ≠ (.slice Ao72 t372.length co72 : Value).ownBlock) s_.1 t397) ∧ (Kd.R (Kd.int .i64) 2 w' w.heap.size (fun k_ => some k_ ≠ (s_.1 : Value).ownBlock ∧ some k_ ≠ (s_.2.2.1 : Value).ownBlock ∧ some k_ ≠ (.slice Ao42 t356.length co42 : Value).ownBlock ∧ some k_ ≠ (.slice Ao52 t389.length co52 : Value).ownBlock ∧ some k_ ≠ (.slice Ao62 t391.length co62 : Value).ownBlock ∧ some k_ ≠ (.slice Ao72 t372.length co72 : Value).ownBlock) s_.2.1 t401) ∧ (Kd.R (Kd.int .i64) 2 w' w.heap.size (fun k_ => some k_ ≠ (s_.1 : Value).ownBlock ∧ some k_ ≠ (s_.2.1 : Value).ownBlock ∧ some k_ ≠ (.slice Ao42 t356.length co42 : Value).ownBlock ∧ some k_ ≠ (.slice Ao52 t389.length co52 : Value).ownBlock ∧ some k_ ≠ (.slice Ao62 t391.length co62 : Value).ownBlock ∧ some k_ ≠ (.slice Ao72 t372.length co72 : Value).ownBlock) s_.2.2.1 t405) ∧ (Kd.R (Kd.int .i64) 2 w' w.heap.size (fun k_ => some k_ ≠ (s_.1 : Value).ownBlock ∧ some k_ ≠ (s_.2.1 : Value).ownBlock ∧ some k_ ≠ (s_.2.2.1 : Value).ownBlock ∧ some k_ ≠ (.slice Ao52 t389.length co52 : Value).ownBlock ∧ some k_ ≠ (.slice Ao62 t391.length co62 : Value).ownBlock ∧ some k_ ≠ (.slice Ao72 t372.length co72 : Value).ownBlock) (.slice Ao42 t356.length co42) t356) ∧ (Kd.R (Kd.int .i64) 2 w' w.heap.size (fun k_ => some k_ ≠ (s_.1 : Value).ownBlock ∧ some k_ ≠ (s_.2.1 : Value).ownBlock ∧ some k_ ≠ (s_.2.2.1 : Value).ownBlock ∧ some k_ ≠ (.slice Ao42 t356.length co42 : Value).ownBlock ∧ some k_ ≠ (.slice Ao62 t391.length co62 : Value).ownBlock ∧ some k_ ≠ (.slice Ao72 t372.length co72 : Value).ownBlock) (.slice Ao52 t389.length co52) t389) ∧ (Kd.R (Kd.int .i64) 2 w' w.heap.size (fun k_ => some k_ ≠ (s_.1 : Value).ownBlock ∧ some k_ ≠ (s_.2.1 : Value).ownBlock ∧ some k_ ≠ (s_.2.2.1 : Value).ownBlock ∧ some k_ ≠ (.slice Ao42 t356.length co42 : Value).ownBlock ∧ some k_ ≠ (.slice Ao52 t389.length co52 : Value).ownBlock ∧ some k_ ≠ (.slice Ao72 t372.length co72 : Value).ownBlock) (.slice Ao62 t391.length co62) t391) ∧ (Kd.R (Kd.int .i64) 2 w' w.heap.size (fun k_ => some k_ ≠ (s_.1 : Value).ownBlock ∧ some k_ ≠ (s_.2.1 : Value).ownBlock ∧ some k_ ≠ (s_.2.2.1 : Value).ownBlock ∧ some k_ ≠ (.slice Ao42 t356.length co42 : Value).ownBlock ∧ some k_ ≠ (.slice Ao52 t389.length co52 : Value).ownBlock ∧ some k_ ≠ (.slice Ao62 t391.length co62 : Value).ownBlock) (.slice Ao72 t372.length co72) t394) ∧ (w'.heap[gb343]? = some (.cells #[.int .i64 a0_0, .slice A0_1 l0_1.length c0_1] 24 (0, 0))) ∧ (w'.heap[gb344]? = some (.cells #[.int .i64 a1_0, .slice A1_1 l1_1.length c1_1] 24 (0, 0))) ∧ (w'.heap[gb360]? = some (.cells #[.int .i64 t355, .slice Ao42 t356.length co42] 26 (0, 0))) ∧ (w'.heap[gb365]? = some (.cells #[.int .i64 t361, .slice Ao52 t389.length co52] 26 (0, 0))) ∧ (w'.heap[gb370]? = some (.cells #[.int .i64 t366, .slice Ao62 t391.length co62] 26 (0, 0))) ∧ (w'.heap[gb376]? = some (.cells #[.int .i64 t371, .slice Ao72 t372.length co72] 26 (0, 0))) ∧ (w'.heap[s_.2.2.2]? = some (.cells #[.int .i64 0, .slice none 0 0] 26 (0, 0))) ∧ (w.heap.size ≤ s_.2.2.2) ∧ (w.heap.size ≤ s_.2.2.2) ∧ (gb343 ≠ s_.2.2.2) ∧ (s_.2.2.2 ≠ gb343) ∧ (gb344 ≠ s_.2.2.2) ∧ (s_.2.2.2 ≠ gb344) ∧ (gb360 ≠ s_.2.2.2) ∧ (s_.2.2.2 ≠ gb360) ∧ (gb365 ≠ s_.2.2.2) ∧ (s_.2.2.2 ≠ gb365) ∧ (gb370 ≠ s_.2.2.2) ∧ (s_.2.2.2 ≠ gb370) ∧ (gb376 ≠ s_.2.2.2) ∧ (s_.2.2.2 ≠ gb376) ∧ (Below w.heap.size w w')) ?_ ?_
             rotate_left
             ·intro hCont
              refine two_ (i := 1) (j := 8) (Ni := some 96) (Nj := some 15) #[true, true, true, false, false, false, false, false, false, false, false] #[true, false, true, false, false, false, false, false, true, false, false] rfl rfl rfl rfl (two_of HT_.out (by kernel_rfl)) (by decide) (by decide) (fun K hK => ?_) (fun K hK => ?_)
              ·skip
               refine goes_ Tryd.func13 (by kernel_rfl) rfl #[.agg #[.int .i64 a0_0, .slice A0_1 l0_1.length c0_1]] (by rfl) rfl rfl ma_ ?_
               with_reducible refine (laws_toWhole.calls kj107 a0_0 _ _ l0_1 t396 t397 _ ?side1 ?side2 A171.out).mono ?_
               (case side1 => exact cb_ HR0_1 HB)
               (case side2 => exact HC0_1.out)
               rintro e w185 ⟨v398, rfl, ho0, hb⟩
               refine ⟨_, rfl, ?_⟩
               have HO399 := am_ (Kd.R_lower (Kd.R_new' (Kd.R_new' (Kd.R_new' (Kd.R_new' ho0 (Kd.R_lt (kr_ HO_361001))) (Kd.R_lt (kr_ HO_366001))) (Kd.R_lt (kr_ HO_371001))) (Kd.R_lt (kr_ HO_377001))) (below_size (bl_ HB))); replace HO_361001 := am_ (Kd.R_elder' (kr_ HO_361001) (Kd.R_base ho0) hb); replace HO_366001 := am_ (Kd.R_elder' (kr_ HO_366001) (Kd.R_base ho0) hb); replace HO_371001 := am_ (Kd.R_elder' (kr_ HO_371001) (Kd.R_base ho0) hb); replace HO_377001 := am_ (Kd.R_elder' (kr_ HO_377001) (Kd.R_base ho0) hb); replace BK343 := am_ (blk_below (bk_ BK343) hb); replace BK344 := am_ (blk_below (bk_ BK344) hb); replace BK360 := am_ (blk_below (bk_ BK360) hb); replace BK365 := am_ (blk_below (bk_ BK365) hb); replace BK370 := am_ (blk_below (bk_ BK370) hb); replace BK376 := am_ (blk_below (bk_ BK376) hb); replace HB := am_ (below_step (bl_ HB) hb); (try clear hb); (try clear hb2); (try clear hk); (try clear hi); (try clear ho0)
               refine hK.out _ _ ⟨bc_ BK343 0, bc_ BK343 1, bc_ BK344 0, bc_ BK344 1⟩ (fun hHeld => ?_)
               clear hK K
               refine norm_ (a' := ?_) ?_ ?_
               rotate_left
               ·show Act.put _ (some 96) _ = _
                exact nm_
               refine two_ (i := 3) (j := 8) (Ni := some 98) (Nj := some 15) #[true, true, true, true, false, false, false, false, false, false, false] #[true, true, true, false, false, false, false, false, true, false, false] rfl rfl rfl rfl (two_of HT_.out (by kernel_rfl)) (by decide) (by decide) (fun K hK => ?_) (fun K hK => ?_)
               ·skip
                refine goes_ Tryd.func13 (by kernel_rfl) rfl #[.agg #[.int .i64 a1_0, .slice A1_1 l1_1.length c1_1]] (by rfl) rfl rfl ma_ ?_
                with_reducible refine (laws_toWhole.calls kj107 a1_0 _ _ l1_1 t400 t401 _ ?side1 ?side2 A172.out).mono ?_
                (case side1 => exact cb_ HR1_1 HB)
                (case side2 => exact HC1_1.out)
                rintro e w186 ⟨v402, rfl, ho0, hb⟩
                refine ⟨_, rfl, ?_⟩
                have HO403 := am_ (Kd.R_lower (Kd.R_new' (Kd.R_new' (Kd.R_new' (Kd.R_new' (Kd.R_new' ho0 (Kd.R_lt (kr_ HO_361001))) (Kd.R_lt (kr_ HO_366001))) (Kd.R_lt (kr_ HO_371001))) (Kd.R_lt (kr_ HO_377001))) (Kd.R_lt (kr_ HO399))) (below_size (bl_ HB))); replace HO_361001 := am_ (Kd.R_elder' (kr_ HO_361001) (Kd.R_base ho0) hb); replace HO_366001 := am_ (Kd.R_elder' (kr_ HO_366001) (Kd.R_base ho0) hb); replace HO_371001 := am_ (Kd.R_elder' (kr_ HO_371001) (Kd.R_base ho0) hb); replace HO_377001 := am_ (Kd.R_elder' (kr_ HO_377001) (Kd.R_base ho0) hb); replace HO399 := am_ (Kd.R_elder' (kr_ HO399) (Kd.R_base ho0) hb); replace BK343 := am_ (blk_below (bk_ BK343) hb); replace BK344 := am_ (blk_below (bk_ BK344) hb); replace BK360 := am_ (blk_below (bk_ BK360) hb); replace BK365 := am_ (blk_below (bk_ BK365) hb); replace BK370 := am_ (blk_below (bk_ BK370) hb); replace BK376 := am_ (blk_below (bk_ BK376) hb); replace HB := am_ (below_step (bl_ HB) hb); (try clear hb); (try clear hb2); (try clear hk); (try clear hi); (try clear ho0)
                obtain ⟨Ao187, co187, eo187⟩ := Kd.R_slice HO399.out
                (first | subst eo187 | (injection eo187 with f1_ f2_ f3_; have f4_ := f1_.symm; have f5_ := f3_.symm; clear f1_ f2_ f3_; subst f4_; subst f5_))
                obtain ⟨Ao188, co188, eo188⟩ := Kd.R_slice HO403.out
                (first | subst eo188 | (injection eo188 with f1_ f2_ f3_; have f4_ := f1_.symm; have f5_ := f3_.symm; clear f1_ f2_ f3_; subst f4_; subst f5_))
                refine hK.out _ _ ⟨bc_ BK343 0, bc_ BK343 1, bc_ BK344 0, bc_ BK344 1⟩ (fun hHeld => ?_)
                clear hK K
                refine norm_ (a' := ?_) ?_ ?_
                rotate_left
                ·show Act.put _ (some 98) _ = _
                 exact nm_
                refine two_ (i := 4) (j := 8) (Ni := some 99) (Nj := some 15) #[true, true, true, true, true, false, false, false, false, false, false] #[true, true, true, true, false, false, false, false, true, false, false] rfl rfl rfl rfl (two_of HT_.out (by kernel_rfl)) (by decide) (by decide) (fun K hK => ?_) (fun K hK => ?_)
                ·skip
                 refine goes_ Tryd.func23 (by kernel_rfl) rfl #[.agg #[.int .i64 t396, .slice Ao187 t397.length co187], .agg #[.int .i64 t400, .slice Ao188 t401.length co188]] (by rfl) rfl rfl ma_ ?_
                 with_reducible refine (impl_CommonOfWholes.calls t396 _ _ t397 t400 _ _ t401 t404 t405 t408 _ ?side1 ?side2 ?side3 ?side4 A173.out).mono ?_
                 (case side1 => exact cr_ HO399)
                 (case side2 => exact (Kd.R_reads' HO399.out).2.1)
                 (case side3 => exact cr_ HO403)
                 (case side4 => exact (Kd.R_reads' HO403.out).2.1)
                 rintro e w189 ⟨v406, rfl, ho0, hb⟩
                 refine ⟨_, rfl, ?_⟩
                 have HO407 := am_ (Kd.R_lower (Kd.R_new' (Kd.R_new' (Kd.R_new' (Kd.R_new' (Kd.R_new' (Kd.R_new' ho0 (Kd.R_lt (kr_ HO_361001))) (Kd.R_lt (kr_ HO_366001))) (Kd.R_lt (kr_ HO_371001))) (Kd.R_lt (kr_ HO_377001))) (Kd.R_lt (kr_ HO399))) (Kd.R_lt (kr_ HO403))) (below_size (bl_ HB))); replace HO_361001 := am_ (Kd.R_elder' (kr_ HO_361001) (Kd.R_base ho0) hb); replace HO_366001 := am_ (Kd.R_elder' (kr_ HO_366001) (Kd.R_base ho0) hb); replace HO_371001 := am_ (Kd.R_elder' (kr_ HO_371001) (Kd.R_base ho0) hb); replace HO_377001 := am_ (Kd.R_elder' (kr_ HO_377001) (Kd.R_base ho0) hb); replace HO399 := am_ (Kd.R_elder' (kr_ HO399) (Kd.R_base ho0) hb); replace HO403 := am_ (Kd.R_elder' (kr_ HO403) (Kd.R_base ho0) hb); replace BK343 := am_ (blk_below (bk_ BK343) hb); replace BK344 := am_ (blk_below (bk_ BK344) hb); replace BK360 := am_ (blk_below (bk_ BK360) hb); replace BK365 := am_ (blk_below (bk_ BK365) hb); replace BK370 := am_ (blk_below (bk_ BK370) hb); replace BK376 := am_ (blk_below (bk_ BK376) hb); replace HB := am_ (below_step (bl_ HB) hb); (try clear hb); (try clear hb2); (try clear hk); (try clear hi); (try clear ho0)
                 refine hK.out _ _ ⟨bc_ BK343 0, bc_ BK343 1, bc_ BK344 0, bc_ BK344 1⟩ (fun hHeld => ?_)
                 clear hK K
                 refine norm_ (a' := ?_) ?_ ?_
                 rotate_left
                 ·show Act.put _ (some 99) _ = _
                  exact nm_
                 refine pure_ (i := 5) (N := some 94) (v := ?_) (a' := ?_) #[true, true, true, true, true, true, false, false, false, false, false] rfl rfl (any_of HT_.out (by kernel_rfl)) (fun _ _ _ h => h) (Or.inl ⟨by rfl, ?_⟩) ?_ ?_
                 rotate_left
                 ·intro w'
                  go_simp
                  with_reducible rfl
                 rotate_left
                 ·exact nm_
                 refine pure_ (i := 6) (N := some 100) (v := ?_) (a' := ?_) #[true, true, true, true, true, true, true, false, false, false, false] rfl rfl (any_of HT_.out (by kernel_rfl)) (fun _ _ _ h => h) (Or.inl ⟨by rfl, ?_⟩) ?_ ?_
                 rotate_left
                 ·intro w'
                  go_simp
                  with_reducible rfl
                 rotate_left
                 ·exact nm_
                 refine pure_ (i := 7) (N := some 101) (v := ?_) (a' := ?_) #[true, true, true, true, true, true, true, true, false, false, false] rfl rfl (any_of HT_.out (by kernel_rfl)) (fun _ _ _ h => h) (Or.inl ⟨by rfl, ?_⟩) ?_ ?_
                 rotate_left
                 ·intro w'
                  go_simp
                  with_reducible rfl
                 rotate_left
                 ·exact nm_
                 refine one_ (i := 8) (N := some 15) #[true, true, true, true, true, true, true, true, true, false, false] rfl rfl (one_of HT_.out (by kernel_rfl)) (by decide) (fun K hK => ?_)
                 refine box_step ?hg (N := 15) ?hd (cs := #[.int .i64 0, .slice none 0 0]) (t := 26) ?hr ?_; (case hd => rfl); (case hg => rfl); (case hr => first | (go_simp; done) | (go_simp; rfl))
                 intro gb409 hg w190 hbox hb
                 replace HO_361001 := am_ (Kd.R_below (kr_ HO_361001) hb); replace HO_366001 := am_ (Kd.R_below (kr_ HO_366001) hb); replace HO_371001 := am_ (Kd.R_below (kr_ HO_371001) hb); replace HO_377001 := am_ (Kd.R_below (kr_ HO_377001) hb); replace HO399 := am_ (Kd.R_below (kr_ HO399) hb); replace HO403 := am_ (Kd.R_below (kr_ HO403) hb); replace HO407 := am_ (Kd.R_below (kr_ HO407) hb); have BK409 := am_ (hbox); have GW409 := am_ (gs_ hg HB); have GE409 := am_ (gs_ hg HB); replace HB := am_ (below_step (bl_ HB) hb); have NB343_409 := am_ (nl_ hg BK343); have NB409_343 := am_ (ng_ hg BK343); replace BK343 := am_ (blk_below (bk_ BK343) hb); have NB344_409 := am_ (nl_ hg BK344); have NB409_344 := am_ (ng_ hg BK344); replace BK344 := am_ (blk_below (bk_ BK344) hb); have NB360_409 := am_ (nl_ hg BK360); have NB409_360 := am_ (ng_ hg BK360); replace BK360 := am_ (blk_below (bk_ BK360) hb); have NB365_409 := am_ (nl_ hg BK365); have NB409_365 := am_ (ng_ hg BK365); replace BK365 := am_ (blk_below (bk_ BK365) hb); have NB370_409 := am_ (nl_ hg BK370); have NB409_370 := am_ (ng_ hg BK370); replace BK370 := am_ (blk_below (bk_ BK370) hb); have NB376_409 := am_ (nl_ hg BK376); have NB409_376 := am_ (ng_ hg BK376); replace BK376 := am_ (blk_below (bk_ BK376) hb); clear hb hbox hg
                 refine hK.out _ _ ⟨bc_ BK343 0, bc_ BK343 1, bc_ BK344 0, bc_ BK344 1⟩ (fun hHeld => ?_)
                 clear hK K
                 refine norm_ (a' := ?_) ?_ ?_
                 rotate_left
                 ·show Act.put _ (some 15) _ = _
                  exact nm_
                 exact norm_ (by simp only [putAll, Act.put, List.setIfInBounds_toArray, List.set_cons_zero, List.set_cons_succ]) (hCont (.slice Ao187 t397.length co187, .slice Ao188 t401.length co188, v406, gb409) _ ⟨hHeld, (km_ HO399 (fun _ hk => ⟨hk.1.2, ⟨hk.2, ⟨hk.1.1.1.1.1.2, ⟨hk.1.1.1.1.2, ⟨hk.1.1.1.2, hk.1.1.2⟩⟩⟩⟩⟩)), (km_ HO403 (fun _ hk => ⟨hk.1.2, ⟨hk.2, ⟨hk.1.1.1.1.1.2, ⟨hk.1.1.1.1.2, ⟨hk.1.1.1.2, hk.1.1.2⟩⟩⟩⟩⟩)), (km_ HO407 (fun _ hk => ⟨hk.1.2, ⟨hk.2, ⟨hk.1.1.1.1.1.2, ⟨hk.1.1.1.1.2, ⟨hk.1.1.1.2, hk.1.1.2⟩⟩⟩⟩⟩)), (km_ HO_361001 (fun _ hk => ⟨hk.1.1.2, ⟨hk.1.2, ⟨hk.2, ⟨hk.1.1.1.1, ⟨hk.1.1.1.2.1, hk.1.1.1.2.2⟩⟩⟩⟩⟩)), (km_ HO_366001 (fun _ hk => ⟨hk.1.1.2, ⟨hk.1.2, ⟨hk.2, ⟨hk.1.1.1.1, ⟨hk.1.1.1.2.1, hk.1.1.1.2.2⟩⟩⟩⟩⟩)), (km_ HO_371001 (fun _ hk => ⟨hk.1.1.2, ⟨hk.1.2, ⟨hk.2, ⟨hk.1.1.1.1, ⟨hk.1.1.1.2.1, hk.1.1.1.2.2⟩⟩⟩⟩⟩)), (km_ HO_377001 (fun _ hk => ⟨hk.1.1.2, ⟨hk.1.2, ⟨hk.2, ⟨hk.1.1.1.1, ⟨hk.1.1.1.2.1, hk.1.1.1.2.2⟩⟩⟩⟩⟩)), (bk_ BK343), (bk_ BK344), (bk_ BK360), (bk_ BK365), (bk_ BK370), (bk_ BK376), (bk_ BK409), GW409.out, GE409.out, NB343_409.out, NB409_343.out, NB344_409.out, NB409_344.out, NB360_409.out, NB409_360.out, NB365_409.out, NB409_365.out, NB370_409.out, NB409_370.out, NB376_409.out, NB409_376.out, (bl_ HB)⟩)
                ·skip
                 refine box_step ?hg (N := 15) ?hd (cs := #[.int .i64 0, .slice none 0 0]) (t := 26) ?hr ?_; (case hd => rfl); (case hg => rfl); (case hr => first | (go_simp; done) | (go_simp; rfl))
                 intro gb409 hg w187 hbox hb
                 replace HO_361001 := am_ (Kd.R_below (kr_ HO_361001) hb); replace HO_366001 := am_ (Kd.R_below (kr_ HO_366001) hb); replace HO_371001 := am_ (Kd.R_below (kr_ HO_371001) hb); replace HO_377001 := am_ (Kd.R_below (kr_ HO_377001) hb); replace HO399 := am_ (Kd.R_below (kr_ HO399) hb); replace HO403 := am_ (Kd.R_below (kr_ HO403) hb); have BK409 := am_ (hbox); have GW409 := am_ (gs_ hg HB); have GE409 := am_ (gs_ hg HB); replace HB := am_ (below_step (bl_ HB) hb); have NB343_409 := am_ (nl_ hg BK343); have NB409_343 := am_ (ng_ hg BK343); replace BK343 := am_ (blk_below (bk_ BK343) hb); have NB344_409 := am_ (nl_ hg BK344); have NB409_344 := am_ (ng_ hg BK344); replace BK344 := am_ (blk_below (bk_ BK344) hb); have NB360_409 := am_ (nl_ hg BK360); have NB409_360 := am_ (ng_ hg BK360); replace BK360 := am_ (blk_below (bk_ BK360) hb); have NB365_409 := am_ (nl_ hg BK365); have NB409_365 := am_ (ng_ hg BK365); replace BK365 := am_ (blk_below (bk_ BK365) hb); have NB370_409 := am_ (nl_ hg BK370); have NB409_370 := am_ (ng_ hg BK370); replace BK370 := am_ (blk_below (bk_ BK370) hb); have NB376_409 := am_ (nl_ hg BK376); have NB409_376 := am_ (ng_ hg BK376); replace BK376 := am_ (blk_below (bk_ BK376) hb); clear hb hbox hg
                 obtain ⟨Ao188, co188, eo188⟩ := Kd.R_slice HO399.out
                 (first | subst eo188 | (injection eo188 with f1_ f2_ f3_; have f4_ := f1_.symm; have f5_ := f3_.symm; clear f1_ f2_ f3_; subst f4_; subst f5_))
                 obtain ⟨Ao189, co189, eo189⟩ := Kd.R_slice HO403.out
                 (first | subst eo189 | (injection eo189 with f1_ f2_ f3_; have f4_ := f1_.symm; have f5_ := f3_.symm; clear f1_ f2_ f3_; subst f4_; subst f5_))
                 refine hK.out _ _ ⟨bc_ BK343 0, bc_ BK343 1, bc_ BK344 0, bc_ BK344 1⟩ (fun hHeld => ?_)
                 clear hK K
                 refine norm_ (a' := ?_) ?_ ?_
                 rotate_left
                 ·show Act.put _ (some 15) _ = _
                  exact nm_
                 refine one_ (i := 4) (N := some 99) #[true, true, true, true, true, false, false, false, true, false, false] rfl rfl (one_of HT_.out (by kernel_rfl)) (by decide) (fun K hK => ?_)
                 refine goes_ Tryd.func23 (by kernel_rfl) rfl #[.agg #[.int .i64 t396, .slice Ao188 t397.length co188], .agg #[.int .i64 t400, .slice Ao189 t401.length co189]] (by rfl) rfl rfl ma_ ?_
                 with_reducible refine (impl_CommonOfWholes.calls t396 _ _ t397 t400 _ _ t401 t404 t405 t408 _ ?side1 ?side2 ?side3 ?side4 A173.out).mono ?_
                 (case side1 => exact cr_ HO399)
                 (case side2 => exact (Kd.R_reads' HO399.out).2.1)
                 (case side3 => exact cr_ HO403)
                 (case side4 => exact (Kd.R_reads' HO403.out).2.1)
                 rintro e w190 ⟨v406, rfl, ho0, hb⟩
                 refine ⟨_, rfl, ?_⟩
                 have HO407 := am_ (Kd.R_lower (Kd.R_new' (Kd.R_new' (Kd.R_new' (Kd.R_new' (Kd.R_new' (Kd.R_new' ho0 (Kd.R_lt (kr_ HO_361001))) (Kd.R_lt (kr_ HO_366001))) (Kd.R_lt (kr_ HO_371001))) (Kd.R_lt (kr_ HO_377001))) (Kd.R_lt (kr_ HO399))) (Kd.R_lt (kr_ HO403))) (below_size (bl_ HB))); replace HO_361001 := am_ (Kd.R_elder' (kr_ HO_361001) (Kd.R_base ho0) hb); replace HO_366001 := am_ (Kd.R_elder' (kr_ HO_366001) (Kd.R_base ho0) hb); replace HO_371001 := am_ (Kd.R_elder' (kr_ HO_371001) (Kd.R_base ho0) hb); replace HO_377001 := am_ (Kd.R_elder' (kr_ HO_377001) (Kd.R_base ho0) hb); replace HO399 := am_ (Kd.R_elder' (kr_ HO399) (Kd.R_base ho0) hb); replace HO403 := am_ (Kd.R_elder' (kr_ HO403) (Kd.R_base ho0) hb); replace BK343 := am_ (blk_below (bk_ BK343) hb); replace BK344 := am_ (blk_below (bk_ BK344) hb); replace BK360 := am_ (blk_below (bk_ BK360) hb); replace BK365 := am_ (blk_below (bk_ BK365) hb); replace BK370 := am_ (blk_below (bk_ BK370) hb); replace BK376 := am_ (blk_below (bk_ BK376) hb); replace BK409 := am_ (blk_below (bk_ BK409) hb); replace HB := am_ (below_step (bl_ HB) hb); (try clear hb); (try clear hb2); (try clear hk); (try clear hi); (try clear ho0)
                 refine hK.out _ _ ⟨bc_ BK343 0, bc_ BK343 1, bc_ BK344 0, bc_ BK344 1⟩ (fun hHeld => ?_)
                 clear hK K
                 refine norm_ (a' := ?_) ?_ ?_
                 rotate_left
                 ·show Act.put _ (some 99) _ = _
                  exact nm_
                 refine pure_ (i := 5) (N := some 94) (v := ?_) (a' := ?_) #[true, true, true, true, true, true, false, false, true, false, false] rfl rfl (any_of HT_.out (by kernel_rfl)) (fun _ _ _ h => h) (Or.inl ⟨by rfl, ?_⟩) ?_ ?_
                 rotate_left
                 ·intro w'
                  go_simp
                  with_reducible rfl
                 rotate_left
                 ·exact nm_
                 refine pure_ (i := 6) (N := some 100) (v := ?_) (a' := ?_) #[true, true, true, true, true, true, true, false, true, false, false] rfl rfl (any_of HT_.out (by kernel_rfl)) (fun _ _ _ h => h) (Or.inl ⟨by rfl, ?_⟩) ?_ ?_
                 rotate_left
                 ·intro w'
                  go_simp
                  with_reducible rfl
                 rotate_left
                 ·exact nm_
                 refine pure_ (i := 7) (N := some 101) (v := ?_) (a' := ?_) #[true, true, true, true, true, true, true, true, true, false, false] rfl rfl (any_of HT_.out (by kernel_rfl)) (fun _ _ _ h => h) (Or.inl ⟨by rfl, ?_⟩) ?_ ?_
                 rotate_left
                 ·intro w'
                  go_simp
                  with_reducible rfl
                 rotate_left
                 ·exact nm_
                 exact norm_ (by simp only [putAll, Act.put, List.setIfInBounds_toArray, List.set_cons_zero, List.set_cons_succ]) (hCont (.slice Ao188 t397.length co188, .slice Ao189 t401.length co189, v406, gb409) _ ⟨hHeld, (km_ HO399 (fun _ hk => ⟨hk.1.2, ⟨hk.2, ⟨hk.1.1.1.1.1.2, ⟨hk.1.1.1.1.2, ⟨hk.1.1.1.2, hk.1.1.2⟩⟩⟩⟩⟩)), (km_ HO403 (fun _ hk => ⟨hk.1.2, ⟨hk.2, ⟨hk.1.1.1.1.1.2, ⟨hk.1.1.1.1.2, ⟨hk.1.1.1.2, hk.1.1.2⟩⟩⟩⟩⟩)), (km_ HO407 (fun _ hk => ⟨hk.1.2, ⟨hk.2, ⟨hk.1.1.1.1.1.2, ⟨hk.1.1.1.1.2, ⟨hk.1.1.1.2, hk.1.1.2⟩⟩⟩⟩⟩)), (km_ HO_361001 (fun _ hk => ⟨hk.1.1.2, ⟨hk.1.2, ⟨hk.2, ⟨hk.1.1.1.1, ⟨hk.1.1.1.2.1, hk.1.1.1.2.2⟩⟩⟩⟩⟩)), (km_ HO_366001 (fun _ hk => ⟨hk.1.1.2, ⟨hk.1.2, ⟨hk.2, ⟨hk.1.1.1.1, ⟨hk.1.1.1.2.1, hk.1.1.1.2.2⟩⟩⟩⟩⟩)), (km_ HO_371001 (fun _ hk => ⟨hk.1.1.2, ⟨hk.1.2, ⟨hk.2, ⟨hk.1.1.1.1, ⟨hk.1.1.1.2.1, hk.1.1.1.2.2⟩⟩⟩⟩⟩)), (km_ HO_377001 (fun _ hk => ⟨hk.1.1.2, ⟨hk.1.2, ⟨hk.2, ⟨hk.1.1.1.1, ⟨hk.1.1.1.2.1, hk.1.1.1.2.2⟩⟩⟩⟩⟩)), (bk_ BK343), (bk_ BK344), (bk_ BK360), (bk_ BK365), (bk_ BK370), (bk_ BK376), (bk_ BK409), GW409.out, GE409.out, NB343_409.out, NB409_343.out, NB344_409.out, NB409_344.out, NB360_409.out, NB409_360.out, NB365_409.out, NB409_365.out, NB370_409.out, NB409_370.out, NB376_409.out, NB409_376.out, (bl_ HB)⟩)
               ·skip
                refine box_step ?hg (N := 15) ?hd (cs := #[.int .i64 0, .slice none 0 0]) (t := 26) ?hr ?_; (case hd => rfl); (case hg => rfl); (case hr => first | (go_simp; done) | (go_simp; rfl))
                intro gb409 hg w186 hbox hb
                replace HO_361001 := am_ (Kd.R_below (kr_ HO_361001) hb); replace HO_366001 := am_ (Kd.R_below (kr_ HO_366001) hb); replace HO_371001 := am_ (Kd.R_below (kr_ HO_371001) hb); replace HO_377001 := am_ (Kd.R_below (kr_ HO_377001) hb); replace HO399 := am_ (Kd.R_below (kr_ HO399) hb); have BK409 := am_ (hbox); have GW409 := am_ (gs_ hg HB); have GE409 := am_ (gs_ hg HB); replace HB := am_ (below_step (bl_ HB) hb); have NB343_409 := am_ (nl_ hg BK343); have NB409_343 := am_ (ng_ hg BK343); replace BK343 := am_ (blk_below (bk_ BK343) hb); have NB344_409 := am_ (nl_ hg BK344); have NB409_344 := am_ (ng_ hg BK344); replace BK344 := am_ (blk_below (bk_ BK344) hb); have NB360_409 := am_ (nl_ hg BK360); have NB409_360 := am_ (ng_ hg BK360); replace BK360 := am_ (blk_below (bk_ BK360) hb); have NB365_409 := am_ (nl_ hg BK365); have NB409_365 := am_ (ng_ hg BK365); replace BK365 := am_ (blk_below (bk_ BK365) hb); have NB370_409 := am_ (nl_ hg BK370); have NB409_370 := am_ (ng_ hg BK370); replace BK370 := am_ (blk_below (bk_ BK370) hb); have NB376_409 := am_ (nl_ hg BK376); have NB409_376 := am_ (ng_ hg BK376); replace BK376 := am_ (blk_below (bk_ BK376) hb); clear hb hbox hg
                refine hK.out _ _ ⟨bc_ BK343 0, bc_ BK343 1, bc_ BK344 0, bc_ BK344 1⟩ (fun hHeld => ?_)
                clear hK K
                refine norm_ (a' := ?_) ?_ ?_
                rotate_left
                ·show Act.put _ (some 15) _ = _
                 exact nm_
                refine one_ (i := 3) (N := some 98) #[true, true, true, true, false, false, false, false, true, false, false] rfl rfl (one_of HT_.out (by kernel_rfl)) (by decide) (fun K hK => ?_)
                refine goes_ Tryd.func13 (by kernel_rfl) rfl #[.agg #[.int .i64 a1_0, .slice A1_1 l1_1.length c1_1]] (by rfl) rfl rfl ma_ ?_
                with_reducible refine (laws_toWhole.calls kj107 a1_0 _ _ l1_1 t400 t401 _ ?side1 ?side2 A172.out).mono ?_
                (case side1 => exact cb_ HR1_1 HB)
                (case side2 => exact HC1_1.out)
                rintro e w187 ⟨v402, rfl, ho0, hb⟩
                refine ⟨_, rfl, ?_⟩
                have HO403 := am_ (Kd.R_lower (Kd.R_new' (Kd.R_new' (Kd.R_new' (Kd.R_new' (Kd.R_new' ho0 (Kd.R_lt (kr_ HO_361001))) (Kd.R_lt (kr_ HO_366001))) (Kd.R_lt (kr_ HO_371001))) (Kd.R_lt (kr_ HO_377001))) (Kd.R_lt (kr_ HO399))) (below_size (bl_ HB))); replace HO_361001 := am_ (Kd.R_elder' (kr_ HO_361001) (Kd.R_base ho0) hb); replace HO_366001 := am_ (Kd.R_elder' (kr_ HO_366001) (Kd.R_base ho0) hb); replace HO_371001 := am_ (Kd.R_elder' (kr_ HO_371001) (Kd.R_base ho0) hb); replace HO_377001 := am_ (Kd.R_elder' (kr_ HO_377001) (Kd.R_base ho0) hb); replace HO399 := am_ (Kd.R_elder' (kr_ HO399) (Kd.R_base ho0) hb); replace BK343 := am_ (blk_below (bk_ BK343) hb); replace BK344 := am_ (blk_below (bk_ BK344) hb); replace BK360 := am_ (blk_below (bk_ BK360) hb); replace BK365 := am_ (blk_below (bk_ BK365) hb); replace BK370 := am_ (blk_below (bk_ BK370) hb); replace BK376 := am_ (blk_below (bk_ BK376) hb); replace BK409 := am_ (blk_below (bk_ BK409) hb); replace HB := am_ (below_step (bl_ HB) hb); (try clear hb); (try clear hb2); (try clear hk); (try clear hi); (try clear ho0)
                obtain ⟨Ao188, co188, eo188⟩ := Kd.R_slice HO399.out
                (first | subst eo188 | (injection eo188 with f1_ f2_ f3_; have f4_ := f1_.symm; have f5_ := f3_.symm; clear f1_ f2_ f3_; subst f4_; subst f5_))
                obtain ⟨Ao189, co189, eo189⟩ := Kd.R_slice HO403.out
                (first | subst eo189 | (injection eo189 with f1_ f2_ f3_; have f4_ := f1_.symm; have f5_ := f3_.symm; clear f1_ f2_ f3_; subst f4_; subst f5_))
                refine hK.out _ _ ⟨bc_ BK343 0, bc_ BK343 1, bc_ BK344 0, bc_ BK344 1⟩ (fun hHeld => ?_)
                clear hK K
                refine norm_ (a' := ?_) ?_ ?_
                rotate_left
                ·show Act.put _ (some 98) _ = _
                 exact nm_
                refine one_ (i := 4) (N := some 99) #[true, true, true, true, true, false, false, false, true, false, false] rfl rfl (one_of HT_.out (by kernel_rfl)) (by decide) (fun K hK => ?_)
                refine goes_ Tryd.func23 (by kernel_rfl) rfl #[.agg #[.int .i64 t396, .slice Ao188 t397.length co188], .agg #[.int .i64 t400, .slice Ao189 t401.length co189]] (by rfl) rfl rfl ma_ ?_
                with_reducible refine (impl_CommonOfWholes.calls t396 _ _ t397 t400 _ _ t401 t404 t405 t408 _ ?side1 ?side2 ?side3 ?side4 A173.out).mono ?_
                (case side1 => exact cr_ HO399)
                (case side2 => exact (Kd.R_reads' HO399.out).2.1)
                (case side3 => exact cr_ HO403)
                (case side4 => exact (Kd.R_reads' HO403.out).2.1)
                rintro e w190 ⟨v406, rfl, ho0, hb⟩
                refine ⟨_, rfl, ?_⟩
                have HO407 := am_ (Kd.R_lower (Kd.R_new' (Kd.R_new' (Kd.R_new' (Kd.R_new' (Kd.R_new' (Kd.R_new' ho0 (Kd.R_lt (kr_ HO_361001))) (Kd.R_lt (kr_ HO_366001))) (Kd.R_lt (kr_ HO_371001))) (Kd.R_lt (kr_ HO_377001))) (Kd.R_lt (kr_ HO399))) (Kd.R_lt (kr_ HO403))) (below_size (bl_ HB))); replace HO_361001 := am_ (Kd.R_elder' (kr_ HO_361001) (Kd.R_base ho0) hb); replace HO_366001 := am_ (Kd.R_elder' (kr_ HO_366001) (Kd.R_base ho0) hb); replace HO_371001 := am_ (Kd.R_elder' (kr_ HO_371001) (Kd.R_base ho0) hb); replace HO_377001 := am_ (Kd.R_elder' (kr_ HO_377001) (Kd.R_base ho0) hb); replace HO399 := am_ (Kd.R_elder' (kr_ HO399) (Kd.R_base ho0) hb); replace HO403 := am_ (Kd.R_elder' (kr_ HO403) (Kd.R_base ho0) hb); replace BK343 := am_ (blk_below (bk_ BK343) hb); replace BK344 := am_ (blk_below (bk_ BK344) hb); replace BK360 := am_ (blk_below (bk_ BK360) hb); replace BK365 := am_ (blk_below (bk_ BK365) hb); replace BK370 := am_ (blk_below (bk_ BK370) hb); replace BK376 := am_ (blk_below (bk_ BK376) hb); replace BK409 := am_ (blk_below (bk_ BK409) hb); replace HB := am_ (below_step (bl_ HB) hb); (try clear hb); (try clear hb2); (try clear hk); (try clear hi); (try clear ho0)
                refine hK.out _ _ ⟨bc_ BK343 0, bc_ BK343 1, bc_ BK344 0, bc_ BK344 1⟩ (fun hHeld => ?_)
                clear hK K
                refine norm_ (a' := ?_) ?_ ?_
                rotate_left
                ·show Act.put _ (some 99) _ = _
                 exact nm_
                refine pure_ (i := 5) (N := some 94) (v := ?_) (a' := ?_) #[true, true, true, true, true, true, false, false, true, false, false] rfl rfl (any_of HT_.out (by kernel_rfl)) (fun _ _ _ h => h) (Or.inl ⟨by rfl, ?_⟩) ?_ ?_
                rotate_left
                ·intro w'
                 go_simp
                 with_reducible rfl
                rotate_left
                ·exact nm_
                refine pure_ (i := 6) (N := some 100) (v := ?_) (a' := ?_) #[true, true, true, true, true, true, true, false, true, false, false] rfl rfl (any_of HT_.out (by kernel_rfl)) (fun _ _ _ h => h) (Or.inl ⟨by rfl, ?_⟩) ?_ ?_
                rotate_left
                ·intro w'
                 go_simp
                 with_reducible rfl
                rotate_left
                ·exact nm_
                refine pure_ (i := 7) (N := some 101) (v := ?_) (a' := ?_) #[true, true, true, true, true, true, true, true, true, false, false] rfl rfl (any_of HT_.out (by kernel_rfl)) (fun _ _ _ h => h) (Or.inl ⟨by rfl, ?_⟩) ?_ ?_
                rotate_left
                ·intro w'
                 go_simp
                 with_reducible rfl
                rotate_left
                ·exact nm_
                exact norm_ (by simp only [putAll, Act.put, List.setIfInBounds_toArray, List.set_cons_zero, List.set_cons_succ]) (hCont (.slice Ao188 t397.length co188, .slice Ao189 t401.length co189, v406, gb409) _ ⟨hHeld, (km_ HO399 (fun _ hk => ⟨hk.1.2, ⟨hk.2, ⟨hk.1.1.1.1.1.2, ⟨hk.1.1.1.1.2, ⟨hk.1.1.1.2, hk.1.1.2⟩⟩⟩⟩⟩)), (km_ HO403 (fun _ hk => ⟨hk.1.2, ⟨hk.2, ⟨hk.1.1.1.1.1.2, ⟨hk.1.1.1.1.2, ⟨hk.1.1.1.2, hk.1.1.2⟩⟩⟩⟩⟩)), (km_ HO407 (fun _ hk => ⟨hk.1.2, ⟨hk.2, ⟨hk.1.1.1.1.1.2, ⟨hk.1.1.1.1.2, ⟨hk.1.1.1.2, hk.1.1.2⟩⟩⟩⟩⟩)), (km_ HO_361001 (fun _ hk => ⟨hk.1.1.2, ⟨hk.1.2, ⟨hk.2, ⟨hk.1.1.1.1, ⟨hk.1.1.1.2.1, hk.1.1.1.2.2⟩⟩⟩⟩⟩)), (km_ HO_366001 (fun _ hk => ⟨hk.1.1.2, ⟨hk.1.2, ⟨hk.2, ⟨hk.1.1.1.1, ⟨hk.1.1.1.2.1, hk.1.1.1.2.2⟩⟩⟩⟩⟩)), (km_ HO_371001 (fun _ hk => ⟨hk.1.1.2, ⟨hk.1.2, ⟨hk.2, ⟨hk.1.1.1.1, ⟨hk.1.1.1.2.1, hk.1.1.1.2.2⟩⟩⟩⟩⟩)), (km_ HO_377001 (fun _ hk => ⟨hk.1.1.2, ⟨hk.1.2, ⟨hk.2, ⟨hk.1.1.1.1, ⟨hk.1.1.1.2.1, hk.1.1.1.2.2⟩⟩⟩⟩⟩)), (bk_ BK343), (bk_ BK344), (bk_ BK360), (bk_ BK365), (bk_ BK370), (bk_ BK376), (bk_ BK409), GW409.out, GE409.out, NB343_409.out, NB409_343.out, NB344_409.out, NB409_344.out, NB360_409.out, NB409_360.out, NB365_409.out, NB409_365.out, NB370_409.out, NB409_370.out, NB376_409.out, NB409_376.out, (bl_ HB)⟩)
              ·skip
               refine box_step ?hg (N := 15) ?hd (cs := #[.int .i64 0, .slice none 0 0]) (t := 26) ?hr ?_; (case hd => rfl); (case hg => rfl); (case hr => first | (go_simp; done) | (go_simp; rfl))
               intro gb409 hg w185 hbox hb
               replace HO_361001 := am_ (Kd.R_below (kr_ HO_361001) hb); replace HO_366001 := am_ (Kd.R_below (kr_ HO_366001) hb); replace HO_371001 := am_ (Kd.R_below (kr_ HO_371001) hb); replace HO_377001 := am_ (Kd.R_below (kr_ HO_377001) hb); have BK409 := am_ (hbox); have GW409 := am_ (gs_ hg HB); have GE409 := am_ (gs_ hg HB); replace HB := am_ (below_step (bl_ HB) hb); have NB343_409 := am_ (nl_ hg BK343); have NB409_343 := am_ (ng_ hg BK343); replace BK343 := am_ (blk_below (bk_ BK343) hb); have NB344_409 := am_ (nl_ hg BK344); have NB409_344 := am_ (ng_ hg BK344); replace BK344 := am_ (blk_below (bk_ BK344) hb); have NB360_409 := am_ (nl_ hg BK360); have NB409_360 := am_ (ng_ hg BK360); replace BK360 := am_ (blk_below (bk_ BK360) hb); have NB365_409 := am_ (nl_ hg BK365); have NB409_365 := am_ (ng_ hg BK365); replace BK365 := am_ (blk_below (bk_ BK365) hb); have NB370_409 := am_ (nl_ hg BK370); have NB409_370 := am_ (ng_ hg BK370); replace BK370 := am_ (blk_below (bk_ BK370) hb); have NB376_409 := am_ (nl_ hg BK376); have NB409_376 := am_ (ng_ hg BK376); replace BK376 := am_ (blk_below (bk_ BK376) hb); clear hb hbox hg
               refine hK.out _ _ ⟨bc_ BK343 0, bc_ BK343 1, bc_ BK344 0, bc_ BK344 1⟩ (fun hHeld => ?_)
               clear hK K
               refine norm_ (a' := ?_) ?_ ?_
               rotate_left
               ·show Act.put _ (some 15) _ = _
                exact nm_
               refine one_ (i := 1) (N := some 96) #[true, true, true, false, false, false, false, false, true, false, false] rfl rfl (one_of HT_.out (by kernel_rfl)) (by decide) (fun K hK => ?_)
               refine goes_ Tryd.func13 (by kernel_rfl) rfl #[.agg #[.int .i64 a0_0, .slice A0_1 l0_1.length c0_1]] (by rfl) rfl rfl ma_ ?_
               with_reducible refine (laws_toWhole.calls kj107 a0_0 _ _ l0_1 t396 t397 _ ?side1 ?side2 A171.out).mono ?_
               (case side1 => exact cb_ HR0_1 HB)
               (case side2 => exact HC0_1.out)
               rintro e w186 ⟨v398, rfl, ho0, hb⟩
               refine ⟨_, rfl, ?_⟩
               have HO399 := am_ (Kd.R_lower (Kd.R_new' (Kd.R_new' (Kd.R_new' (Kd.R_new' ho0 (Kd.R_lt (kr_ HO_361001))) (Kd.R_lt (kr_ HO_366001))) (Kd.R_lt (kr_ HO_371001))) (Kd.R_lt (kr_ HO_377001))) (below_size (bl_ HB))); replace HO_361001 := am_ (Kd.R_elder' (kr_ HO_361001) (Kd.R_base ho0) hb); replace HO_366001 := am_ (Kd.R_elder' (kr_ HO_366001) (Kd.R_base ho0) hb); replace HO_371001 := am_ (Kd.R_elder' (kr_ HO_371001) (Kd.R_base ho0) hb); replace HO_377001 := am_ (Kd.R_elder' (kr_ HO_377001) (Kd.R_base ho0) hb); replace BK343 := am_ (blk_below (bk_ BK343) hb); replace BK344 := am_ (blk_below (bk_ BK344) hb); replace BK360 := am_ (blk_below (bk_ BK360) hb); replace BK365 := am_ (blk_below (bk_ BK365) hb); replace BK370 := am_ (blk_below (bk_ BK370) hb); replace BK376 := am_ (blk_below (bk_ BK376) hb); replace BK409 := am_ (blk_below (bk_ BK409) hb); replace HB := am_ (below_step (bl_ HB) hb); (try clear hb); (try clear hb2); (try clear hk); (try clear hi); (try clear ho0)
               refine hK.out _ _ ⟨bc_ BK343 0, bc_ BK343 1, bc_ BK344 0, bc_ BK344 1⟩ (fun hHeld => ?_)
               clear hK K
               refine norm_ (a' := ?_) ?_ ?_
               rotate_left
               ·show Act.put _ (some 96) _ = _
                exact nm_
               refine one_ (i := 3) (N := some 98) #[true, true, true, true, false, false, false, false, true, false, false] rfl rfl (one_of HT_.out (by kernel_rfl)) (by decide) (fun K hK => ?_)
               refine goes_ Tryd.func13 (by kernel_rfl) rfl #[.agg #[.int .i64 a1_0, .slice A1_1 l1_1.length c1_1]] (by rfl) rfl rfl ma_ ?_
               with_reducible refine (laws_toWhole.calls kj107 a1_0 _ _ l1_1 t400 t401 _ ?side1 ?side2 A172.out).mono ?_
               (case side1 => exact cb_ HR1_1 HB)
               (case side2 => exact HC1_1.out)
               rintro e w187 ⟨v402, rfl, ho0, hb⟩
               refine ⟨_, rfl, ?_⟩
               have HO403 := am_ (Kd.R_lower (Kd.R_new' (Kd.R_new' (Kd.R_new' (Kd.R_new' (Kd.R_new' ho0 (Kd.R_lt (kr_ HO_361001))) (Kd.R_lt (kr_ HO_366001))) (Kd.R_lt (kr_ HO_371001))) (Kd.R_lt (kr_ HO_377001))) (Kd.R_lt (kr_ HO399))) (below_size (bl_ HB))); replace HO_361001 := am_ (Kd.R_elder' (kr_ HO_361001) (Kd.R_base ho0) hb); replace HO_366001 := am_ (Kd.R_elder' (kr_ HO_366001) (Kd.R_base ho0) hb); replace HO_371001 := am_ (Kd.R_elder' (kr_ HO_371001) (Kd.R_base ho0) hb); replace HO_377001 := am_ (Kd.R_elder' (kr_ HO_377001) (Kd.R_base ho0) hb); replace HO399 := am_ (Kd.R_elder' (kr_ HO399) (Kd.R_base ho0) hb); replace BK343 := am_ (blk_below (bk_ BK343) hb); replace BK344 := am_ (blk_below (bk_ BK344) hb); replace BK360 := am_ (blk_below (bk_ BK360) hb); replace BK365 := am_ (blk_below (bk_ BK365) hb); replace BK370 := am_ (blk_below (bk_ BK370) hb); replace BK376 := am_ (blk_below (bk_ BK376) hb); replace BK409 := am_ (blk_below (bk_ BK409) hb); replace HB := am_ (below_step (bl_ HB) hb); (try clear hb); (try clear hb2); (try clear hk); (try clear hi); (try clear ho0)
               obtain ⟨Ao188, co188, eo188⟩ := Kd.R_slice HO399.out
               (first | subst eo188 | (injection eo188 with f1_ f2_ f3_; have f4_ := f1_.symm; have f5_ := f3_.symm; clear f1_ f2_ f3_; subst f4_; subst f5_))
               obtain ⟨Ao189, co189, eo189⟩ := Kd.R_slice HO403.out
               (first | subst eo189 | (injection eo189 with f1_ f2_ f3_; have f4_ := f1_.symm; have f5_ := f3_.symm; clear f1_ f2_ f3_; subst f4_; subst f5_))
               refine hK.out _ _ ⟨bc_ BK343 0, bc_ BK343 1, bc_ BK344 0, bc_ BK344 1⟩ (fun hHeld => ?_)
               clear hK K
               refine norm_ (a' := ?_) ?_ ?_
               rotate_left
               ·show Act.put _ (some 98) _ = _
                exact nm_
               refine one_ (i := 4) (N := some 99) #[true, true, true, true, true, false, false, false, true, false, false] rfl rfl (one_of HT_.out (by kernel_rfl)) (by decide) (fun K hK => ?_)
               refine goes_ Tryd.func23 (by kernel_rfl) rfl #[.agg #[.int .i64 t396, .slice Ao188 t397.length co188], .agg #[.int .i64 t400, .slice Ao189 t401.length co189]] (by rfl) rfl rfl ma_ ?_
               with_reducible refine (impl_CommonOfWholes.calls t396 _ _ t397 t400 _ _ t401 t404 t405 t408 _ ?side1 ?side2 ?side3 ?side4 A173.out).mono ?_
               (case side1 => exact cr_ HO399)
               (case side2 => exact (Kd.R_reads' HO399.out).2.1)
               (case side3 => exact cr_ HO403)
               (case side4 => exact (Kd.R_reads' HO403.out).2.1)
               rintro e w190 ⟨v406, rfl, ho0, hb⟩
               refine ⟨_, rfl, ?_⟩
               have HO407 := am_ (Kd.R_lower (Kd.R_new' (Kd.R_new' (Kd.R_new' (Kd.R_new' (Kd.R_new' (Kd.R_new' ho0 (Kd.R_lt (kr_ HO_361001))) (Kd.R_lt (kr_ HO_366001))) (Kd.R_lt (kr_ HO_371001))) (Kd.R_lt (kr_ HO_377001))) (Kd.R_lt (kr_ HO399))) (Kd.R_lt (kr_ HO403))) (below_size (bl_ HB))); replace HO_361001 := am_ (Kd.R_elder' (kr_ HO_361001) (Kd.R_base ho0) hb); replace HO_366001 := am_ (Kd.R_elder' (kr_ HO_366001) (Kd.R_base ho0) hb); replace HO_371001 := am_ (Kd.R_elder' (kr_ HO_371001) (Kd.R_base ho0) hb); replace HO_377001 := am_ (Kd.R_elder' (kr_ HO_377001) (Kd.R_base ho0) hb); replace HO399 := am_ (Kd.R_elder' (kr_ HO399) (Kd.R_base ho0) hb); replace HO403 := am_ (Kd.R_elder' (kr_ HO403) (Kd.R_base ho0) hb); replace BK343 := am_ (blk_below (bk_ BK343) hb); replace BK344 := am_ (blk_below (bk_ BK344) hb); replace BK360 := am_ (blk_below (bk_ BK360) hb); replace BK365 := am_ (blk_below (bk_ BK365) hb); replace BK370 := am_ (blk_below (bk_ BK370) hb); replace BK376 := am_ (blk_below (bk_ BK376) hb); replace BK409 := am_ (blk_below (bk_ BK409) hb); replace HB := am_ (below_step (bl_ HB) hb); (try clear hb); (try clear hb2); (try clear hk); (try clear hi); (try clear ho0)
               refine hK.out _ _ ⟨bc_ BK343 0, bc_ BK343 1, bc_ BK344 0, bc_ BK344 1⟩ (fun hHeld => ?_)
               clear hK K
               refine norm_ (a' := ?_) ?_ ?_
               rotate_left
               ·show Act.put _ (some 99) _ = _
                exact nm_
               refine pure_ (i := 5) (N := some 94) (v := ?_) (a' := ?_) #[true, true, true, true, true, true, false, false, true, false, false] rfl rfl (any_of HT_.out (by kernel_rfl)) (fun _ _ _ h => h) (Or.inl ⟨by rfl, ?_⟩) ?_ ?_
               rotate_left
               ·intro w'
                go_simp
                with_reducible rfl
               rotate_left
               ·exact nm_
               refine pure_ (i := 6) (N := some 100) (v := ?_) (a' := ?_) #[true, true, true, true, true, true, true, false, true, false, false] rfl rfl (any_of HT_.out (by kernel_rfl)) (fun _ _ _ h => h) (Or.inl ⟨by rfl, ?_⟩) ?_ ?_
               rotate_left
               ·intro w'
                go_simp
                with_reducible rfl
               rotate_left
               ·exact nm_
               refine pure_ (i := 7) (N := some 101) (v := ?_) (a' := ?_) #[true, true, true, true, true, true, true, true, true, false, false] rfl rfl (any_of HT_.out (by kernel_rfl)) (fun _ _ _ h => h) (Or.inl ⟨by rfl, ?_⟩) ?_ ?_
               rotate_left
               ·intro w'
                go_simp
                with_reducible rfl
               rotate_left
               ·exact nm_
               exact norm_ (by simp only [putAll, Act.put, List.setIfInBounds_toArray, List.set_cons_zero, List.set_cons_succ]) (hCont (.slice Ao188 t397.length co188, .slice Ao189 t401.length co189, v406, gb409) _ ⟨hHeld, (km_ HO399 (fun _ hk => ⟨hk.1.2, ⟨hk.2, ⟨hk.1.1.1.1.1.2, ⟨hk.1.1.1.1.2, ⟨hk.1.1.1.2, hk.1.1.2⟩⟩⟩⟩⟩)), (km_ HO403 (fun _ hk => ⟨hk.1.2, ⟨hk.2, ⟨hk.1.1.1.1.1.2, ⟨hk.1.1.1.1.2, ⟨hk.1.1.1.2, hk.1.1.2⟩⟩⟩⟩⟩)), (km_ HO407 (fun _ hk => ⟨hk.1.2, ⟨hk.2, ⟨hk.1.1.1.1.1.2, ⟨hk.1.1.1.1.2, ⟨hk.1.1.1.2, hk.1.1.2⟩⟩⟩⟩⟩)), (km_ HO_361001 (fun _ hk => ⟨hk.1.1.2, ⟨hk.1.2, ⟨hk.2, ⟨hk.1.1.1.1, ⟨hk.1.1.1.2.1, hk.1.1.1.2.2⟩⟩⟩⟩⟩)), (km_ HO_366001 (fun _ hk => ⟨hk.1.1.2, ⟨hk.1.2, ⟨hk.2, ⟨hk.1.1.1.1, ⟨hk.1.1.1.2.1, hk.1.1.1.2.2⟩⟩⟩⟩⟩)), (km_ HO_371001 (fun _ hk => ⟨hk.1.1.2, ⟨hk.1.2, ⟨hk.2, ⟨hk.1.1.1.1, ⟨hk.1.1.1.2.1, hk.1.1.1.2.2⟩⟩⟩⟩⟩)), (km_ HO_377001 (fun _ hk => ⟨hk.1.1.2, ⟨hk.1.2, ⟨hk.2, ⟨hk.1.1.1.1, ⟨hk.1.1.1.2.1, hk.1.1.1.2.2⟩⟩⟩⟩⟩)), (bk_ BK343), (bk_ BK344), (bk_ BK360), (bk_ BK365), (bk_ BK370), (bk_ BK376), (bk_ BK409), GW409.out, GE409.out, NB343_409.out, NB409_343.out, NB344_409.out, NB409_344.out, NB360_409.out, NB409_360.out, NB365_409.out, NB409_365.out, NB370_409.out, NB409_370.out, NB376_409.out, NB409_376.out, (bl_ HB)⟩)
             rintro ⟨v398, v402, v406, gb409⟩ w191 ⟨hS_, h0_, h1_, h2_, h3_, h4_, h5_, h6_, h7_, h8_, h9_, h10_, h11_, h12_, h13_, h14_, h15_, h16_, h17_, h18_, h19_, h20_, h21_, h22_, h23_, h24_, h25_, h26_, h27_, h28_⟩
             have n0_ : Aside0 (Kd.R (Kd.int .i64) 2 w191 w.heap.size (fun k_ => some k_ ≠ (v402 : Value).ownBlock ∧ some k_ ≠ (v406 : Value).ownBlock ∧ some k_ ≠ (.slice Ao42 t356.length co42 : Value).ownBlock ∧ some k_ ≠ (.slice Ao52 t389.length co52 : Value).ownBlock ∧ some k_ ≠ (.slice Ao62 t391.length co62 : Value).ownBlock ∧ some k_ ≠ (.slice Ao72 t372.length co72 : Value).ownBlock) v398 t397) := ⟨h0_⟩
             have n1_ : Aside0 (Kd.R (Kd.int .i64) 2 w191 w.heap.size (fun k_ => some k_ ≠ (v398 : Value).ownBlock ∧ some k_ ≠ (v406 : Value).ownBlock ∧ some k_ ≠ (.slice Ao42 t356.length co42 : Value).ownBlock ∧ some k_ ≠ (.slice Ao52 t389.length co52 : Value).ownBlock ∧ some k_ ≠ (.slice Ao62 t391.length co62 : Value).ownBlock ∧ some k_ ≠ (.slice Ao72 t372.length co72 : Value).ownBlock) v402 t401) := ⟨h1_⟩
             have n2_ : Aside0 (Kd.R (Kd.int .i64) 2 w191 w.heap.size (fun k_ => some k_ ≠ (v398 : Value).ownBlock ∧ some k_ ≠ (v402 : Value).ownBlock ∧ some k_ ≠ (.slice Ao42 t356.length co42 : Value).ownBlock ∧ some k_ ≠ (.slice Ao52 t389.length co52 : Value).ownBlock ∧ some k_ ≠ (.slice Ao62 t391.length co62 : Value).ownBlock ∧ some k_ ≠ (.slice Ao72 t372.length co72 : Value).ownBlock) v406 t405) := ⟨h2_⟩
             have n3_ : Aside0 (Kd.R (Kd.int .i64) 2 w191 w.heap.size (fun k_ => some k_ ≠ (v398 : Value).ownBlock ∧ some k_ ≠ (v402 : Value).ownBlock ∧ some k_ ≠ (v406 : Value).ownBlock ∧ some k_ ≠ (.slice Ao52 t389.length co52 : Value).ownBlock ∧ some k_ ≠ (.slice Ao62 t391.length co62 : Value).ownBlock ∧ some k_ ≠ (.slice Ao72 t372.length co72 : Value).ownBlock) (.slice Ao42 t356.length co42) t356) := ⟨h3_⟩
             have n4_ : Aside0 (Kd.R (Kd.int .i64) 2 w191 w.heap.size (fun k_ => some k_ ≠ (v398 : Value).ownBlock ∧ some k_ ≠ (v402 : Value).ownBlock ∧ some k_ ≠ (v406 : Value).ownBlock ∧ some k_ ≠ (.slice Ao42 t356.length co42 : Value).ownBlock ∧ some k_ ≠ (.slice Ao62 t391.length co62 : Value).ownBlock ∧ some k_ ≠ (.slice Ao72 t372.length co72 : Value).ownBlock) (.slice Ao52 t389.length co52) t389) := ⟨h4_⟩
             have n5_ : Aside0 (Kd.R (Kd.int .i64) 2 w191 w.heap.size (fun k_ => some k_ ≠ (v398 : Value).ownBlock ∧ some k_ ≠ (v402 : Value).ownBlock ∧ some k_ ≠ (v406 : Value).ownBlock ∧ some k_ ≠ (.slice Ao42 t356.length co42 : Value).ownBlock ∧ some k_ ≠ (.slice Ao52 t389.length co52 : Value).ownBlock ∧ some k_ ≠ (.slice Ao72 t372.length co72 : Value).ownBlock) (.slice Ao62 t391.length co62) t391) := ⟨h5_⟩
             have n6_ : Aside0 (Kd.R (Kd.int .i64) 2 w191 w.heap.size (fun k_ => some k_ ≠ (v398 : Value).ownBlock ∧ some k_ ≠ (v402 : Value).ownBlock ∧ some k_ ≠ (v406 : Value).ownBlock ∧ some k_ ≠ (.slice Ao42 t356.length co42 : Value).ownBlock ∧ some k_ ≠ (.slice Ao52 t389.length co52 : Value).ownBlock ∧ some k_ ≠ (.slice Ao62 t391.length co62 : Value).ownBlock) (.slice Ao72 t372.length co72) t394) := ⟨h6_⟩
             have n7_ : Aside0 (w191.heap[gb343]? = some (.cells #[.int .i64 a0_0, .slice A0_1 l0_1.length c0_1] 24 (0, 0))) := ⟨h7_⟩
             have n8_ : Aside0 (w191.heap[gb344]? = some (.cells #[.int .i64 a1_0, .slice A1_1 l1_1.length c1_1] 24 (0, 0))) := ⟨h8_⟩
             have n9_ : Aside0 (w191.heap[gb360]? = some (.cells #[.int .i64 t355, .slice Ao42 t356.length co42] 26 (0, 0))) := ⟨h9_⟩
             have n10_ : Aside0 (w191.heap[gb365]? = some (.cells #[.int .i64 t361, .slice Ao52 t389.length co52] 26 (0, 0))) := ⟨h10_⟩
             have n11_ : Aside0 (w191.heap[gb370]? = some (.cells #[.int .i64 t366, .slice Ao62 t391.length co62] 26 (0, 0))) := ⟨h11_⟩
             have n12_ : Aside0 (w191.heap[gb376]? = some (.cells #[.int .i64 t371, .slice Ao72 t372.length co72] 26 (0, 0))) := ⟨h12_⟩
             have n13_ : Aside0 (w191.heap[gb409]? = some (.cells #[.int .i64 0, .slice none 0 0] 26 (0, 0))) := ⟨h13_⟩
             have n14_ : Aside0 (w.heap.size ≤ gb409) := ⟨h14_⟩
             have n15_ : Aside0 (w.heap.size ≤ gb409) := ⟨h15_⟩
             have n16_ : Aside0 (gb343 ≠ gb409) := ⟨h16_⟩
             have n17_ : Aside0 (gb409 ≠ gb343) := ⟨h17_⟩
             have n18_ : Aside0 (gb344 ≠ gb409) := ⟨h18_⟩
             have n19_ : Aside0 (gb409 ≠ gb344) := ⟨h19_⟩
             have n20_ : Aside0 (gb360 ≠ gb409) := ⟨h20_⟩
             have n21_ : Aside0 (gb409 ≠ gb360) := ⟨h21_⟩
             have n22_ : Aside0 (gb365 ≠ gb409) := ⟨h22_⟩
             have n23_ : Aside0 (gb409 ≠ gb365) := ⟨h23_⟩
             have n24_ : Aside0 (gb370 ≠ gb409) := ⟨h24_⟩
             have n25_ : Aside0 (gb409 ≠ gb370) := ⟨h25_⟩
             have n26_ : Aside0 (gb376 ≠ gb409) := ⟨h26_⟩
             have n27_ : Aside0 (gb409 ≠ gb376) := ⟨h27_⟩
             have n28_ : Aside0 (Below w.heap.size w w191) := ⟨h28_⟩
             clear HO_361001 HO_366001 HO_371001 HO_377001 BK343 BK344 BK360 BK365 BK370 BK376 HB h0_ h1_ h2_ h3_ h4_ h5_ h6_ h7_ h8_ h9_ h10_ h11_ h12_ h13_ h14_ h15_ h16_ h17_ h18_ h19_ h20_ h21_ h22_ h23_ h24_ h25_ h26_ h27_ h28_; have HO399 := n0_; have HO403 := n1_; have HO407 := n2_; have HO_361001 := n3_; have HO_366001 := n4_; have HO_371001 := n5_; have HO_377001 := n6_; have BK343 := n7_; have BK344 := n8_; have BK360 := n9_; have BK365 := n10_; have BK370 := n11_; have BK376 := n12_; have BK409 := n13_; have GW409 := n14_; have GE409 := n15_; have NB343_409 := n16_; have NB409_343 := n17_; have NB344_409 := n18_; have NB409_344 := n19_; have NB360_409 := n20_; have NB409_360 := n21_; have NB365_409 := n22_; have NB409_365 := n23_; have NB370_409 := n24_; have NB409_370 := n25_; have NB376_409 := n26_; have NB409_376 := n27_; have HB := n28_; clear n0_ n1_ n2_ n3_ n4_ n5_ n6_ n7_ n8_ n9_ n10_ n11_ n12_ n13_ n14_ n15_ n16_ n17_ n18_ n19_ n20_ n21_ n22_ n23_ n24_ n25_ n26_ n27_ n28_
             have hHeld : w191.cell? ⟨gb343, 0, none⟩ = some (.int .i64 a0_0) ∧ w191.cell? ⟨gb343, 1, none⟩ = some (.slice A0_1 l0_1.length c0_1) ∧ w191.cell? ⟨gb344, 0, none⟩ = some (.int .i64 a1_0) ∧ w191.cell? ⟨gb344, 1, none⟩ = some (.slice A1_1 l1_1.length c1_1) := hS_
             obtain ⟨Ao193, co193, eo193⟩ := Kd.R_slice HO407.out
             (first | subst eo193 | (injection eo193 with f1_ f2_ f3_; have f4_ := f1_.symm; have f5_ := f3_.symm; clear f1_ f2_ f3_; subst f4_; subst f5_))
             refine norm_ (a' := ?_) ?_ ?_
             rotate_left
             ·simp only [putAll, Act.put, List.setIfInBounds_toArray, List.set_cons_zero, List.set_cons_succ]
              rfl
             refine one_ (i := 9) (N := none) #[true, true, true, true, true, true, true, true, true, true, false] rfl rfl (one_of HT_.out (by kernel_rfl)) (by decide) (fun K hK => ?_)
             have hs192 : w191.cell? ⟨gb409, 0, none⟩ = some (.int .i64 0) := bc_ BK409 0
             have hfs192 := blk_frozen BK409.out 0; have hns192_0 := NB343_409.out; have hns192_1 := NB344_409.out; have hns192_2 := NB360_409.out; have hns192_3 := NB365_409.out; have hns192_4 := NB370_409.out; have hns192_5 := NB376_409.out; have hms192_0 := NB409_343.out; have hms192_1 := NB409_344.out; have hms192_2 := NB409_360.out; have hms192_3 := NB409_365.out; have hms192_4 := NB409_370.out; have hms192_5 := NB409_376.out
             have hs194 : w191.cell? ⟨gb409, 1, none⟩ = some (.slice none 0 0) := bc_ BK409 1
             have hfs194 := blk_frozen BK409.out 1; have hns194_0 := NB343_409.out; have hns194_1 := NB344_409.out; have hns194_2 := NB360_409.out; have hns194_3 := NB365_409.out; have hns194_4 := NB370_409.out; have hns194_5 := NB376_409.out; have hms194_0 := NB409_343.out; have hms194_1 := NB409_344.out; have hms194_2 := NB409_360.out; have hms194_3 := NB409_365.out; have hms194_4 := NB409_370.out; have hms194_5 := NB409_376.out
             refine skip_ (w1 := ?_) (by rfl) rfl ?_ ?_
             rotate_left
             ·go_simp
              rfl
             refine hK.out _ _ ⟨((cell_far (p := ⟨gb409, _, none⟩) NB343_409.out _).trans (((cell_far (p := ⟨gb409, _, none⟩) NB343_409.out _).trans (hHeld.1)))), ((cell_far (p := ⟨gb409, _, none⟩) NB343_409.out _).trans (((cell_far (p := ⟨gb409, _, none⟩) NB343_409.out _).trans (hHeld.2.1)))), ((cell_far (p := ⟨gb409, _, none⟩) NB344_409.out _).trans (((cell_far (p := ⟨gb409, _, none⟩) NB344_409.out _).trans (hHeld.2.2.1)))), ((cell_far (p := ⟨gb409, _, none⟩) NB344_409.out _).trans (((cell_far (p := ⟨gb409, _, none⟩) NB344_409.out _).trans (hHeld.2.2.2))))⟩ (fun hHeld => ?_)
             clear hK K
             refine pure_ (i := 10) (N := some 16) (v := ?_) (a' := ?_) #[true, true, true, true, true, true, true, true, true, true, true] rfl rfl (any_of HT_.out (by kernel_rfl)) (fun _ _ _ h => h) (Or.inl ⟨by rfl, ?_⟩) ?_ ?_
             rotate_left
             ·intro w'
              go_simp
              with_reducible rfl
             rotate_left
             ·exact nm_
             refine done_ (done_of HT_.out (by kernel_rfl)) ?_
             go_upto_region 32 with (fail)
             go_cut [110] (fun v110 wc => ∃ (kq : Nat) (x110_173 : Bool), v110 = .bool x110_173 ∧ Aside0 (laws_FnExactCommonOfWholes.j2 kq t393 x110_173 t371 t394 = some r) ∧ Aside0 (kq ≤ kj107) ∧ Aside0 (Kd.R (Kd.int .i64) 2 wc w.heap.size (fun k_ => some k_ ≠ ((.slice Ao52 t389.length co52) : Value).ownBlock ∧ some k_ ≠ ((.slice Ao62 t391.length co62) : Value).ownBlock ∧ some k_ ≠ ((.slice Ao72 t372.length co72) : Value).ownBlock ∧ some k_ ≠ ((.slice Ao193 t405.length co193) : Value).ownBlock) (.slice Ao42 t356.length co42) t356) ∧ Aside0 (Kd.R (Kd.int .i64) 2 wc w.heap.size (fun k_ => some k_ ≠ ((.slice Ao42 t356.length co42) : Value).ownBlock ∧ some k_ ≠ ((.slice Ao62 t391.length co62) : Value).ownBlock ∧ some k_ ≠ ((.slice Ao72 t372.length co72) : Value).ownBlock ∧ some k_ ≠ ((.slice Ao193 t405.length co193) : Value).ownBlock) (.slice Ao52 t389.length co52) t389) ∧ Aside0 (Kd.R (Kd.int .i64) 2 wc w.heap.size (fun k_ => some k_ ≠ ((.slice Ao42 t356.length co42) : Value).ownBlock ∧ some k_ ≠ ((.slice Ao52 t389.length co52) : Value).ownBlock ∧ some k_ ≠ ((.slice Ao72 t372.length co72) : Value).ownBlock ∧ some k_ ≠ ((.slice Ao193 t405.length co193) : Value).ownBlock) (.slice Ao62 t391.length co62) t391) ∧ Aside0 (Kd.R (Kd.int .i64) 2 wc w.heap.size (fun k_ => some k_ ≠ ((.slice Ao42 t356.length co42) : Value).ownBlock ∧ some k_ ≠ ((.slice Ao52 t389.length co52) : Value).ownBlock ∧ some k_ ≠ ((.slice Ao62 t391.length co62) : Value).ownBlock ∧ some k_ ≠ ((.slice Ao193 t405.length co193) : Value).ownBlock) (.slice Ao72 t372.length co72) t394) ∧ Aside0 (Kd.R (Kd.int .i64) 2 wc w.heap.size (fun k_ => some k_ ≠ ((.slice Ao42 t356.length co42) : Value).ownBlock ∧ some k_ ≠ ((.slice Ao52 t389.length co52) : Value).ownBlock ∧ some k_ ≠ ((.slice Ao62 t391.length co62) : Value).ownBlock ∧ some k_ ≠ ((.slice Ao72 t372.length co72) : Value).ownBlock) (.slice Ao193 t405.length co193) t405) ∧ Aside0 (wc.heap[gb343]? = some (.cells #[.int .i64 a0_0, (.slice A0_1 l0_1.length c0_1)] 24 (0, 0))) ∧ Aside0 (wc.heap[gb344]? = some (.cells #[.int .i64 a1_0, (.slice A1_1 l1_1.length c1_1)] 24 (0, 0))) ∧ Aside0 (wc.heap[gb360]? = some (.cells #[.int .i64 t355, (.slice Ao42 t356.length co42)] 26 (0, 0))) ∧ Aside0 (wc.heap[gb365]? = some (.cells #[.int .i64 t361, (.slice Ao52 t389.length co52)] 26 (0, 0))) ∧ Aside0 (wc.heap[gb370]? = some (.cells #[.int .i64 t366, (.slice Ao62 t391.length co62)] 26 (0, 0))) ∧ Aside0 (wc.heap[gb376]? = some (.cells #[.int .i64 t371, (.slice Ao72 t372.length co72)] 26 (0, 0))) ∧ Aside0 (wc.heap[gb409]? = some (.cells #[.int .i64 t404, (.slice Ao193 t405.length co193)] 26 (0, 0))) ∧ Aside0 (Below w.heap.size w wc))
             case first =>
              have H := HC174.out; clear HC174
              replace H := Option.bind_eq_some_iff.mp H
              obtain ⟨t410, A1950, H⟩ := H
              replace H : (if t410 = true then (laws_FnExactCommonOfWholes.j2 kj107 t393 (t408 != t359) t371 t394) else (laws_FnExactCommonOfWholes.j2 kj107 t393 true t371 t394)) = some r := H
              have A195 := Aside0.mk A1950; clear A1950
              by_cases c196 : t410 = true
              ·subst c196
               have H1 : (laws_FnExactCommonOfWholes.j2 kj107 t393 (t408 != t359) t371 t394) = some r := by rw [if_pos rfl] at H; exact H
               clear H; have H := H1; clear H1
               have H' := Aside0.mk H
               clear H; have hnb197 := NB409_343.out; have hnc197 := NB343_409.out; have hnb198 := NB409_344.out; have hnc198 := NB344_409.out; have hnb199 := NB409_360.out; have hnc199 := NB360_409.out; have hnb200 := NB409_365.out; have hnc200 := NB365_409.out; have hnb201 := NB409_370.out; have hnc201 := NB370_409.out; have hnb202 := NB409_376.out; have hnc202 := NB376_409.out
               have hcz203_0 : w191.cell? ⟨gb409, 0, none⟩ = some (.int .i64 0) := bc_ BK409 0
               have hcz203_1 : w191.cell? ⟨gb409, 1, none⟩ = some (.slice none 0 0) := bc_ BK409 1
               have hfz203_0 := blk_frozen BK409.out 0; have hfz203_1 := blk_frozen BK409.out 1; have hnb204 := NB360_343.out; have hnc204 := NB343_360.out; have hnb205 := NB360_344.out; have hnc205 := NB344_360.out; have hnb206 := NB360_365.out; have hnc206 := NB365_360.out; have hnb207 := NB360_370.out; have hnc207 := NB370_360.out; have hnb208 := NB360_376.out; have hnc208 := NB376_360.out
               have hcz209_0 : w191.cell? ⟨gb360, 0, none⟩ = some (.int .i64 t355) := bc_ BK360 0
               have hcz209_1 : w191.cell? ⟨gb360, 1, none⟩ = some (.slice Ao42 t356.length co42) := bc_ BK360 1
               have hfz209_0 := blk_frozen BK360.out 0; have hfz209_1 := blk_frozen BK360.out 1
               go_wp2_with (first | ((with_reducible refine gate_callee (f := 15) rfl ?_); refine goesL_ (some 104) rfl rfl Tryd.func15 (by kernel_rfl) rfl #[.agg #[.int .i64 t404, .slice Ao193 t405.length co193], .agg #[.int .i64 t355, .slice Ao42 t356.length co42]] rfl ma_ ?_; (with_reducible refine (laws_eqWhole.calls kj107 t404 _ _ t405 t355 _ _ t356 true _ ?side1 ?side2 ?side3 ?side4 A195.out).mono ?_); (case side1 => refine (Kd.R_reads' (e := 2) (base := w.heap.size) (ok := fun k_ => (some k_ ≠ (v398 : Value).ownBlock ∧ (some k_ ≠ (v402 : Value).ownBlock ∧ (some k_ ≠ (.slice Ao42 t356.length co42 : Value).ownBlock ∧ (some k_ ≠ (.slice Ao52 t389.length co52 : Value).ownBlock ∧ (some k_ ≠ (.slice Ao62 t391.length co62 : Value).ownBlock ∧ some k_ ≠ (.slice Ao72 t372.length co72 : Value).ownBlock)))))) (n := t405.length) (c := co193) ?_).2.2; exact (rg_ HO407 BK409)); (case side2 => exact (Kd.R_reads' HO407.out).2.1); (case side3 => refine (Kd.R_reads' (e := 2) (base := w.heap.size) (ok := fun k_ => (some k_ ≠ (v398 : Value).ownBlock ∧ (some k_ ≠ (v402 : Value).ownBlock ∧ (some k_ ≠ (.slice Ao193 t405.length co193 : Value).ownBlock ∧ (some k_ ≠ (.slice Ao52 t389.length co52 : Value).ownBlock ∧ (some k_ ≠ (.slice Ao62 t391.length co62 : Value).ownBlock ∧ some k_ ≠ (.slice Ao72 t372.length co72 : Value).ownBlock)))))) (n := t356.length) (c := co42) ?_).2.2; exact (rg_ HO_361001 BK409)); (case side4 => exact (Kd.R_reads' HO_361001.out).2.1); rintro e w210 ⟨rfl, hb⟩; refine ⟨_, rfl, ?_⟩; replace HO_361001 := am_ (Kd.R_below (rg_ HO_361001 BK409) hb); replace HO_366001 := am_ (Kd.R_below (rg_ HO_366001 BK409) hb); replace HO_371001 := am_ (Kd.R_below (rg_ HO_371001 BK409) hb); replace HO_377001 := am_ (Kd.R_below (rg_ HO_377001 BK409) hb); replace HO399 := am_ (Kd.R_below (rg_ HO399 BK409) hb); replace HO403 := am_ (Kd.R_below (rg_ HO403 BK409) hb); replace HO407 := am_ (Kd.R_below (rg_ HO407 BK409) hb); replace BK343 := am_ (blk_below (bk_ BK343) hb); replace BK344 := am_ (blk_below (bk_ BK344) hb); replace BK360 := am_ (blk_below (bk_ BK360) hb); replace BK365 := am_ (blk_below (bk_ BK365) hb); replace BK370 := am_ (blk_below (bk_ BK370) hb); replace BK376 := am_ (blk_below (bk_ BK376) hb); replace BK409 := am_ (blk_below (bp2_ BK409) hb); replace HB := am_ (below_step (bl_ HB) hb); (try clear hb); (try clear hb2); (try clear hk); (try clear hi)))
               go_meet
               case rel => exact ⟨_, ((t408 != t359)), (by first | rfl | (simp; done) | (simp [*]; done)), H', ⟨by have := HJ24.out; have := HJ107.out; first | omega | exact Nat.le_refl _⟩, ⟨by (try simp only [hl366001_107]); (try simp only [hl371001_107]); (with_reducible repeat (first | apply Kd.R_alloc | apply Kd.R_drewN | apply Kd.R_drew)); exact Kd.R_mono HO_361001.out (fun _ hk => ⟨hk.2.2.2.1, ⟨hk.2.2.2.2.1, ⟨hk.2.2.2.2.2, hk.2.2.1⟩⟩⟩)⟩, ⟨by (try simp only [hl366001_107]); (try simp only [hl371001_107]); (with_reducible repeat (first | apply Kd.R_alloc | apply Kd.R_drewN | apply Kd.R_drew)); exact Kd.R_mono HO_366001.out (fun _ hk => ⟨hk.2.2.2.1, ⟨hk.2.2.2.2.1, ⟨hk.2.2.2.2.2, hk.2.2.1⟩⟩⟩)⟩, ⟨by (try simp only [hl366001_107]); (try simp only [hl371001_107]); (with_reducible repeat (first | apply Kd.R_alloc | apply Kd.R_drewN | apply Kd.R_drew)); exact Kd.R_mono HO_371001.out (fun _ hk => ⟨hk.2.2.2.1, ⟨hk.2.2.2.2.1, ⟨hk.2.2.2.2.2, hk.2.2.1⟩⟩⟩)⟩, ⟨by (try simp only [hl366001_107]); (try simp only [hl371001_107]); (with_reducible repeat (first | apply Kd.R_alloc | apply Kd.R_drewN | apply Kd.R_drew)); exact Kd.R_mono HO_377001.out (fun _ hk => ⟨hk.2.2.2.1, ⟨hk.2.2.2.2.1, ⟨hk.2.2.2.2.2, hk.2.2.1⟩⟩⟩)⟩, ⟨by (try simp only [hl366001_107]); (try simp only [hl371001_107]); (with_reducible repeat (first | apply Kd.R_alloc | apply Kd.R_drewN | apply Kd.R_drew)); exact Kd.R_mono HO407.out (fun _ hk => ⟨hk.2.2.1, ⟨hk.2.2.2.1, ⟨hk.2.2.2.2.1, hk.2.2.2.2.2⟩⟩⟩)⟩, ⟨by (try simp only [hl366001_107]); (try simp only [hl371001_107]); (with_reducible repeat (first | refine blk_drewN ?_ _ | refine blk_drew ?_ | refine blk_alloc ?_ _)); exact BK343.out⟩, ⟨by (try simp only [hl366001_107]); (try simp only [hl371001_107]); (with_reducible repeat (first | refine blk_drewN ?_ _ | refine blk_drew ?_ | refine blk_alloc ?_ _)); exact BK344.out⟩, ⟨by (try simp only [hl366001_107]); (try simp only [hl371001_107]); (with_reducible repeat (first | refine blk_drewN ?_ _ | refine blk_drew ?_ | refine blk_alloc ?_ _)); exact BK360.out⟩, ⟨by (try simp only [hl366001_107]); (try simp only [hl371001_107]); (with_reducible repeat (first | refine blk_drewN ?_ _ | refine blk_drew ?_ | refine blk_alloc ?_ _)); exact BK365.out⟩, ⟨by (try simp only [hl366001_107]); (try simp only [hl371001_107]); (with_reducible repeat (first | refine blk_drewN ?_ _ | refine blk_drew ?_ | refine blk_alloc ?_ _)); exact BK370.out⟩, ⟨by (try simp only [hl366001_107]); (try simp only [hl371001_107]); (with_reducible repeat (first | refine blk_drewN ?_ _ | refine blk_drew ?_ | refine blk_alloc ?_ _)); exact BK376.out⟩, ⟨by (try simp only [hl366001_107]); (try simp only [hl371001_107]); (with_reducible repeat (first | refine blk_drewN ?_ _ | refine blk_drew ?_ | refine blk_alloc ?_ _)); exact BK409.out⟩, ⟨bl_ HB⟩⟩
              ·replace c196 := Bool.eq_false_iff.mpr c196
               subst c196
               have H1 : (laws_FnExactCommonOfWholes.j2 kj107 t393 true t371 t394) = some r := by rw [if_neg (show ¬ (false = true) by decide)] at H; exact H
               clear H; have H := H1; clear H1
               have H' := Aside0.mk H
               clear H; have hnb211 := NB409_343.out; have hnc211 := NB343_409.out; have hnb212 := NB409_344.out; have hnc212 := NB344_409.out; have hnb213 := NB409_360.out; have hnc213 := NB360_409.out; have hnb214 := NB409_365.out; have hnc214 := NB365_409.out; have hnb215 := NB409_370.out; have hnc215 := NB370_409.out; have hnb216 := NB409_376.out; have hnc216 := NB376_409.out
               have hcz217_0 : w191.cell? ⟨gb409, 0, none⟩ = some (.int .i64 0) := bc_ BK409 0
               have hcz217_1 : w191.cell? ⟨gb409, 1, none⟩ = some (.slice none 0 0) := bc_ BK409 1
               have hfz217_0 := blk_frozen BK409.out 0; have hfz217_1 := blk_frozen BK409.out 1; have hnb218 := NB360_343.out; have hnc218 := NB343_360.out; have hnb219 := NB360_344.out; have hnc219 := NB344_360.out; have hnb220 := NB360_365.out; have hnc220 := NB365_360.out; have hnb221 := NB360_370.out; have hnc221 := NB370_360.out; have hnb222 := NB360_376.out; have hnc222 := NB376_360.out
               have hcz223_0 : w191.cell? ⟨gb360, 0, none⟩ = some (.int .i64 t355) := bc_ BK360 0
               have hcz223_1 : w191.cell? ⟨gb360, 1, none⟩ = some (.slice Ao42 t356.length co42) := bc_ BK360 1
               have hfz223_0 := blk_frozen BK360.out 0; have hfz223_1 := blk_frozen BK360.out 1
               go_wp2_with (first | ((with_reducible refine gate_callee (f := 15) rfl ?_); refine goesL_ (some 104) rfl rfl Tryd.func15 (by kernel_rfl) rfl #[.agg #[.int .i64 t404, .slice Ao193 t405.length co193], .agg #[.int .i64 t355, .slice Ao42 t356.length co42]] rfl ma_ ?_; (with_reducible refine (laws_eqWhole.calls kj107 t404 _ _ t405 t355 _ _ t356 false _ ?side1 ?side2 ?side3 ?side4 A195.out).mono ?_); (case side1 => refine (Kd.R_reads' (e := 2) (base := w.heap.size) (ok := fun k_ => (some k_ ≠ (v398 : Value).ownBlock ∧ (some k_ ≠ (v402 : Value).ownBlock ∧ (some k_ ≠ (.slice Ao42 t356.length co42 : Value).ownBlock ∧ (some k_ ≠ (.slice Ao52 t389.length co52 : Value).ownBlock ∧ (some k_ ≠ (.slice Ao62 t391.length co62 : Value).ownBlock ∧ some k_ ≠ (.slice Ao72 t372.length co72 : Value).ownBlock)))))) (n := t405.length) (c := co193) ?_).2.2; exact (rg_ HO407 BK409)); (case side2 => exact (Kd.R_reads' HO407.out).2.1); (case side3 => refine (Kd.R_reads' (e := 2) (base := w.heap.size) (ok := fun k_ => (some k_ ≠ (v398 : Value).ownBlock ∧ (some k_ ≠ (v402 : Value).ownBlock ∧ (some k_ ≠ (.slice Ao193 t405.length co193 : Value).ownBlock ∧ (some k_ ≠ (.slice Ao52 t389.length co52 : Value).ownBlock ∧ (some k_ ≠ (.slice Ao62 t391.length co62 : Value).ownBlock ∧ some k_ ≠ (.slice Ao72 t372.length co72 : Value).ownBlock)))))) (n := t356.length) (c := co42) ?_).2.2; exact (rg_ HO_361001 BK409)); (case side4 => exact (Kd.R_reads' HO_361001.out).2.1); rintro e w224 ⟨rfl, hb⟩; refine ⟨_, rfl, ?_⟩; replace HO_361001 := am_ (Kd.R_below (rg_ HO_361001 BK409) hb); replace HO_366001 := am_ (Kd.R_below (rg_ HO_366001 BK409) hb); replace HO_371001 := am_ (Kd.R_below (rg_ HO_371001 BK409) hb); replace HO_377001 := am_ (Kd.R_below (rg_ HO_377001 BK409) hb); replace HO399 := am_ (Kd.R_below (rg_ HO399 BK409) hb); replace HO403 := am_ (Kd.R_below (rg_ HO403 BK409) hb); replace HO407 := am_ (Kd.R_below (rg_ HO407 BK409) hb); replace BK343 := am_ (blk_below (bk_ BK343) hb); replace BK344 := am_ (blk_below (bk_ BK344) hb); replace BK360 := am_ (blk_below (bk_ BK360) hb); replace BK365 := am_ (blk_below (bk_ BK365) hb); replace BK370 := am_ (blk_below (bk_ BK370) hb); replace BK376 := am_ (blk_below (bk_ BK376) hb); replace BK409 := am_ (blk_below (bp2_ BK409) hb); replace HB := am_ (below_step (bl_ HB) hb); (try clear hb); (try clear hb2); (try clear hk); (try clear hi)))
               go_meet
               case rel => exact ⟨_, (true), (by first | rfl | (simp; done) | (simp [*]; done)), H', ⟨by have := HJ24.out; have := HJ107.out; first | omega | exact Nat.le_refl _⟩, ⟨by (try simp only [hl366001_107]); (try simp only [hl371001_107]); (with_reducible repeat (first | apply Kd.R_alloc | apply Kd.R_drewN | apply Kd.R_drew)); exact Kd.R_mono HO_361001.out (fun _ hk => ⟨hk.2.2.2.1, ⟨hk.2.2.2.2.1, ⟨hk.2.2.2.2.2, hk.2.2.1⟩⟩⟩)⟩, ⟨by (try simp only [hl366001_107]); (try simp only [hl371001_107]); (with_reducible repeat (first | apply Kd.R_alloc | apply Kd.R_drewN | apply Kd.R_drew)); exact Kd.R_mono HO_366001.out (fun _ hk => ⟨hk.2.2.2.1, ⟨hk.2.2.2.2.1, ⟨hk.2.2.2.2.2, hk.2.2.1⟩⟩⟩)⟩, ⟨by (try simp only [hl366001_107]); (try simp only [hl371001_107]); (with_reducible repeat (first | apply Kd.R_alloc | apply Kd.R_drewN | apply Kd.R_drew)); exact Kd.R_mono HO_371001.out (fun _ hk => ⟨hk.2.2.2.1, ⟨hk.2.2.2.2.1, ⟨hk.2.2.2.2.2, hk.2.2.1⟩⟩⟩)⟩, ⟨by (try simp only [hl366001_107]); (try simp only [hl371001_107]); (with_reducible repeat (first | apply Kd.R_alloc | apply Kd.R_drewN | apply Kd.R_drew)); exact Kd.R_mono HO_377001.out (fun _ hk => ⟨hk.2.2.2.1, ⟨hk.2.2.2.2.1, ⟨hk.2.2.2.2.2, hk.2.2.1⟩⟩⟩)⟩, ⟨by (try simp only [hl366001_107]); (try simp only [hl371001_107]); (with_reducible repeat (first | apply Kd.R_alloc | apply Kd.R_drewN | apply Kd.R_drew)); exact Kd.R_mono HO407.out (fun _ hk => ⟨hk.2.2.1, ⟨hk.2.2.2.1, ⟨hk.2.2.2.2.1, hk.2.2.2.2.2⟩⟩⟩)⟩, ⟨by (try simp only [hl366001_107]); (try simp only [hl371001_107]); (with_reducible repeat (first | refine blk_drewN ?_ _ | refine blk_drew ?_ | refine blk_alloc ?_ _)); exact BK343.out⟩, ⟨by (try simp only [hl366001_107]); (try simp only [hl371001_107]); (with_reducible repeat (first | refine blk_drewN ?_ _ | refine blk_drew ?_ | refine blk_alloc ?_ _)); exact BK344.out⟩, ⟨by (try simp only [hl366001_107]); (try simp only [hl371001_107]); (with_reducible repeat (first | refine blk_drewN ?_ _ | refine blk_drew ?_ | refine blk_alloc ?_ _)); exact BK360.out⟩, ⟨by (try simp only [hl366001_107]); (try simp only [hl371001_107]); (with_reducible repeat (first | refine blk_drewN ?_ _ | refine blk_drew ?_ | refine blk_alloc ?_ _)); exact BK365.out⟩, ⟨by (try simp only [hl366001_107]); (try simp only [hl371001_107]); (with_reducible repeat (first | refine blk_drewN ?_ _ | refine blk_drew ?_ | refine blk_alloc ?_ _)); exact BK370.out⟩, ⟨by (try simp only [hl366001_107]); (try simp only [hl371001_107]); (with_reducible repeat (first | refine blk_drewN ?_ _ | refine blk_drew ?_ | refine blk_alloc ?_ _)); exact BK376.out⟩, ⟨by (try simp only [hl366001_107]); (try simp only [hl371001_107]); (with_reducible repeat (first | refine blk_drewN ?_ _ | refine blk_drew ?_ | refine blk_alloc ?_ _)); exact BK409.out⟩, ⟨bl_ HB⟩⟩
             case rest =>
              clear HC174; try clear c1; try clear c2; try clear p2; try clear c13; try clear c15; try clear c19; try clear c20; try clear c21; try clear c22; try clear c23; try clear c196; try clear c197; try clear c198; try clear c199; try clear c200; try clear c201; try clear c202; try clear c204; try clear c205; try clear c206; try clear c207; try clear c208; try clear c211; try clear c212; try clear c213; try clear c214; try clear c215; try clear c216; try clear c218; try clear c219; try clear c220; try clear c221; try clear c222; try clear hcz203_0; try clear hcz203_1; try clear hcz209_0; try clear hcz209_1; try clear hcz217_0; try clear hcz217_1; try clear hcz223_0; try clear hcz223_1; try clear hfz203_0; try clear hfz203_1; try clear hfz209_0; try clear hfz209_1; try clear hfz217_0; try clear hfz217_1; try clear hfz223_0; try clear hfz223_1
              obtain ⟨kq, x110_173, rfl, HA, HJ173, HO_361001, HO_366001, HO_371001, HO_377001, HO_410001, BK343, BK344, BK360, BK365, BK370, BK376, BK409, HB⟩ := hcut
              have hl377001_173 := (Kd.R_reads' HO_377001.out).1
              rw [hl377001_173] at HO_377001
              (try simp only [hl377001_173])
              (try simp only [hl377001_173] at BK343)
              (try simp only [hl377001_173] at BK344)
              (try simp only [hl377001_173] at BK360)
              (try simp only [hl377001_173] at BK365)
              (try simp only [hl377001_173] at BK370)
              (try simp only [hl377001_173] at BK376)
              (try simp only [hl377001_173] at BK409)
              (try simp only [hl377001_173] at HO_361001)
              (try simp only [hl377001_173] at HO_366001)
              (try simp only [hl377001_173] at HO_371001)
              (try simp only [hl377001_173] at HO_410001)
              cases kq with
              | zero => exact absurd HA.out (by simp [laws_FnExactCommonOfWholes.j2])
              | succ kj173 =>
               have H := HA.out; clear HA
               simp only [laws_FnExactCommonOfWholes.j2] at H
               by_cases c225 : x110_173 = true
               ·subst c225
                have H1 : (some false) = some r := by rw [if_pos rfl] at H; exact H
                clear H; have H := H1; clear H1; obtain rfl := Option.some.inj H; exact absurd hrt (by decide)
               ·replace c225 := Bool.eq_false_iff.mpr c225
                subst c225
                have H1 : ((laws_heldWhole.f kj173 t371 t394 1).bind fun t411 => (if t411 < 0 then (some false) else (if t411 = t393 then (some true) else (some false)))) = some r := by rw [if_neg (show ¬ (false = true) by decide)] at H; exact H
                clear H; have H := H1; clear H1
                replace H := Option.bind_eq_some_iff.mp H
                obtain ⟨t411, A2260, H⟩ := H
                replace H : (if t411 < 0 then (some false) else (if t411 = t393 then (some true) else (some false))) = some r := H
                have A226 := Aside0.mk A2260; clear A2260
                by_cases c227 : t411 < 0
                ·rw [if_pos c227] at H
                 have c227b0 : decide (t411 < 0) = true := decide_eq_true c227
                 clear c227; obtain rfl := Option.some.inj H; exact absurd hrt (by decide)
                ·rw [if_neg c227] at H
                 have c227b0 : decide (t411 < 0) = false := decide_eq_false c227
                 clear c227
                 by_cases c236 : t411 = t393
                 ·rw [if_pos c236] at H
                  have c236b0 : (t411 == t393) = true := beq_iff_eq.mpr c236
                  have c236b1 : (t411 != t393) = false := bne_eq_false_iff_eq.mpr c236
                  clear c236; obtain rfl := Option.some.inj H; have hnb237 := NB376_343.out; have hnc237 := NB343_376.out; have hnb238 := NB376_344.out; have hnc238 := NB344_376.out; have hnb239 := NB376_360.out; have hnc239 := NB360_376.out; have hnb240 := NB376_365.out; have hnc240 := NB365_376.out; have hnb241 := NB376_370.out; have hnc241 := NB370_376.out; have hnb242 := NB376_409.out; have hnc242 := NB409_376.out
                  have hcz243_0 : wc.cell? ⟨gb376, 0, none⟩ = some (.int .i64 t371) := bc_ BK376 0
                  have hcz243_1 : wc.cell? ⟨gb376, 1, none⟩ = some (.slice Ao72 t394.length co72) := bc_ BK376 1
                  have hfz243_0 := blk_frozen BK376.out 0; have hfz243_1 := blk_frozen BK376.out 1
                  go_wp2_with (first | ((with_reducible refine gate_callee (f := 17) rfl ?_); refine goesL_ (some 113) rfl rfl Tryd.func17 (by kernel_rfl) rfl #[.agg #[.int .i64 t371, .slice Ao72 t394.length co72], .int .i64 1] rfl ma_ ?_; (with_reducible refine (laws_heldWhole.calls kj173 t371 _ _ t394 1 t411 _ ?side1 ?side2 A226.out).mono ?_); (case side1 => exact cr_ HO_377001); (case side2 => exact (Kd.R_reads' HO_377001.out).2.1); rintro e w244 ⟨rfl, hb⟩; refine ⟨_, rfl, ?_⟩; replace HO_361001 := am_ (Kd.R_below (kr_ HO_361001) hb); replace HO_366001 := am_ (Kd.R_below (kr_ HO_366001) hb); replace HO_371001 := am_ (Kd.R_below (kr_ HO_371001) hb); replace HO_377001 := am_ (Kd.R_below (kr_ HO_377001) hb); replace HO_410001 := am_ (Kd.R_below (kr_ HO_410001) hb); replace BK343 := am_ (blk_below (bk_ BK343) hb); replace BK344 := am_ (blk_below (bk_ BK344) hb); replace BK360 := am_ (blk_below (bk_ BK360) hb); replace BK365 := am_ (blk_below (bk_ BK365) hb); replace BK370 := am_ (blk_below (bk_ BK370) hb); replace BK376 := am_ (blk_below (bk_ BK376) hb); replace BK409 := am_ (blk_below (bk_ BK409) hb); replace HB := am_ (below_step (bl_ HB) hb); (try clear hb); (try clear hb2); (try clear hk); (try clear hi)))
                  go_ret
                  exact ⟨by first | rfl | (simp [errW_none, errW_some] <;> rfl) | (simp [*, errW_none, errW_some] <;> rfl), bl_ HB⟩
                 ·rw [if_neg c236] at H
                  have c236b0 : (t411 == t393) = false := beq_eq_false_iff_ne.mpr c236
                  have c236b1 : (t411 != t393) = true := bne_iff_ne.mpr c236
                  obtain rfl := Option.some.inj H; exact absurd hrt (by decide)
            ·rw [if_neg c170] at H
             have c170b0 : (t395 == t393) = false := beq_eq_false_iff_ne.mpr c170
             have c170b1 : (t395 != t393) = true := bne_iff_ne.mpr c170
             obtain rfl := Option.some.inj H; exact absurd hrt (by decide)
       ·replace c105 := Bool.eq_false_iff.mpr c105
        subst c105
        have H1 : (some false) = some r := by rw [if_neg (show ¬ (false = true) by decide)] at H; exact H
        clear H; have H := H1; clear H1; obtain rfl := Option.some.inj H; exact absurd hrt (by decide)
      ·replace c102 := Bool.eq_false_iff.mpr c102
       subst c102
       have H1 : (some false) = some r := by rw [if_neg (show ¬ (false = true) by decide)] at H; exact H
       clear H; have H := H1; clear H1; obtain rfl := Option.some.inj H; exact absurd hrt (by decide)

end Go.Proofs.YtghhphndbbefjaaDoor.X
