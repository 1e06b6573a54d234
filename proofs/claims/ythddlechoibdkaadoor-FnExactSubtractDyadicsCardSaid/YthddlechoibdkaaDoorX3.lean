/- Functions of the program as plain Lean functions, each with a proof that its call does what that function says. Printed by a program over the kit's print; conditions stand in each contract. -/
import Derived.Test.YthddlechoibdkaaDoorSq
import Derived.Test.YthddlechoibdkaaDoorX0
import Derived.Test.YthddlechoibdkaaDoorX1
import Derived.Test.YthddlechoibdkaaDoorX2
namespace Go.Proofs.YthddlechoibdkaaDoor.X
open Go.RowKit Go.Proofs.YthddlechoibdkaaDoorW.PrintWords Go.Proofs.YthddlechoibdkaaDoorW.PrintLast Go.Proofs.YthddlechoibdkaaDoorW.PrintMore Go.Proofs.YthddlechoibdkaaDoor.Sq
attribute [local go_sem] max2_int min2_int max_two min_two max_three min_three max_four min_four   -- for this text's walks alone
set_option linter.unusedVariables false
set_option linter.unusedSimpArgs false

/-! ### spec_l03Add: function 38 -/
def spec_l03Add.f (k : Nat) (a0_0 : Int) (l0_1 : List Int) (a0_2 : Int) (a1_0 : Int) (l1_1 : List Int) (a1_2 : Int) : Option (Int × List Int × Int) := if a0_0 = 0 then ((spec_l03Make.f k a1_0 l1_1 a1_2).bind fun bt293 => (some (bt293.1, bt293.2.1, bt293.2.2))) else (if a1_0 = 0 then ((spec_l03Make.f k a0_0 l0_1 a0_2).bind fun bt298 => (some (bt298.1, bt298.2.1, bt298.2.2))) else ((spec_l02Left.f k a0_0 l0_1 (wrap64 (a0_2 - (mn a0_2 a1_2)))).bind fun bt303 => ((spec_l02Left.f k a1_0 l1_1 (wrap64 (a1_2 - (mn a0_2 a1_2)))).bind fun bt307 => ((spec_l02Add.f k bt303.1 bt303.2 bt307.1 bt307.2).bind fun bt311 => ((spec_l03Make.f k bt311.1 bt311.2 (mn a0_2 a1_2)).bind fun bt315 => (some (bt315.1, bt315.2.1, bt315.2.2)))))))
theorem spec_l03Add.mono : ∀ a0 a1 a2 a3 a4 a5 k, LeO (spec_l03Add.f k a0 a1 a2 a3 a4 a5) (spec_l03Add.f (k + 1) a0 a1 a2 a3 a4 a5) := by
  intro a0 a1 a2 a3 a4 a5 k
  unfold spec_l03Add.f
  repeat' first
      | (with_reducible exact spec_l02Add.mono _ _ _ _ _)
      | (with_reducible exact spec_l02Left.mono _ _ _ _)
      | (with_reducible exact spec_l03Make.mono _ _ _ _)
      | (with_reducible exact LeO.refl _)
      | (with_reducible exact LeO.none _)
      | (with_reducible refine LeO.ite ?_ ?_)
      | (with_reducible refine LeO.bind ?_ (fun _ => ?_))
      | exact spec_l02Add.mono _ _ _ _ _
      | exact spec_l02Left.mono _ _ _ _
      | exact spec_l03Make.mono _ _ _ _
      | exact LeO.none _
      | refine LeO.ite ?_ ?_
      | refine LeO.bind ?_ (fun _ => ?_)
def spec_l03Add.T6 : Bool × List (List Nat × List Nat) := (true, [([], []), ([0], [0]), ([], []), ([2], [2]), ([], []), ([3, 4], [3, 4]), ([1, 5], [1, 5]), ([], []), ([7], [7]), ([], []), ([9], [9]), ([], []), ([10, 11], [10, 11]), ([8, 12, 6], [8, 12]), ([6, 13, 13], [6, 13]), ([], []), ([14, 15, 14], [14, 15]), ([16, 16, 0, 1, 2, 3, 4, 5, 6, 7, 8, 9, 10, 11, 12, 13, 14, 15, 16], [16])])
def spec_l03Add.B6 : List Nat := [0, 1, 0, 4, 0, 28, 63, 0, 128, 0, 512, 0, 3584, 8191, 16383, 0, 65535, 131071]
theorem spec_l03Add.tab6 : rtab .any (opsOf Tryd.f38 6) = spec_l03Add.T6 := by kernel_rfl
theorem spec_l03Add.bits6 : waitsOk spec_l03Add.T6.2 spec_l03Add.B6 = true := by kernel_rfl
set_option maxHeartbeats 8000000 in
set_option maxRecDepth 100000 in
theorem spec_l03Add.calls (k : Nat) (a0_0 : Int) (A0_1 : Option Addr) (c0_1 : Nat) (l0_1 : List Int) (a0_2 : Int) (a1_0 : Int) (A1_1 : Option Addr) (c1_1 : Nat) (l1_1 : List Int) (a1_2 : Int) (r1 : Int) (r2 : List Int) (r3 : Int) (w : World) (hr0_1 : Kd.C (Kd.int .i64) w A0_1 l0_1.length l0_1) (hc0_1 : l0_1.length ≤ c0_1) (hr1_1 : Kd.C (Kd.int .i64) w A1_1 l1_1.length l1_1) (hc1_1 : l1_1.length ≤ c1_1) (h : spec_l03Add.f k a0_0 l0_1 a0_2 a1_0 l1_1 a1_2 = some (r1, r2, r3)) :
  Calls Tryd.prog 38 #[.agg #[.int .i64 a0_0, .slice A0_1 l0_1.length c0_1, .int .i64 a0_2], .agg #[.int .i64 a1_0, .slice A1_1 l1_1.length c1_1, .int .i64 a1_2]] w fun e w' => ∃ v1_ : Value, e = .returned (.agg #[.int .i64 r1, v1_, .int .i64 r3]) ∧ Kd.R (Kd.int .i64) 2 w' w.heap.size (fun _ => True) v1_ r2 ∧ Below w.heap.size w w' := by
 have hu30 := Tryd.underlying30; have hu28 := Tryd.underlying28; have HR0_1 := Aside0.mk hr0_1; have HC0_1 := Aside0.mk hc0_1; clear hr0_1 hc0_1; have HR1_1 := Aside0.mk hr1_1; have HC1_1 := Aside0.mk hc1_1; clear hr1_1 hc1_1; have HB := am_ (Below.refl w.heap.size w)
 have H : (if a0_0 = 0 then ((spec_l03Make.f k a1_0 l1_1 a1_2).bind fun bt293 => (some (bt293.1, bt293.2.1, bt293.2.2))) else (if a1_0 = 0 then ((spec_l03Make.f k a0_0 l0_1 a0_2).bind fun bt298 => (some (bt298.1, bt298.2.1, bt298.2.2))) else ((spec_l02Left.f k a0_0 l0_1 (wrap64 (a0_2 - (mn a0_2 a1_2)))).bind fun bt303 => ((spec_l02Left.f k a1_0 l1_1 (wrap64 (a1_2 - (mn a0_2 a1_2)))).bind fun bt307 => ((spec_l02Add.f k bt303.1 bt303.2 bt307.1 bt307.2).bind fun bt311 => ((spec_l03Make.f k bt311.1 bt311.2 (mn a0_2 a1_2)).bind fun bt315 => (some (bt315.1, bt315.2.1, bt315.2.2)))))))) = some (r1, r2, r3) := h
 clear h
 by_cases c3 : a0_0 = 0
 ·rw [if_pos c3] at H
  have c3b0 : (a0_0 == 0) = true := beq_iff_eq.mpr c3
  have c3b1 : (a0_0 != 0) = false := bne_eq_false_iff_eq.mpr c3
  clear c3
  replace H := Option.bind_eq_some_iff.mp H
  obtain ⟨⟨t293, t294, t297⟩, A40, H⟩ := H
  replace H : (some (t293, t294, t297)) = some (r1, r2, r3) := H
  have A4 := Aside0.mk A40; clear A40
  simp only [Option.some.injEq, Prod.mk.injEq] at H
  obtain ⟨rfl, rfl, rfl⟩ := H
  go_enter Tryd.func38, Tryd.ntmps38
  go_wp2_with (first | ((with_reducible refine gate_dst (N := 2) rfl ?_); refine box_event ?hg (N := 2) ?hd (cs := #[.int .i64 a0_0, .slice A0_1 l0_1.length c0_1, .int .i64 a0_2]) (t := 30) ?hr ?_; (case hd => rfl); (case hg => rfl); (case hr => first | (go_simp; done) | (go_simp; rfl)); intro gb290 hg w5 hbox hb; have BK290 := am_ (hbox); have GW290 := am_ (gs_ hg HB); have GE290 := am_ (gs_ hg HB); replace HB := am_ (below_step (bl_ HB) hb); clear hb hbox hg) | ((with_reducible refine gate_dst (N := 3) rfl ?_); refine box_event ?hg (N := 3) ?hd (cs := #[.int .i64 a1_0, .slice A1_1 l1_1.length c1_1, .int .i64 a1_2]) (t := 30) ?hr ?_; (case hd => rfl); (case hg => rfl); (case hr => first | (go_simp; done) | (go_simp; rfl)); intro gb291 hg w6 hbox hb; have BK291 := am_ (hbox); have GW291 := am_ (gs_ hg HB); have GE291 := am_ (gs_ hg HB); have NB290_291 := am_ (nl_ hg BK290); have NB291_290 := am_ (ng_ hg BK290); replace BK290 := am_ (blk_below (bk_ BK290) hb); replace HB := am_ (below_step (bl_ HB) hb); clear hb hbox hg) | ((with_reducible refine gate_dst (N := 4) rfl ?_); refine box_event ?hg (N := 4) ?hd (cs := #[.int .i64 0, .slice none 0 0, .int .i64 0]) (t := 30) ?hr ?_; (case hd => rfl); (case hg => rfl); (case hr => first | (go_simp; done) | (go_simp; rfl)); intro gb292 hg w7 hbox hb; have BK292 := am_ (hbox); have GW292 := am_ (gs_ hg HB); have GE292 := am_ (gs_ hg HB); have NB290_292 := am_ (nl_ hg BK290); have NB292_290 := am_ (ng_ hg BK290); have NB291_292 := am_ (nl_ hg BK291); have NB292_291 := am_ (ng_ hg BK291); replace BK290 := am_ (blk_below (bk_ BK290) hb); replace BK291 := am_ (blk_below (bk_ BK291) hb); replace HB := am_ (below_step (bl_ HB) hb); clear hb hbox hg; have hnb8 := NB290_291.out; have hnc8 := NB291_290.out; have hnb9 := NB290_292.out; have hnc9 := NB292_290.out; have hcz10_0 : w7.cell? ⟨gb290, 0, none⟩ = some (.int .i64 a0_0) := bc_ BK290 0; have hcz10_1 : w7.cell? ⟨gb290, 1, none⟩ = some (.slice A0_1 l0_1.length c0_1) := bc_ BK290 1; have hcz10_2 : w7.cell? ⟨gb290, 2, none⟩ = some (.int .i64 a0_2) := bc_ BK290 2; have hfz10_0 := blk_frozen BK290.out 0; have hfz10_1 := blk_frozen BK290.out 1; have hfz10_2 := blk_frozen BK290.out 2; have hnb11 := NB291_292.out; have hnc11 := NB292_291.out; have hcz12_0 : w7.cell? ⟨gb291, 0, none⟩ = some (.int .i64 a1_0) := bc_ BK291 0; have hcz12_1 : w7.cell? ⟨gb291, 1, none⟩ = some (.slice A1_1 l1_1.length c1_1) := bc_ BK291 1; have hcz12_2 : w7.cell? ⟨gb291, 2, none⟩ = some (.int .i64 a1_2) := bc_ BK291 2; have hfz12_0 := blk_frozen BK291.out 0; have hfz12_1 := blk_frozen BK291.out 1; have hfz12_2 := blk_frozen BK291.out 2) | ((with_reducible refine gate_callee (f := 56) rfl ?_); refine goesL_ (some 14) rfl rfl Tryd.func56 (by kernel_rfl) rfl #[.agg #[.int .i64 a1_0, .slice A1_1 l1_1.length c1_1], .int .i64 a1_2] rfl ma_ ?_; (with_reducible refine (spec_l03Make.calls k a1_0 _ _ l1_1 a1_2 t293 t294 t297 _ ?side1 ?side2 A4.out).mono ?_); (case side1 => exact cb_ HR1_1 HB); (case side2 => exact HC1_1.out); rintro e w13 ⟨v295, rfl, ho0, hb⟩; refine ⟨_, rfl, ?_⟩; have HO296 := am_ (Kd.R_lower ho0 (below_size (bl_ HB))); replace BK290 := am_ (blk_below (bk_ BK290) hb); replace BK291 := am_ (blk_below (bk_ BK291) hb); replace BK292 := am_ (blk_below (bk_ BK292) hb); replace HB := am_ (below_step (bl_ HB) hb); (try clear hb); (try clear hb2); (try clear hk); (try clear hi); (try clear ho0); have hcz14_0 : w13.cell? ⟨gb292, 0, none⟩ = some (.int .i64 0) := bc_ BK292 0; have hcz14_1 : w13.cell? ⟨gb292, 1, none⟩ = some (.slice none 0 0) := bc_ BK292 1; have hcz14_2 : w13.cell? ⟨gb292, 2, none⟩ = some (.int .i64 0) := bc_ BK292 2; have hfz14_0 := blk_frozen BK292.out 0; have hfz14_1 := blk_frozen BK292.out 1; have hfz14_2 := blk_frozen BK292.out 2; obtain ⟨Ao15, co15, eo15⟩ := Kd.R_slice HO296.out; subst eo15))
  refine bodyPost_ret (results_cell_row rfl _ _ gb292 30 #[.int .i64 t293, .slice Ao15 t294.length co15, .int .i64 t297] (0, 0) _ rfl (bp3_ BK292) Tryd.underlying30 rfl (by kernel_rfl)) rfl ?_
  exact ⟨_, by first | rfl | (simp [errW_none, errW_some] <;> rfl) | (simp [*, errW_none, errW_some] <;> rfl), ru_ HO296 BK292, bl_ HB⟩
 ·rw [if_neg c3] at H
  have c3b0 : (a0_0 == 0) = false := beq_eq_false_iff_ne.mpr c3
  have c3b1 : (a0_0 != 0) = true := bne_iff_ne.mpr c3
  by_cases c16 : a1_0 = 0
  ·rw [if_pos c16] at H
   have c16b0 : (a1_0 == 0) = true := beq_iff_eq.mpr c16
   have c16b1 : (a1_0 != 0) = false := bne_eq_false_iff_eq.mpr c16
   clear c16
   replace H := Option.bind_eq_some_iff.mp H
   obtain ⟨⟨t298, t299, t302⟩, A170, H⟩ := H
   replace H : (some (t298, t299, t302)) = some (r1, r2, r3) := H
   have A17 := Aside0.mk A170; clear A170
   simp only [Option.some.injEq, Prod.mk.injEq] at H
   obtain ⟨rfl, rfl, rfl⟩ := H
   go_enter Tryd.func38, Tryd.ntmps38
   go_wp2_with (first | ((with_reducible refine gate_dst (N := 2) rfl ?_); refine box_event ?hg (N := 2) ?hd (cs := #[.int .i64 a0_0, .slice A0_1 l0_1.length c0_1, .int .i64 a0_2]) (t := 30) ?hr ?_; (case hd => rfl); (case hg => rfl); (case hr => first | (go_simp; done) | (go_simp; rfl)); intro gb290 hg w18 hbox hb; have BK290 := am_ (hbox); have GW290 := am_ (gs_ hg HB); have GE290 := am_ (gs_ hg HB); replace HB := am_ (below_step (bl_ HB) hb); clear hb hbox hg) | ((with_reducible refine gate_dst (N := 3) rfl ?_); refine box_event ?hg (N := 3) ?hd (cs := #[.int .i64 a1_0, .slice A1_1 l1_1.length c1_1, .int .i64 a1_2]) (t := 30) ?hr ?_; (case hd => rfl); (case hg => rfl); (case hr => first | (go_simp; done) | (go_simp; rfl)); intro gb291 hg w19 hbox hb; have BK291 := am_ (hbox); have GW291 := am_ (gs_ hg HB); have GE291 := am_ (gs_ hg HB); have NB290_291 := am_ (nl_ hg BK290); have NB291_290 := am_ (ng_ hg BK290); replace BK290 := am_ (blk_below (bk_ BK290) hb); replace HB := am_ (below_step (bl_ HB) hb); clear hb hbox hg) | ((with_reducible refine gate_dst (N := 4) rfl ?_); refine box_event ?hg (N := 4) ?hd (cs := #[.int .i64 0, .slice none 0 0, .int .i64 0]) (t := 30) ?hr ?_; (case hd => rfl); (case hg => rfl); (case hr => first | (go_simp; done) | (go_simp; rfl)); intro gb292 hg w20 hbox hb; have BK292 := am_ (hbox); have GW292 := am_ (gs_ hg HB); have GE292 := am_ (gs_ hg HB); have NB290_292 := am_ (nl_ hg BK290); have NB292_290 := am_ (ng_ hg BK290); have NB291_292 := am_ (nl_ hg BK291); have NB292_291 := am_ (ng_ hg BK291); replace BK290 := am_ (blk_below (bk_ BK290) hb); replace BK291 := am_ (blk_below (bk_ BK291) hb); replace HB := am_ (below_step (bl_ HB) hb); clear hb hbox hg; have hnb21 := NB290_291.out; have hnc21 := NB291_290.out; have hnb22 := NB290_292.out; have hnc22 := NB292_290.out; have hcz23_0 : w20.cell? ⟨gb290, 0, none⟩ = some (.int .i64 a0_0) := bc_ BK290 0; have hcz23_1 : w20.cell? ⟨gb290, 1, none⟩ = some (.slice A0_1 l0_1.length c0_1) := bc_ BK290 1; have hcz23_2 : w20.cell? ⟨gb290, 2, none⟩ = some (.int .i64 a0_2) := bc_ BK290 2; have hfz23_0 := blk_frozen BK290.out 0; have hfz23_1 := blk_frozen BK290.out 1; have hfz23_2 := blk_frozen BK290.out 2; have hnb24 := NB291_292.out; have hnc24 := NB292_291.out; have hcz25_0 : w20.cell? ⟨gb291, 0, none⟩ = some (.int .i64 a1_0) := bc_ BK291 0; have hcz25_1 : w20.cell? ⟨gb291, 1, none⟩ = some (.slice A1_1 l1_1.length c1_1) := bc_ BK291 1; have hcz25_2 : w20.cell? ⟨gb291, 2, none⟩ = some (.int .i64 a1_2) := bc_ BK291 2; have hfz25_0 := blk_frozen BK291.out 0; have hfz25_1 := blk_frozen BK291.out 1; have hfz25_2 := blk_frozen BK291.out 2) | ((with_reducible refine gate_callee (f := 56) rfl ?_); refine goesL_ (some 23) rfl rfl Tryd.func56 (by kernel_rfl) rfl #[.agg #[.int .i64 a0_0, .slice A0_1 l0_1.length c0_1], .int .i64 a0_2] rfl ma_ ?_; (with_reducible refine (spec_l03Make.calls k a0_0 _ _ l0_1 a0_2 t298 t299 t302 _ ?side1 ?side2 A17.out).mono ?_); (case side1 => exact cb_ HR0_1 HB); (case side2 => exact HC0_1.out); rintro e w26 ⟨v300, rfl, ho0, hb⟩; refine ⟨_, rfl, ?_⟩; have HO301 := am_ (Kd.R_lower ho0 (below_size (bl_ HB))); replace BK290 := am_ (blk_below (bk_ BK290) hb); replace BK291 := am_ (blk_below (bk_ BK291) hb); replace BK292 := am_ (blk_below (bk_ BK292) hb); replace HB := am_ (below_step (bl_ HB) hb); (try clear hb); (try clear hb2); (try clear hk); (try clear hi); (try clear ho0); have hcz27_0 : w26.cell? ⟨gb292, 0, none⟩ = some (.int .i64 0) := bc_ BK292 0; have hcz27_1 : w26.cell? ⟨gb292, 1, none⟩ = some (.slice none 0 0) := bc_ BK292 1; have hcz27_2 : w26.cell? ⟨gb292, 2, none⟩ = some (.int .i64 0) := bc_ BK292 2; have hfz27_0 := blk_frozen BK292.out 0; have hfz27_1 := blk_frozen BK292.out 1; have hfz27_2 := blk_frozen BK292.out 2; obtain ⟨Ao28, co28, eo28⟩ := Kd.R_slice HO301.out; subst eo28))
   refine bodyPost_ret (results_cell_row rfl _ _ gb292 30 #[.int .i64 t298, .slice Ao28 t299.length co28, .int .i64 t302] (0, 0) _ rfl (bp3_ BK292) Tryd.underlying30 rfl (by kernel_rfl)) rfl ?_
   exact ⟨_, by first | rfl | (simp [errW_none, errW_some] <;> rfl) | (simp [*, errW_none, errW_some] <;> rfl), ru_ HO301 BK292, bl_ HB⟩
  ·rw [if_neg c16] at H
   have c16b0 : (a1_0 == 0) = false := beq_eq_false_iff_ne.mpr c16
   have c16b1 : (a1_0 != 0) = true := bne_iff_ne.mpr c16
   obtain ⟨ji29, hji29⟩ : ∃ j_ : Int, (mn a0_2 a1_2) = j_ := ⟨_, rfl⟩
   replace H : ((spec_l02Left.f k a0_0 l0_1 (wrap64 (a0_2 - (ji29)))).bind fun bt303 => ((spec_l02Left.f k a1_0 l1_1 (wrap64 (a1_2 - (ji29)))).bind fun bt307 => ((spec_l02Add.f k bt303.1 bt303.2 bt307.1 bt307.2).bind fun bt311 => ((spec_l03Make.f k bt311.1 bt311.2 (ji29)).bind fun bt315 => (some (bt315.1, bt315.2.1, bt315.2.2)))))) = some (r1, r2, r3) := by first | (rw [hji29] at H; exact H) | (simp only [hji29] at H ⊢; exact H)
   have hji29_ : (if a1_2 < a0_2 then a1_2 else a0_2) = ji29 := hji29
   replace H := Option.bind_eq_some_iff.mp H
   obtain ⟨⟨t303, t304⟩, A300, H⟩ := H
   replace H : ((spec_l02Left.f k a1_0 l1_1 (wrap64 (a1_2 - (ji29)))).bind fun bt307 => ((spec_l02Add.f k t303 t304 bt307.1 bt307.2).bind fun bt311 => ((spec_l03Make.f k bt311.1 bt311.2 (ji29)).bind fun bt315 => (some (bt315.1, bt315.2.1, bt315.2.2))))) = some (r1, r2, r3) := H
   have A30 := Aside0.mk A300; clear A300
   replace H := Option.bind_eq_some_iff.mp H
   obtain ⟨⟨t307, t308⟩, A310, H⟩ := H
   replace H : ((spec_l02Add.f k t303 t304 t307 t308).bind fun bt311 => ((spec_l03Make.f k bt311.1 bt311.2 (ji29)).bind fun bt315 => (some (bt315.1, bt315.2.1, bt315.2.2)))) = some (r1, r2, r3) := H
   have A31 := Aside0.mk A310; clear A310
   replace H := Option.bind_eq_some_iff.mp H
   obtain ⟨⟨t311, t312⟩, A320, H⟩ := H
   replace H : ((spec_l03Make.f k t311 t312 (ji29)).bind fun bt315 => (some (bt315.1, bt315.2.1, bt315.2.2))) = some (r1, r2, r3) := H
   have A32 := Aside0.mk A320; clear A320
   replace H := Option.bind_eq_some_iff.mp H
   obtain ⟨⟨t315, t316, t319⟩, A330, H⟩ := H
   replace H : (some (t315, t316, t319)) = some (r1, r2, r3) := H
   have A33 := Aside0.mk A330; clear A330
   simp only [Option.some.injEq, Prod.mk.injEq] at H
   obtain ⟨rfl, rfl, rfl⟩ := H
   go_enter Tryd.func38, Tryd.ntmps38
   try go_wp2_with (first | ((with_reducible refine gate_dst (N := 2) rfl ?_); refine box_event ?hg (N := 2) ?hd (cs := #[.int .i64 a0_0, .slice A0_1 l0_1.length c0_1, .int .i64 a0_2]) (t := 30) ?hr ?_; (case hd => rfl); (case hg => rfl); (case hr => first | (go_simp; done) | (go_simp; rfl)); intro gb290 hg w34 hbox hb; have BK290 := am_ (hbox); have GW290 := am_ (gs_ hg HB); have GE290 := am_ (gs_ hg HB); replace HB := am_ (below_step (bl_ HB) hb); clear hb hbox hg) | ((with_reducible refine gate_dst (N := 3) rfl ?_); refine box_event ?hg (N := 3) ?hd (cs := #[.int .i64 a1_0, .slice A1_1 l1_1.length c1_1, .int .i64 a1_2]) (t := 30) ?hr ?_; (case hd => rfl); (case hg => rfl); (case hr => first | (go_simp; done) | (go_simp; rfl)); intro gb291 hg w35 hbox hb; have BK291 := am_ (hbox); have GW291 := am_ (gs_ hg HB); have GE291 := am_ (gs_ hg HB); have NB290_291 := am_ (nl_ hg BK290); have NB291_290 := am_ (ng_ hg BK290); replace BK290 := am_ (blk_below (bk_ BK290) hb); replace HB := am_ (below_step (bl_ HB) hb); clear hb hbox hg) | ((with_reducible refine gate_dst (N := 4) rfl ?_); refine box_event ?hg (N := 4) ?hd (cs := #[.int .i64 0, .slice none 0 0, .int .i64 0]) (t := 30) ?hr ?_; (case hd => rfl); (case hg => rfl); (case hr => first | (go_simp; done) | (go_simp; rfl)); intro gb292 hg w36 hbox hb; have BK292 := am_ (hbox); have GW292 := am_ (gs_ hg HB); have GE292 := am_ (gs_ hg HB); have NB290_292 := am_ (nl_ hg BK290); have NB292_290 := am_ (ng_ hg BK290); have NB291_292 := am_ (nl_ hg BK291); have NB292_291 := am_ (ng_ hg BK291); replace BK290 := am_ (blk_below (bk_ BK290) hb); replace BK291 := am_ (blk_below (bk_ BK291) hb); replace HB := am_ (below_step (bl_ HB) hb); clear hb hbox hg; have hnb37 := NB290_291.out; have hnc37 := NB291_290.out; have hnb38 := NB290_292.out; have hnc38 := NB292_290.out; have hcz39_0 : w36.cell? ⟨gb290, 0, none⟩ = some (.int .i64 a0_0) := bc_ BK290 0; have hcz39_1 : w36.cell? ⟨gb290, 1, none⟩ = some (.slice A0_1 l0_1.length c0_1) := bc_ BK290 1; have hcz39_2 : w36.cell? ⟨gb290, 2, none⟩ = some (.int .i64 a0_2) := bc_ BK290 2; have hfz39_0 := blk_frozen BK290.out 0; have hfz39_1 := blk_frozen BK290.out 1; have hfz39_2 := blk_frozen BK290.out 2; have hnb40 := NB291_292.out; have hnc40 := NB292_291.out; have hcz41_0 : w36.cell? ⟨gb291, 0, none⟩ = some (.int .i64 a1_0) := bc_ BK291 0; have hcz41_1 : w36.cell? ⟨gb291, 1, none⟩ = some (.slice A1_1 l1_1.length c1_1) := bc_ BK291 1; have hcz41_2 : w36.cell? ⟨gb291, 2, none⟩ = some (.int .i64 a1_2) := bc_ BK291 2; have hfz41_0 := blk_frozen BK291.out 0; have hfz41_1 := blk_frozen BK291.out 1; have hfz41_2 := blk_frozen BK291.out 2))
   have n0_ := am_ (blk_drew BK290.out); have n1_ := am_ (blk_drew BK291.out); have n2_ := am_ (blk_drew BK292.out); have n3_ := am_ (below_drew1 HB.out); clear BK290 BK291 BK292 HB; have BK290 := n0_; have BK291 := n1_; have BK292 := n2_; have HB := n3_; clear n0_ n1_ n2_ n3_
   refine start_ (n := 18) (S := fun w' => w'.cell? ⟨gb290, 0, none⟩ = some (.int .i64 a0_0) ∧ w'.cell? ⟨gb290, 1, none⟩ = some (.slice A0_1 l0_1.length c0_1) ∧ w'.cell? ⟨gb290, 2, none⟩ = some (.int .i64 a0_2) ∧ w'.cell? ⟨gb291, 0, none⟩ = some (.int .i64 a1_0) ∧ w'.cell? ⟨gb291, 1, none⟩ = some (.slice A1_1 l1_1.length c1_1) ∧ w'.cell? ⟨gb291, 2, none⟩ = some (.int .i64 a1_2)) (ds := []) #[false, false, false, false, false, false, false, false, false, false, false, false, false, false, false, false, false, false] (by kernel_rfl) rfl rfl ⟨bc_ BK290 0, bc_ BK290 1, bc_ BK290 2, bc_ BK291 0, bc_ BK291 1, bc_ BK291 2⟩ (fun hHeld => ?_); refine with_tabW spec_l03Add.tab6 spec_l03Add.bits6 (fun HT_ HW_ => ?_)
   generalize w36.drew = w42 at BK290 BK291 BK292 HB hHeld ⊢
   refine pure_ (i := 0) (N := some 29) (v := ?_) (a' := ?_) #[true, false, false, false, false, false, false, false, false, false, false, false, false, false, false, false, false, false] rfl rfl (any_of HT_.out (by kernel_rfl)) (fun _ _ _ h => h) (Or.inl ⟨by rfl, ?_⟩) ?_ ?_
   rotate_left
   ·intro w'
    go_simp
    with_reducible rfl
   rotate_left
   ·exact nm_
   refine pure_ (i := 2) (N := some 31) (v := ?_) (a' := ?_) #[true, false, true, false, false, false, false, false, false, false, false, false, false, false, false, false, false, false] rfl rfl (any_of HT_.out (by kernel_rfl)) (fun _ _ _ h => h) (Or.inl ⟨by rfl, ?_⟩) ?_ ?_
   rotate_left
   ·intro w'
    go_simp
    with_reducible rfl
   rotate_left
   ·exact nm_
   refine pure_ (i := 4) (N := some 33) (v := ?_) (a' := ?_) #[true, false, true, false, true, false, false, false, false, false, false, false, false, false, false, false, false, false] rfl rfl (any_of HT_.out (by kernel_rfl)) (fun _ _ _ h => h) (Or.inl ⟨by rfl, ?_⟩) ?_ ?_
   rotate_left
   ·intro w'
    go_simp
    with_reducible rfl
   rotate_left
   ·exact nm_
   refine pure_ (i := 7) (N := some 36) (v := ?_) (a' := ?_) #[true, false, true, false, true, false, false, true, false, false, false, false, false, false, false, false, false, false] rfl rfl (any_of HT_.out (by kernel_rfl)) (fun _ _ _ h => h) (Or.inl ⟨by rfl, ?_⟩) ?_ ?_
   rotate_left
   ·intro w'
    go_simp
    with_reducible rfl
   rotate_left
   ·exact nm_
   refine pure_ (i := 9) (N := some 38) (v := ?_) (a' := ?_) #[true, false, true, false, true, false, false, true, false, true, false, false, false, false, false, false, false, false] rfl rfl (any_of HT_.out (by kernel_rfl)) (fun _ _ _ h => h) (Or.inl ⟨by rfl, ?_⟩) ?_ ?_
   rotate_left
   ·intro w'
    go_simp
    with_reducible rfl
   rotate_left
   ·exact nm_
   refine pure_ (i := 11) (N := some 40) (v := ?_) (a' := ?_) #[true, false, true, false, true, false, false, true, false, true, false, true, false, false, false, false, false, false] rfl rfl (any_of HT_.out (by kernel_rfl)) (fun _ _ _ h => h) (Or.inl ⟨by rfl, ?_⟩) ?_ ?_
   rotate_left
   ·intro w'
    go_simp
    with_reducible rfl
   rotate_left
   ·exact nm_
   refine pure_ (i := 15) (N := some 44) (v := ?_) (a' := ?_) #[true, false, true, false, true, false, false, true, false, true, false, true, false, false, false, true, false, false] rfl rfl (any_of HT_.out (by kernel_rfl)) (fun _ _ _ h => h) (Or.inl ⟨by rfl, ?_⟩) ?_ ?_
   rotate_left
   ·intro w'
    go_simp
    with_reducible rfl
   rotate_left
   ·exact nm_
   refine take_ (i := 1) (N := some 30) (v := ?_) (a' := ?_) #[true, true, true, false, true, false, false, true, false, true, false, true, false, false, false, true, false, false] rfl rfl (take_ofW HT_.out HW_.out (by kernel_rfl)) (fun _ _ _ h => h) (Or.inl ⟨by rfl, ?_⟩) hHeld ?_ ?_
   rotate_left
   ·rintro w' ⟨s0, s1, s2, s3, s4, s5⟩
    go_simp
    with_reducible rfl
   rotate_left
   ·exact nm_
   refine take_ (i := 3) (N := some 32) (v := ?_) (a' := ?_) #[true, true, true, true, true, false, false, true, false, true, false, true, false, false, false, true, false, false] rfl rfl (take_ofW HT_.out HW_.out (by kernel_rfl)) (fun _ _ _ h => h) (Or.inl ⟨by rfl, ?_⟩) hHeld ?_ ?_
   rotate_left
   ·rintro w' ⟨s0, s1, s2, s3, s4, s5⟩
    go_simp
    with_reducible rfl
   rotate_left
   ·exact nm_
   refine pure_ (i := 5) (N := some 34) (v := ?_) (a' := ?_) #[true, true, true, true, true, true, false, true, false, true, false, true, false, false, false, true, false, false] rfl rfl (any_of HT_.out (by kernel_rfl)) (fun _ _ _ h => h) (Or.inl ⟨by rfl, ?_⟩) ?_ ?_
   rotate_left
   ·intro w'
    go_simp
    with_reducible rfl
   rotate_left
   ·exact nm_
   refine take_ (i := 8) (N := some 37) (v := ?_) (a' := ?_) #[true, true, true, true, true, true, false, true, true, true, false, true, false, false, false, true, false, false] rfl rfl (take_ofW HT_.out HW_.out (by kernel_rfl)) (fun _ _ _ h => h) (Or.inl ⟨by rfl, ?_⟩) hHeld ?_ ?_
   rotate_left
   ·rintro w' ⟨s0, s1, s2, s3, s4, s5⟩
    go_simp
    with_reducible rfl
   rotate_left
   ·exact nm_
   refine take_ (i := 10) (N := some 39) (v := ?_) (a' := ?_) #[true, true, true, true, true, true, false, true, true, true, true, true, false, false, false, true, false, false] rfl rfl (take_ofW HT_.out HW_.out (by kernel_rfl)) (fun _ _ _ h => h) (Or.inl ⟨by rfl, ?_⟩) hHeld ?_ ?_
   rotate_left
   ·rintro w' ⟨s0, s1, s2, s3, s4, s5⟩
    go_simp
    with_reducible rfl
   rotate_left
   ·exact nm_
   refine pure_ (i := 12) (N := some 41) (v := ?_) (a' := ?_) #[true, true, true, true, true, true, false, true, true, true, true, true, true, false, false, true, false, false] rfl rfl (any_of HT_.out (by kernel_rfl)) (fun _ _ _ h => h) (Or.inl ⟨by rfl, ?_⟩) ?_ ?_
   rotate_left
   ·intro w'
    go_simp
    with_reducible rfl
   rotate_left
   ·exact nm_
   refine one_ (i := 6) (N := some 35) #[true, true, true, true, true, true, true, true, true, true, true, true, true, false, false, true, false, false] rfl rfl (one_of HT_.out (by kernel_rfl)) (by decide) (fun K hK => ?_)
   refine goes_ Tryd.func69 (by kernel_rfl) rfl #[.agg #[.int .i64 a0_0, .slice A0_1 l0_1.length c0_1], .int .i64 (wrap64 (a0_2 - (ji29)))] (by rfl) rfl rfl (by (try simp only [List.map_toArray, List.map_cons, List.map_nil]); first | done | (simp only [hji29]; rfl) | rfl | (simp only [List.length_drop, List.length_take]; rfl)) ?_
   with_reducible refine (spec_l02Left.calls k a0_0 _ _ l0_1 (wrap64 (a0_2 - (ji29))) t303 t304 _ ?side1 ?side2 A30.out).mono ?_
   (case side1 => exact cb_ HR0_1 HB)
   (case side2 => exact HC0_1.out)
   rintro e w43 ⟨v305, rfl, ho0, hb⟩
   refine ⟨_, rfl, ?_⟩
   have n0_ := am_ (Kd.R_lower ho0 (below_size (bl_ HB))); have n1_ := am_ (blk_below (bk_ BK290) hb); have n2_ := am_ (blk_below (bk_ BK291) hb); have n3_ := am_ (blk_below (bk_ BK292) hb); have n4_ := am_ (below_step (bl_ HB) hb); clear BK290 BK291 BK292 HB; have HO306 := n0_; have BK290 := n1_; have BK291 := n2_; have BK292 := n3_; have HB := n4_; clear n0_ n1_ n2_ n3_ n4_; (try clear hb); (try clear hb2); (try clear hk); (try clear hi); (try clear ho0)
   refine hK.out _ _ ⟨bc_ BK290 0, bc_ BK290 1, bc_ BK290 2, bc_ BK291 0, bc_ BK291 1, bc_ BK291 2⟩ (fun hHeld => ?_)
   clear hK K
   refine norm_ (a' := ?_) ?_ ?_
   rotate_left
   ·show Act.put _ (some 35) _ = _
    exact nm_
   refine one_ (i := 13) (N := some 42) #[true, true, true, true, true, true, true, true, true, true, true, true, true, true, false, true, false, false] rfl rfl (one_of HT_.out (by kernel_rfl)) (by decide) (fun K hK => ?_)
   refine goes_ Tryd.func69 (by kernel_rfl) rfl #[.agg #[.int .i64 a1_0, .slice A1_1 l1_1.length c1_1], .int .i64 (wrap64 (a1_2 - (ji29)))] (by rfl) rfl rfl (by (try simp only [List.map_toArray, List.map_cons, List.map_nil]); first | done | (simp only [hji29]; rfl) | rfl | (simp only [List.length_drop, List.length_take]; rfl)) ?_
   with_reducible refine (spec_l02Left.calls k a1_0 _ _ l1_1 (wrap64 (a1_2 - (ji29))) t307 t308 _ ?side1 ?side2 A31.out).mono ?_
   (case side1 => exact cb_ HR1_1 HB)
   (case side2 => exact HC1_1.out)
   rintro e w44 ⟨v309, rfl, ho0, hb⟩
   refine ⟨_, rfl, ?_⟩
   have n0_ := am_ (Kd.R_elder' (kr_ HO306) (Kd.R_base ho0) hb); have n1_ := am_ (Kd.R_lower (Kd.R_new' ho0 (Kd.R_lt (kr_ HO306))) (below_size (bl_ HB))); have n2_ := am_ (blk_below (bk_ BK290) hb); have n3_ := am_ (blk_below (bk_ BK291) hb); have n4_ := am_ (blk_below (bk_ BK292) hb); have n5_ := am_ (below_step (bl_ HB) hb); clear HO306 BK290 BK291 BK292 HB; have HO306 := n0_; have HO310 := n1_; have BK290 := n2_; have BK291 := n3_; have BK292 := n4_; have HB := n5_; clear n0_ n1_ n2_ n3_ n4_ n5_; (try clear hb); (try clear hb2); (try clear hk); (try clear hi); (try clear ho0)
   obtain ⟨Ao45, co45, eo45⟩ := Kd.R_slice HO306.out
   (first | subst eo45 | (injection eo45 with f1_ f2_ f3_; have f4_ := f1_.symm; have f5_ := f3_.symm; clear f1_ f2_ f3_; subst f4_; subst f5_))
   obtain ⟨Ao46, co46, eo46⟩ := Kd.R_slice HO310.out
   (first | subst eo46 | (injection eo46 with f1_ f2_ f3_; have f4_ := f1_.symm; have f5_ := f3_.symm; clear f1_ f2_ f3_; subst f4_; subst f5_))
   refine hK.out _ _ ⟨bc_ BK290 0, bc_ BK290 1, bc_ BK290 2, bc_ BK291 0, bc_ BK291 1, bc_ BK291 2⟩ (fun hHeld => ?_)
   clear hK K
   refine norm_ (a' := ?_) ?_ ?_
   rotate_left
   ·show Act.put _ (some 42) _ = _
    exact nm_
   refine one_ (i := 14) (N := some 43) #[true, true, true, true, true, true, true, true, true, true, true, true, true, true, true, true, false, false] rfl rfl (one_of HT_.out (by kernel_rfl)) (by decide) (fun K hK => ?_)
   refine goes_ Tryd.func68 (by kernel_rfl) rfl #[.agg #[.int .i64 t303, .slice Ao45 t304.length co45], .agg #[.int .i64 t307, .slice Ao46 t308.length co46]] (by rfl) rfl rfl ma_ ?_
   with_reducible refine (spec_l02Add.calls k t303 _ _ t304 t307 _ _ t308 t311 t312 _ ?side1 ?side2 ?side3 ?side4 A32.out).mono ?_
   (case side1 => exact cr_ HO306)
   (case side2 => exact (Kd.R_reads' HO306.out).2.1)
   (case side3 => exact cr_ HO310)
   (case side4 => exact (Kd.R_reads' HO310.out).2.1)
   rintro e w47 ⟨v313, rfl, ho0, hb⟩
   refine ⟨_, rfl, ?_⟩
   have n0_ := am_ (Kd.R_elder' (kr_ HO306) (Kd.R_base ho0) hb); have n1_ := am_ (Kd.R_elder' (kr_ HO310) (Kd.R_base ho0) hb); have n2_ := am_ (Kd.R_lower (Kd.R_new' (Kd.R_new' ho0 (Kd.R_lt (kr_ HO306))) (Kd.R_lt (kr_ HO310))) (below_size (bl_ HB))); have n3_ := am_ (blk_below (bk_ BK290) hb); have n4_ := am_ (blk_below (bk_ BK291) hb); have n5_ := am_ (blk_below (bk_ BK292) hb); have n6_ := am_ (below_step (bl_ HB) hb); clear HO306 HO310 BK290 BK291 BK292 HB; have HO306 := n0_; have HO310 := n1_; have HO314 := n2_; have BK290 := n3_; have BK291 := n4_; have BK292 := n5_; have HB := n6_; clear n0_ n1_ n2_ n3_ n4_ n5_ n6_; (try clear hb); (try clear hb2); (try clear hk); (try clear hi); (try clear ho0)
   obtain ⟨Ao48, co48, eo48⟩ := Kd.R_slice HO314.out
   (first | subst eo48 | (injection eo48 with f1_ f2_ f3_; have f4_ := f1_.symm; have f5_ := f3_.symm; clear f1_ f2_ f3_; subst f4_; subst f5_))
   refine hK.out _ _ ⟨bc_ BK290 0, bc_ BK290 1, bc_ BK290 2, bc_ BK291 0, bc_ BK291 1, bc_ BK291 2⟩ (fun hHeld => ?_)
   clear hK K
   refine norm_ (a' := ?_) ?_ ?_
   rotate_left
   ·show Act.put _ (some 43) _ = _
    exact nm_
   refine one_ (i := 16) (N := some 45) #[true, true, true, true, true, true, true, true, true, true, true, true, true, true, true, true, true, false] rfl rfl (one_of HT_.out (by kernel_rfl)) (by decide) (fun K hK => ?_)
   refine goes_ Tryd.func56 (by kernel_rfl) rfl #[.agg #[.int .i64 t311, .slice Ao48 t312.length co48], .int .i64 ji29] (by rfl) rfl rfl (by (try simp only [List.map_toArray, List.map_cons, List.map_nil]); first | done | (simp only [hji29]; rfl) | rfl | (simp only [List.length_drop, List.length_take]; rfl)) ?_
   with_reducible refine (spec_l03Make.calls k t311 _ _ t312 ji29 t315 t316 t319 _ ?side1 ?side2 A33.out).mono ?_
   (case side1 => exact cr_ HO314)
   (case side2 => exact (Kd.R_reads' HO314.out).2.1)
   rintro e w49 ⟨v317, rfl, ho0, hb⟩
   refine ⟨_, rfl, ?_⟩
   have n0_ := am_ (Kd.R_elder' (kr_ HO306) (Kd.R_base ho0) hb); have n1_ := am_ (Kd.R_elder' (kr_ HO310) (Kd.R_base ho0) hb); have n2_ := am_ (Kd.R_elder' (kr_ HO314) (Kd.R_base ho0) hb); have n3_ := am_ (Kd.R_lower (Kd.R_new' (Kd.R_new' (Kd.R_new' ho0 (Kd.R_lt (kr_ HO306))) (Kd.R_lt (kr_ HO310))) (Kd.R_lt (kr_ HO314))) (below_size (bl_ HB))); have n4_ := am_ (blk_below (bk_ BK290) hb); have n5_ := am_ (blk_below (bk_ BK291) hb); have n6_ := am_ (blk_below (bk_ BK292) hb); have n7_ := am_ (below_step (bl_ HB) hb); clear HO306 HO310 HO314 BK290 BK291 BK292 HB; have HO306 := n0_; have HO310 := n1_; have HO314 := n2_; have HO318 := n3_; have BK290 := n4_; have BK291 := n5_; have BK292 := n6_; have HB := n7_; clear n0_ n1_ n2_ n3_ n4_ n5_ n6_ n7_; (try clear hb); (try clear hb2); (try clear hk); (try clear hi); (try clear ho0)
   obtain ⟨Ao51, co51, eo51⟩ := Kd.R_slice HO318.out
   (first | subst eo51 | (injection eo51 with f1_ f2_ f3_; have f4_ := f1_.symm; have f5_ := f3_.symm; clear f1_ f2_ f3_; subst f4_; subst f5_))
   refine hK.out _ _ ⟨bc_ BK290 0, bc_ BK290 1, bc_ BK290 2, bc_ BK291 0, bc_ BK291 1, bc_ BK291 2⟩ (fun hHeld => ?_)
   clear hK K
   refine norm_ (a' := ?_) ?_ ?_
   rotate_left
   ·show Act.put _ (some 45) _ = _
    exact nm_
   refine one_ (i := 17) (N := none) #[true, true, true, true, true, true, true, true, true, true, true, true, true, true, true, true, true, true] rfl rfl (one_of HT_.out (by kernel_rfl)) (by decide) (fun K hK => ?_)
   have hs50 : w49.cell? ⟨gb292, 0, none⟩ = some (.int .i64 0) := bc_ BK292 0
   have hfs50 := blk_frozen BK292.out 0; have hns50_0 := NB290_292.out; have hns50_1 := NB291_292.out; have hms50_0 := NB292_290.out; have hms50_1 := NB292_291.out
   have hs52 : w49.cell? ⟨gb292, 1, none⟩ = some (.slice none 0 0) := bc_ BK292 1
   have hfs52 := blk_frozen BK292.out 1; have hns52_0 := NB290_292.out; have hns52_1 := NB291_292.out; have hms52_0 := NB292_290.out; have hms52_1 := NB292_291.out
   have hs53 : w49.cell? ⟨gb292, 2, none⟩ = some (.int .i64 0) := bc_ BK292 2
   have hfs53 := blk_frozen BK292.out 2; have hns53_0 := NB290_292.out; have hns53_1 := NB291_292.out; have hms53_0 := NB292_290.out; have hms53_1 := NB292_291.out
   refine skip_ (w1 := ?_) (by rfl) rfl ?_ ?_
   rotate_left
   ·go_simp
    rfl
   refine hK.out _ _ ⟨((cell_far (p := ⟨gb292, _, none⟩) NB290_292.out _).trans (((cell_far (p := ⟨gb292, _, none⟩) NB290_292.out _).trans (((cell_far (p := ⟨gb292, _, none⟩) NB290_292.out _).trans (hHeld.1)))))), ((cell_far (p := ⟨gb292, _, none⟩) NB290_292.out _).trans (((cell_far (p := ⟨gb292, _, none⟩) NB290_292.out _).trans (((cell_far (p := ⟨gb292, _, none⟩) NB290_292.out _).trans (hHeld.2.1)))))), ((cell_far (p := ⟨gb292, _, none⟩) NB290_292.out _).trans (((cell_far (p := ⟨gb292, _, none⟩) NB290_292.out _).trans (((cell_far (p := ⟨gb292, _, none⟩) NB290_292.out _).trans (hHeld.2.2.1)))))), ((cell_far (p := ⟨gb292, _, none⟩) NB291_292.out _).trans (((cell_far (p := ⟨gb292, _, none⟩) NB291_292.out _).trans (((cell_far (p := ⟨gb292, _, none⟩) NB291_292.out _).trans (hHeld.2.2.2.1)))))), ((cell_far (p := ⟨gb292, _, none⟩) NB291_292.out _).trans (((cell_far (p := ⟨gb292, _, none⟩) NB291_292.out _).trans (((cell_far (p := ⟨gb292, _, none⟩) NB291_292.out _).trans (hHeld.2.2.2.2.1)))))), ((cell_far (p := ⟨gb292, _, none⟩) NB291_292.out _).trans (((cell_far (p := ⟨gb292, _, none⟩) NB291_292.out _).trans (((cell_far (p := ⟨gb292, _, none⟩) NB291_292.out _).trans (hHeld.2.2.2.2.2))))))⟩ (fun hHeld => ?_)
   clear hK K
   refine done_ (done_of HT_.out (by kernel_rfl)) ?_
   try go_wp2
   refine bodyPost_ret (results_cell_row rfl _ _ gb292 30 #[.int .i64 t315, .slice Ao51 t316.length co51, .int .i64 t319] (0, 0) _ rfl (bp3_ BK292) Tryd.underlying30 rfl (by kernel_rfl)) rfl ?_
   exact ⟨_, by first | rfl | (simp [errW_none, errW_some] <;> rfl) | (simp only [← hji29]; first | rfl | (simp [errW_none, errW_some] <;> rfl)) | (simp [*, errW_none, errW_some] <;> rfl), ru_ HO318 BK292, bl_ HB⟩

/-! ### spec_l02Neg: function 94 -/
def spec_l02Neg.f (k : Nat) (a0_0 : Int) (l0_1 : List Int) : Option (Int × List Int) := (spec_l02Make.f k (wrap64 (-a0_0)) l0_1).bind fun bt322 => (some (bt322.1, bt322.2))
theorem spec_l02Neg.mono : ∀ a0 a1 k, LeO (spec_l02Neg.f k a0 a1) (spec_l02Neg.f (k + 1) a0 a1) := by
  intro a0 a1 k
  unfold spec_l02Neg.f
  repeat' first
      | (with_reducible exact spec_l02Make.mono _ _ _)
      | (with_reducible exact LeO.refl _)
      | (with_reducible exact LeO.none _)
      | (with_reducible refine LeO.ite ?_ ?_)
      | (with_reducible refine LeO.bind ?_ (fun _ => ?_))
      | exact spec_l02Make.mono _ _ _
      | exact LeO.none _
      | refine LeO.ite ?_ ?_
      | refine LeO.bind ?_ (fun _ => ?_)
set_option maxHeartbeats 8000000 in
set_option maxRecDepth 100000 in
theorem spec_l02Neg.calls (k : Nat) (a0_0 : Int) (A0_1 : Option Addr) (c0_1 : Nat) (l0_1 : List Int) (r1 : Int) (r2 : List Int) (w : World) (hr0_1 : Kd.C (Kd.int .i64) w A0_1 l0_1.length l0_1) (hc0_1 : l0_1.length ≤ c0_1) (h : spec_l02Neg.f k a0_0 l0_1 = some (r1, r2)) :
  Calls Tryd.prog 94 #[.agg #[.int .i64 a0_0, .slice A0_1 l0_1.length c0_1]] w fun e w' => ∃ v1_ : Value, e = .returned (.agg #[.int .i64 r1, v1_]) ∧ Kd.R (Kd.int .i64) 2 w' w.heap.size (fun _ => True) v1_ r2 ∧ Below w.heap.size w w' := by
 have hu28 := Tryd.underlying28; have HR0_1 := Aside0.mk hr0_1; have HC0_1 := Aside0.mk hc0_1; clear hr0_1 hc0_1; have HB := am_ (Below.refl w.heap.size w)
 have H : ((spec_l02Make.f k (wrap64 (-a0_0)) l0_1).bind fun bt322 => (some (bt322.1, bt322.2))) = some (r1, r2) := h
 clear h
 replace H := Option.bind_eq_some_iff.mp H
 obtain ⟨⟨t322, t323⟩, A20, H⟩ := H
 replace H : (some (t322, t323)) = some (r1, r2) := H
 have A2 := Aside0.mk A20; clear A20
 simp only [Option.some.injEq, Prod.mk.injEq] at H
 obtain ⟨rfl, rfl⟩ := H
 go_enter Tryd.func94, Tryd.ntmps94
 go_wp2_with (first | ((with_reducible refine gate_dst (N := 1) rfl ?_); refine box_event ?hg (N := 1) ?hd (cs := #[.int .i64 a0_0, .slice A0_1 l0_1.length c0_1]) (t := 28) ?hr ?_; (case hd => rfl); (case hg => rfl); (case hr => first | (go_simp; done) | (go_simp; rfl)); intro gb320 hg w3 hbox hb; have BK320 := am_ (hbox); have GW320 := am_ (gs_ hg HB); have GE320 := am_ (gs_ hg HB); replace HB := am_ (below_step (bl_ HB) hb); clear hb hbox hg) | ((with_reducible refine gate_dst (N := 2) rfl ?_); refine box_event ?hg (N := 2) ?hd (cs := #[.int .i64 0, .slice none 0 0]) (t := 28) ?hr ?_; (case hd => rfl); (case hg => rfl); (case hr => first | (go_simp; done) | (go_simp; rfl)); intro gb321 hg w4 hbox hb; have BK321 := am_ (hbox); have GW321 := am_ (gs_ hg HB); have GE321 := am_ (gs_ hg HB); have NB320_321 := am_ (nl_ hg BK320); have NB321_320 := am_ (ng_ hg BK320); replace BK320 := am_ (blk_below (bk_ BK320) hb); replace HB := am_ (below_step (bl_ HB) hb); clear hb hbox hg; have hnb5 := NB320_321.out; have hnc5 := NB321_320.out; have hcz6_0 : w4.cell? ⟨gb320, 0, none⟩ = some (.int .i64 a0_0) := bc_ BK320 0; have hcz6_1 : w4.cell? ⟨gb320, 1, none⟩ = some (.slice A0_1 l0_1.length c0_1) := bc_ BK320 1; have hfz6_0 := blk_frozen BK320.out 0; have hfz6_1 := blk_frozen BK320.out 1) | ((with_reducible refine gate_callee (f := 89) rfl ?_); refine goesL_ (some 8) rfl rfl Tryd.func89 (by kernel_rfl) rfl #[.int .i64 (wrap64 (-a0_0)), .slice A0_1 l0_1.length c0_1] rfl ma_ ?_; (with_reducible refine (spec_l02Make.calls k (wrap64 (-a0_0)) _ _ l0_1 t322 t323 _ ?side1 ?side2 A2.out).mono ?_); (case side1 => exact cb_ HR0_1 HB); (case side2 => exact HC0_1.out); rintro e w7 ⟨v324, rfl, ho0, hb⟩; refine ⟨_, rfl, ?_⟩; have HO325 := am_ (Kd.R_lower ho0 (below_size (bl_ HB))); replace BK320 := am_ (blk_below (bk_ BK320) hb); replace BK321 := am_ (blk_below (bk_ BK321) hb); replace HB := am_ (below_step (bl_ HB) hb); (try clear hb); (try clear hb2); (try clear hk); (try clear hi); (try clear ho0); have hcz8_0 : w7.cell? ⟨gb321, 0, none⟩ = some (.int .i64 0) := bc_ BK321 0; have hcz8_1 : w7.cell? ⟨gb321, 1, none⟩ = some (.slice none 0 0) := bc_ BK321 1; have hfz8_0 := blk_frozen BK321.out 0; have hfz8_1 := blk_frozen BK321.out 1; obtain ⟨Ao9, co9, eo9⟩ := Kd.R_slice HO325.out; subst eo9))
 refine bodyPost_ret (results_cell_row rfl _ _ gb321 28 #[.int .i64 t322, .slice Ao9 t323.length co9] (0, 0) _ rfl (bp2_ BK321) Tryd.underlying28 rfl (by kernel_rfl)) rfl ?_
 exact ⟨_, by first | rfl | (simp [errW_none, errW_some] <;> rfl) | (simp [*, errW_none, errW_some] <;> rfl), rt_ HO325 BK321, bl_ HB⟩

/-! ### spec_l03Neg: function 73 -/
def spec_l03Neg.f (k : Nat) (a0_0 : Int) (l0_1 : List Int) (a0_2 : Int) : Option (Int × List Int × Int) := (spec_l02Neg.f k a0_0 l0_1).bind fun bt328 => (some (bt328.1, bt328.2, a0_2))
theorem spec_l03Neg.mono : ∀ a0 a1 a2 k, LeO (spec_l03Neg.f k a0 a1 a2) (spec_l03Neg.f (k + 1) a0 a1 a2) := by
  intro a0 a1 a2 k
  unfold spec_l03Neg.f
  repeat' first
      | (with_reducible exact spec_l02Neg.mono _ _ _)
      | (with_reducible exact LeO.refl _)
      | (with_reducible exact LeO.none _)
      | (with_reducible refine LeO.ite ?_ ?_)
      | (with_reducible refine LeO.bind ?_ (fun _ => ?_))
      | exact spec_l02Neg.mono _ _ _
      | exact LeO.none _
      | refine LeO.ite ?_ ?_
      | refine LeO.bind ?_ (fun _ => ?_)
set_option maxHeartbeats 8000000 in
set_option maxRecDepth 100000 in
theorem spec_l03Neg.calls (k : Nat) (a0_0 : Int) (A0_1 : Option Addr) (c0_1 : Nat) (l0_1 : List Int) (a0_2 : Int) (r1 : Int) (r2 : List Int) (r3 : Int) (w : World) (hr0_1 : Kd.C (Kd.int .i64) w A0_1 l0_1.length l0_1) (hc0_1 : l0_1.length ≤ c0_1) (h : spec_l03Neg.f k a0_0 l0_1 a0_2 = some (r1, r2, r3)) :
  Calls Tryd.prog 73 #[.agg #[.int .i64 a0_0, .slice A0_1 l0_1.length c0_1, .int .i64 a0_2]] w fun e w' => ∃ v1_ : Value, e = .returned (.agg #[.int .i64 r1, v1_, .int .i64 r3]) ∧ Kd.R (Kd.int .i64) 2 w' w.heap.size (fun _ => True) v1_ r2 ∧ Below w.heap.size w w' := by
 have hu30 := Tryd.underlying30; have hu28 := Tryd.underlying28; have HR0_1 := Aside0.mk hr0_1; have HC0_1 := Aside0.mk hc0_1; clear hr0_1 hc0_1; have HB := am_ (Below.refl w.heap.size w)
 have H : ((spec_l02Neg.f k a0_0 l0_1).bind fun bt328 => (some (bt328.1, bt328.2, a0_2))) = some (r1, r2, r3) := h
 clear h
 replace H := Option.bind_eq_some_iff.mp H
 obtain ⟨⟨t328, t329⟩, A20, H⟩ := H
 replace H : (some (t328, t329, a0_2)) = some (r1, r2, r3) := H
 have A2 := Aside0.mk A20; clear A20
 simp only [Option.some.injEq, Prod.mk.injEq] at H
 obtain ⟨rfl, rfl, rfl⟩ := H
 go_enter Tryd.func73, Tryd.ntmps73
 try go_wp2_with (first | ((with_reducible refine gate_dst (N := 1) rfl ?_); refine box_event ?hg (N := 1) ?hd (cs := #[.int .i64 a0_0, .slice A0_1 l0_1.length c0_1, .int .i64 a0_2]) (t := 30) ?hr ?_; (case hd => rfl); (case hg => rfl); (case hr => first | (go_simp; done) | (go_simp; rfl)); intro gb326 hg w3 hbox hb; have BK326 := am_ (hbox); have GW326 := am_ (gs_ hg HB); have GE326 := am_ (gs_ hg HB); replace HB := am_ (below_step (bl_ HB) hb); clear hb hbox hg) | ((with_reducible refine gate_dst (N := 2) rfl ?_); refine box_event ?hg (N := 2) ?hd (cs := #[.int .i64 0, .slice none 0 0, .int .i64 0]) (t := 30) ?hr ?_; (case hd => rfl); (case hg => rfl); (case hr => first | (go_simp; done) | (go_simp; rfl)); intro gb327 hg w4 hbox hb; have BK327 := am_ (hbox); have GW327 := am_ (gs_ hg HB); have GE327 := am_ (gs_ hg HB); have NB326_327 := am_ (nl_ hg BK326); have NB327_326 := am_ (ng_ hg BK326); replace BK326 := am_ (blk_below (bk_ BK326) hb); replace HB := am_ (below_step (bl_ HB) hb); clear hb hbox hg))
 have n0_ := am_ (blk_drew BK326.out); have n1_ := am_ (blk_drew BK327.out); have n2_ := am_ (below_drew1 HB.out); clear BK326 BK327 HB; have BK326 := n0_; have BK327 := n1_; have HB := n2_; clear n0_ n1_ n2_
 refine start_ (n := 7) (S := fun w' => w'.cell? ⟨gb326, 0, none⟩ = some (.int .i64 a0_0) ∧ w'.cell? ⟨gb326, 1, none⟩ = some (.slice A0_1 l0_1.length c0_1) ∧ w'.cell? ⟨gb326, 2, none⟩ = some (.int .i64 a0_2)) (ds := []) #[false, false, false, false, false, false, false] (by kernel_rfl) rfl rfl ⟨bc_ BK326 0, bc_ BK326 1, bc_ BK326 2⟩ (fun hHeld => ?_)
 generalize w4.drew = w5 at BK326 BK327 HB hHeld ⊢
 refine pure_ (i := 0) (N := some 3) (v := ?_) (a' := ?_) #[true, false, false, false, false, false, false] rfl rfl (by kernel_rfl) (fun _ _ _ h => h) (Or.inl ⟨by rfl, ?_⟩) ?_ ?_
 rotate_left
 ·intro w'
  go_simp
  with_reducible rfl
 rotate_left
 ·exact nm_
 refine pure_ (i := 3) (N := some 6) (v := ?_) (a' := ?_) #[true, false, false, true, false, false, false] rfl rfl (by kernel_rfl) (fun _ _ _ h => h) (Or.inl ⟨by rfl, ?_⟩) ?_ ?_
 rotate_left
 ·intro w'
  go_simp
  with_reducible rfl
 rotate_left
 ·exact nm_
 refine take_ (i := 1) (N := some 4) (v := ?_) (a' := ?_) #[true, true, false, true, false, false, false] rfl rfl (by kernel_rfl) (fun _ _ _ h => h) (Or.inl ⟨by rfl, ?_⟩) hHeld ?_ ?_
 rotate_left
 ·rintro w' ⟨s0, s1, s2⟩
  go_simp
  with_reducible rfl
 rotate_left
 ·exact nm_
 refine take_ (i := 4) (N := some 7) (v := ?_) (a' := ?_) #[true, true, false, true, true, false, false] rfl rfl (by kernel_rfl) (fun _ _ _ h => h) (Or.inl ⟨by rfl, ?_⟩) hHeld ?_ ?_
 rotate_left
 ·rintro w' ⟨s0, s1, s2⟩
  go_simp
  with_reducible rfl
 rotate_left
 ·exact nm_
 refine one_ (i := 2) (N := some 5) #[true, true, true, true, true, false, false] rfl rfl (by kernel_rfl) (by decide) (fun K hK => ?_)
 refine goes_ Tryd.func94 (by kernel_rfl) rfl #[.agg #[.int .i64 a0_0, .slice A0_1 l0_1.length c0_1]] (by rfl) rfl rfl ma_ ?_
 with_reducible refine (spec_l02Neg.calls k a0_0 _ _ l0_1 t328 t329 _ ?side1 ?side2 A2.out).mono ?_
 (case side1 => exact cb_ HR0_1 HB)
 (case side2 => exact HC0_1.out)
 rintro e w6 ⟨v330, rfl, ho0, hb⟩
 refine ⟨_, rfl, ?_⟩
 have n0_ := am_ (Kd.R_lower ho0 (below_size (bl_ HB))); have n1_ := am_ (blk_below (bk_ BK326) hb); have n2_ := am_ (blk_below (bk_ BK327) hb); have n3_ := am_ (below_step (bl_ HB) hb); clear BK326 BK327 HB; have HO331 := n0_; have BK326 := n1_; have BK327 := n2_; have HB := n3_; clear n0_ n1_ n2_ n3_; (try clear hb); (try clear hb2); (try clear hk); (try clear hi); (try clear ho0)
 obtain ⟨Ao7, co7, eo7⟩ := Kd.R_slice HO331.out
 (first | subst eo7 | (injection eo7 with f1_ f2_ f3_; have f4_ := f1_.symm; have f5_ := f3_.symm; clear f1_ f2_ f3_; subst f4_; subst f5_))
 refine hK.out _ _ ⟨bc_ BK326 0, bc_ BK326 1, bc_ BK326 2⟩ (fun hHeld => ?_)
 clear hK K
 refine norm_ (a' := ?_) ?_ ?_
 rotate_left
 ·show Act.put _ (some 5) _ = _
  exact nm_
 refine pure_ (i := 5) (N := some 8) (v := ?_) (a' := ?_) #[true, true, true, true, true, true, false] rfl rfl (by kernel_rfl) (fun _ _ _ h => h) (Or.inl ⟨by rfl, ?_⟩) ?_ ?_
 rotate_left
 ·intro w'
  go_simp
  with_reducible rfl
 rotate_left
 ·exact nm_
 refine one_ (i := 6) (N := none) #[true, true, true, true, true, true, true] rfl rfl (by kernel_rfl) (by decide) (fun K hK => ?_)
 have hs8 : w6.cell? ⟨gb327, 0, none⟩ = some (.int .i64 0) := bc_ BK327 0
 have hfs8 := blk_frozen BK327.out 0; have hns8_0 := NB326_327.out; have hms8_0 := NB327_326.out
 have hs9 : w6.cell? ⟨gb327, 1, none⟩ = some (.slice none 0 0) := bc_ BK327 1
 have hfs9 := blk_frozen BK327.out 1; have hns9_0 := NB326_327.out; have hms9_0 := NB327_326.out
 have hs10 : w6.cell? ⟨gb327, 2, none⟩ = some (.int .i64 0) := bc_ BK327 2
 have hfs10 := blk_frozen BK327.out 2; have hns10_0 := NB326_327.out; have hms10_0 := NB327_326.out
 refine skip_ (w1 := ?_) (by rfl) rfl ?_ ?_
 rotate_left
 ·go_simp
  rfl
 refine hK.out _ _ ⟨((cell_far (p := ⟨gb327, _, none⟩) NB326_327.out _).trans (((cell_far (p := ⟨gb327, _, none⟩) NB326_327.out _).trans (((cell_far (p := ⟨gb327, _, none⟩) NB326_327.out _).trans (hHeld.1)))))), ((cell_far (p := ⟨gb327, _, none⟩) NB326_327.out _).trans (((cell_far (p := ⟨gb327, _, none⟩) NB326_327.out _).trans (((cell_far (p := ⟨gb327, _, none⟩) NB326_327.out _).trans (hHeld.2.1)))))), ((cell_far (p := ⟨gb327, _, none⟩) NB326_327.out _).trans (((cell_far (p := ⟨gb327, _, none⟩) NB326_327.out _).trans (((cell_far (p := ⟨gb327, _, none⟩) NB326_327.out _).trans (hHeld.2.2))))))⟩ (fun hHeld => ?_)
 clear hK K
 refine done_ (by kernel_rfl) ?_
 try go_wp2
 refine bodyPost_ret (results_cell_row rfl _ _ gb327 30 #[.int .i64 t328, .slice Ao7 t329.length co7, .int .i64 a0_2] (0, 0) _ rfl (bp3_ BK327) Tryd.underlying30 rfl (by kernel_rfl)) rfl ?_
 exact ⟨_, by first | rfl | (simp [errW_none, errW_some] <;> rfl) | (simp [*, errW_none, errW_some] <;> rfl), ru_ HO331 BK327, bl_ HB⟩

/-! ### spec_l03Sub: function 65 -/
def spec_l03Sub.f (k : Nat) (a0_0 : Int) (l0_1 : List Int) (a0_2 : Int) (a1_0 : Int) (l1_1 : List Int) (a1_2 : Int) : Option (Int × List Int × Int) := (spec_l03Neg.f k a1_0 l1_1 a1_2).bind fun bt335 => ((spec_l03Add.f k a0_0 l0_1 a0_2 bt335.1 bt335.2.1 bt335.2.2).bind fun bt340 => (some (bt340.1, bt340.2.1, bt340.2.2)))
theorem spec_l03Sub.mono : ∀ a0 a1 a2 a3 a4 a5 k, LeO (spec_l03Sub.f k a0 a1 a2 a3 a4 a5) (spec_l03Sub.f (k + 1) a0 a1 a2 a3 a4 a5) := by
  intro a0 a1 a2 a3 a4 a5 k
  unfold spec_l03Sub.f
  repeat' first
      | (with_reducible exact spec_l03Add.mono _ _ _ _ _ _ _)
      | (with_reducible exact spec_l03Neg.mono _ _ _ _)
      | (with_reducible exact LeO.refl _)
      | (with_reducible exact LeO.none _)
      | (with_reducible refine LeO.ite ?_ ?_)
      | (with_reducible refine LeO.bind ?_ (fun _ => ?_))
      | exact spec_l03Add.mono _ _ _ _ _ _ _
      | exact spec_l03Neg.mono _ _ _ _
      | exact LeO.none _
      | refine LeO.ite ?_ ?_
      | refine LeO.bind ?_ (fun _ => ?_)
set_option maxHeartbeats 8000000 in
set_option maxRecDepth 100000 in
theorem spec_l03Sub.calls (k : Nat) (a0_0 : Int) (A0_1 : Option Addr) (c0_1 : Nat) (l0_1 : List Int) (a0_2 : Int) (a1_0 : Int) (A1_1 : Option Addr) (c1_1 : Nat) (l1_1 : List Int) (a1_2 : Int) (r1 : Int) (r2 : List Int) (r3 : Int) (w : World) (hr0_1 : Kd.C (Kd.int .i64) w A0_1 l0_1.length l0_1) (hc0_1 : l0_1.length ≤ c0_1) (hr1_1 : Kd.C (Kd.int .i64) w A1_1 l1_1.length l1_1) (hc1_1 : l1_1.length ≤ c1_1) (h : spec_l03Sub.f k a0_0 l0_1 a0_2 a1_0 l1_1 a1_2 = some (r1, r2, r3)) :
  Calls Tryd.prog 65 #[.agg #[.int .i64 a0_0, .slice A0_1 l0_1.length c0_1, .int .i64 a0_2], .agg #[.int .i64 a1_0, .slice A1_1 l1_1.length c1_1, .int .i64 a1_2]] w fun e w' => ∃ v1_ : Value, e = .returned (.agg #[.int .i64 r1, v1_, .int .i64 r3]) ∧ Kd.R (Kd.int .i64) 2 w' w.heap.size (fun _ => True) v1_ r2 ∧ Below w.heap.size w w' := by
 have hu30 := Tryd.underlying30; have HR0_1 := Aside0.mk hr0_1; have HC0_1 := Aside0.mk hc0_1; clear hr0_1 hc0_1; have HR1_1 := Aside0.mk hr1_1; have HC1_1 := Aside0.mk hc1_1; clear hr1_1 hc1_1; have HB := am_ (Below.refl w.heap.size w)
 have H : ((spec_l03Neg.f k a1_0 l1_1 a1_2).bind fun bt335 => ((spec_l03Add.f k a0_0 l0_1 a0_2 bt335.1 bt335.2.1 bt335.2.2).bind fun bt340 => (some (bt340.1, bt340.2.1, bt340.2.2)))) = some (r1, r2, r3) := h
 clear h
 replace H := Option.bind_eq_some_iff.mp H
 obtain ⟨⟨t335, t336, t339⟩, A30, H⟩ := H
 replace H : ((spec_l03Add.f k a0_0 l0_1 a0_2 t335 t336 t339).bind fun bt340 => (some (bt340.1, bt340.2.1, bt340.2.2))) = some (r1, r2, r3) := H
 have A3 := Aside0.mk A30; clear A30
 replace H := Option.bind_eq_some_iff.mp H
 obtain ⟨⟨t340, t341, t344⟩, A40, H⟩ := H
 replace H : (some (t340, t341, t344)) = some (r1, r2, r3) := H
 have A4 := Aside0.mk A40; clear A40
 simp only [Option.some.injEq, Prod.mk.injEq] at H
 obtain ⟨rfl, rfl, rfl⟩ := H
 go_enter Tryd.func65, Tryd.ntmps65
 try go_wp2_with (first | ((with_reducible refine gate_dst (N := 2) rfl ?_); refine box_event ?hg (N := 2) ?hd (cs := #[.int .i64 a0_0, .slice A0_1 l0_1.length c0_1, .int .i64 a0_2]) (t := 30) ?hr ?_; (case hd => rfl); (case hg => rfl); (case hr => first | (go_simp; done) | (go_simp; rfl)); intro gb332 hg w5 hbox hb; have BK332 := am_ (hbox); have GW332 := am_ (gs_ hg HB); have GE332 := am_ (gs_ hg HB); replace HB := am_ (below_step (bl_ HB) hb); clear hb hbox hg) | ((with_reducible refine gate_dst (N := 3) rfl ?_); refine box_event ?hg (N := 3) ?hd (cs := #[.int .i64 a1_0, .slice A1_1 l1_1.length c1_1, .int .i64 a1_2]) (t := 30) ?hr ?_; (case hd => rfl); (case hg => rfl); (case hr => first | (go_simp; done) | (go_simp; rfl)); intro gb333 hg w6 hbox hb; have BK333 := am_ (hbox); have GW333 := am_ (gs_ hg HB); have GE333 := am_ (gs_ hg HB); have NB332_333 := am_ (nl_ hg BK332); have NB333_332 := am_ (ng_ hg BK332); replace BK332 := am_ (blk_below (bk_ BK332) hb); replace HB := am_ (below_step (bl_ HB) hb); clear hb hbox hg) | ((with_reducible refine gate_dst (N := 4) rfl ?_); refine box_event ?hg (N := 4) ?hd (cs := #[.int .i64 0, .slice none 0 0, .int .i64 0]) (t := 30) ?hr ?_; (case hd => rfl); (case hg => rfl); (case hr => first | (go_simp; done) | (go_simp; rfl)); intro gb334 hg w7 hbox hb; have BK334 := am_ (hbox); have GW334 := am_ (gs_ hg HB); have GE334 := am_ (gs_ hg HB); have NB332_334 := am_ (nl_ hg BK332); have NB334_332 := am_ (ng_ hg BK332); have NB333_334 := am_ (nl_ hg BK333); have NB334_333 := am_ (ng_ hg BK333); replace BK332 := am_ (blk_below (bk_ BK332) hb); replace BK333 := am_ (blk_below (bk_ BK333) hb); replace HB := am_ (below_step (bl_ HB) hb); clear hb hbox hg))
 have n0_ := am_ (blk_drew BK332.out); have n1_ := am_ (blk_drew BK333.out); have n2_ := am_ (blk_drew BK334.out); have n3_ := am_ (below_drew1 HB.out); clear BK332 BK333 BK334 HB; have BK332 := n0_; have BK333 := n1_; have BK334 := n2_; have HB := n3_; clear n0_ n1_ n2_ n3_
 refine start_ (n := 5) (S := fun w' => w'.cell? ⟨gb332, 0, none⟩ = some (.int .i64 a0_0) ∧ w'.cell? ⟨gb332, 1, none⟩ = some (.slice A0_1 l0_1.length c0_1) ∧ w'.cell? ⟨gb332, 2, none⟩ = some (.int .i64 a0_2) ∧ w'.cell? ⟨gb333, 0, none⟩ = some (.int .i64 a1_0) ∧ w'.cell? ⟨gb333, 1, none⟩ = some (.slice A1_1 l1_1.length c1_1) ∧ w'.cell? ⟨gb333, 2, none⟩ = some (.int .i64 a1_2)) (ds := []) #[false, false, false, false, false] (by kernel_rfl) rfl rfl ⟨bc_ BK332 0, bc_ BK332 1, bc_ BK332 2, bc_ BK333 0, bc_ BK333 1, bc_ BK333 2⟩ (fun hHeld => ?_)
 generalize w7.drew = w8 at BK332 BK333 BK334 HB hHeld ⊢
 refine take_ (i := 0) (N := some 5) (v := ?_) (a' := ?_) #[true, false, false, false, false] rfl rfl (by kernel_rfl) (fun _ _ _ h => h) (Or.inl ⟨by rfl, ?_⟩) hHeld ?_ ?_
 rotate_left
 ·rintro w' ⟨s0, s1, s2, s3, s4, s5⟩
  go_simp
  with_reducible rfl
 rotate_left
 ·exact nm_
 refine take_ (i := 1) (N := some 6) (v := ?_) (a' := ?_) #[true, true, false, false, false] rfl rfl (by kernel_rfl) (fun _ _ _ h => h) (Or.inl ⟨by rfl, ?_⟩) hHeld ?_ ?_
 rotate_left
 ·rintro w' ⟨s0, s1, s2, s3, s4, s5⟩
  go_simp
  with_reducible rfl
 rotate_left
 ·exact nm_
 refine one_ (i := 2) (N := some 7) #[true, true, true, false, false] rfl rfl (by kernel_rfl) (by decide) (fun K hK => ?_)
 refine goes_ Tryd.func73 (by kernel_rfl) rfl #[.agg #[.int .i64 a1_0, .slice A1_1 l1_1.length c1_1, .int .i64 a1_2]] (by rfl) rfl rfl ma_ ?_
 with_reducible refine (spec_l03Neg.calls k a1_0 _ _ l1_1 a1_2 t335 t336 t339 _ ?side1 ?side2 A3.out).mono ?_
 (case side1 => exact cb_ HR1_1 HB)
 (case side2 => exact HC1_1.out)
 rintro e w9 ⟨v337, rfl, ho0, hb⟩
 refine ⟨_, rfl, ?_⟩
 have n0_ := am_ (Kd.R_lower ho0 (below_size (bl_ HB))); have n1_ := am_ (blk_below (bk_ BK332) hb); have n2_ := am_ (blk_below (bk_ BK333) hb); have n3_ := am_ (blk_below (bk_ BK334) hb); have n4_ := am_ (below_step (bl_ HB) hb); clear BK332 BK333 BK334 HB; have HO338 := n0_; have BK332 := n1_; have BK333 := n2_; have BK334 := n3_; have HB := n4_; clear n0_ n1_ n2_ n3_ n4_; (try clear hb); (try clear hb2); (try clear hk); (try clear hi); (try clear ho0)
 obtain ⟨Ao10, co10, eo10⟩ := Kd.R_slice HO338.out
 (first | subst eo10 | (injection eo10 with f1_ f2_ f3_; have f4_ := f1_.symm; have f5_ := f3_.symm; clear f1_ f2_ f3_; subst f4_; subst f5_))
 refine hK.out _ _ ⟨bc_ BK332 0, bc_ BK332 1, bc_ BK332 2, bc_ BK333 0, bc_ BK333 1, bc_ BK333 2⟩ (fun hHeld => ?_)
 clear hK K
 refine norm_ (a' := ?_) ?_ ?_
 rotate_left
 ·show Act.put _ (some 7) _ = _
  exact nm_
 refine one_ (i := 3) (N := some 8) #[true, true, true, true, false] rfl rfl (by kernel_rfl) (by decide) (fun K hK => ?_)
 refine goes_ Tryd.func38 (by kernel_rfl) rfl #[.agg #[.int .i64 a0_0, .slice A0_1 l0_1.length c0_1, .int .i64 a0_2], .agg #[.int .i64 t335, .slice Ao10 t336.length co10, .int .i64 t339]] (by rfl) rfl rfl ma_ ?_
 with_reducible refine (spec_l03Add.calls k a0_0 _ _ l0_1 a0_2 t335 _ _ t336 t339 t340 t341 t344 _ ?side1 ?side2 ?side3 ?side4 A4.out).mono ?_
 (case side1 => exact cb_ HR0_1 HB)
 (case side2 => exact HC0_1.out)
 (case side3 => exact cr_ HO338)
 (case side4 => exact (Kd.R_reads' HO338.out).2.1)
 rintro e w11 ⟨v342, rfl, ho0, hb⟩
 refine ⟨_, rfl, ?_⟩
 have n0_ := am_ (Kd.R_elder' (kr_ HO338) (Kd.R_base ho0) hb); have n1_ := am_ (Kd.R_lower (Kd.R_new' ho0 (Kd.R_lt (kr_ HO338))) (below_size (bl_ HB))); have n2_ := am_ (blk_below (bk_ BK332) hb); have n3_ := am_ (blk_below (bk_ BK333) hb); have n4_ := am_ (blk_below (bk_ BK334) hb); have n5_ := am_ (below_step (bl_ HB) hb); clear HO338 BK332 BK333 BK334 HB; have HO338 := n0_; have HO343 := n1_; have BK332 := n2_; have BK333 := n3_; have BK334 := n4_; have HB := n5_; clear n0_ n1_ n2_ n3_ n4_ n5_; (try clear hb); (try clear hb2); (try clear hk); (try clear hi); (try clear ho0)
 obtain ⟨Ao13, co13, eo13⟩ := Kd.R_slice HO343.out
 (first | subst eo13 | (injection eo13 with f1_ f2_ f3_; have f4_ := f1_.symm; have f5_ := f3_.symm; clear f1_ f2_ f3_; subst f4_; subst f5_))
 refine hK.out _ _ ⟨bc_ BK332 0, bc_ BK332 1, bc_ BK332 2, bc_ BK333 0, bc_ BK333 1, bc_ BK333 2⟩ (fun hHeld => ?_)
 clear hK K
 refine norm_ (a' := ?_) ?_ ?_
 rotate_left
 ·show Act.put _ (some 8) _ = _
  exact nm_
 refine one_ (i := 4) (N := none) #[true, true, true, true, true] rfl rfl (by kernel_rfl) (by decide) (fun K hK => ?_)
 have hs12 : w11.cell? ⟨gb334, 0, none⟩ = some (.int .i64 0) := bc_ BK334 0
 have hfs12 := blk_frozen BK334.out 0; have hns12_0 := NB332_334.out; have hns12_1 := NB333_334.out; have hms12_0 := NB334_332.out; have hms12_1 := NB334_333.out
 have hs14 : w11.cell? ⟨gb334, 1, none⟩ = some (.slice none 0 0) := bc_ BK334 1
 have hfs14 := blk_frozen BK334.out 1; have hns14_0 := NB332_334.out; have hns14_1 := NB333_334.out; have hms14_0 := NB334_332.out; have hms14_1 := NB334_333.out
 have hs15 : w11.cell? ⟨gb334, 2, none⟩ = some (.int .i64 0) := bc_ BK334 2
 have hfs15 := blk_frozen BK334.out 2; have hns15_0 := NB332_334.out; have hns15_1 := NB333_334.out; have hms15_0 := NB334_332.out; have hms15_1 := NB334_333.out
 refine skip_ (w1 := ?_) (by rfl) rfl ?_ ?_
 rotate_left
 ·go_simp
  rfl
 refine hK.out _ _ ⟨((cell_far (p := ⟨gb334, _, none⟩) NB332_334.out _).trans (((cell_far (p := ⟨gb334, _, none⟩) NB332_334.out _).trans (((cell_far (p := ⟨gb334, _, none⟩) NB332_334.out _).trans (hHeld.1)))))), ((cell_far (p := ⟨gb334, _, none⟩) NB332_334.out _).trans (((cell_far (p := ⟨gb334, _, none⟩) NB332_334.out _).trans (((cell_far (p := ⟨gb334, _, none⟩) NB332_334.out _).trans (hHeld.2.1)))))), ((cell_far (p := ⟨gb334, _, none⟩) NB332_334.out _).trans (((cell_far (p := ⟨gb334, _, none⟩) NB332_334.out _).trans (((cell_far (p := ⟨gb334, _, none⟩) NB332_334.out _).trans (hHeld.2.2.1)))))), ((cell_far (p := ⟨gb334, _, none⟩) NB333_334.out _).trans (((cell_far (p := ⟨gb334, _, none⟩) NB333_334.out _).trans (((cell_far (p := ⟨gb334, _, none⟩) NB333_334.out _).trans (hHeld.2.2.2.1)))))), ((cell_far (p := ⟨gb334, _, none⟩) NB333_334.out _).trans (((cell_far (p := ⟨gb334, _, none⟩) NB333_334.out _).trans (((cell_far (p := ⟨gb334, _, none⟩) NB333_334.out _).trans (hHeld.2.2.2.2.1)))))), ((cell_far (p := ⟨gb334, _, none⟩) NB333_334.out _).trans (((cell_far (p := ⟨gb334, _, none⟩) NB333_334.out _).trans (((cell_far (p := ⟨gb334, _, none⟩) NB333_334.out _).trans (hHeld.2.2.2.2.2))))))⟩ (fun hHeld => ?_)
 clear hK K
 refine done_ (by kernel_rfl) ?_
 try go_wp2
 refine bodyPost_ret (results_cell_row rfl _ _ gb334 30 #[.int .i64 t340, .slice Ao13 t341.length co13, .int .i64 t344] (0, 0) _ rfl (bp3_ BK334) Tryd.underlying30 rfl (by kernel_rfl)) rfl ?_
 exact ⟨_, by first | rfl | (simp [errW_none, errW_some] <;> rfl) | (simp [*, errW_none, errW_some] <;> rfl), ru_ HO343 BK334, bl_ HB⟩

/-! ### spec_SubtractDyadics: function 34 -/
def spec_SubtractDyadics.f (k : Nat) (a0_0 : Int) (l0_1 : List Int) (a0_2 : Int) (a1_0 : Int) (l1_1 : List Int) (a1_2 : Int) : Option (Int × List Int × Int × Int) := (spec_l03Both.f k a0_0 l0_1 a0_2 a1_0 l1_1 a1_2).bind fun t348 => (if t348 = 0 then ((spec_l03Sub.f k a0_0 l0_1 a0_2 a1_0 l1_1 a1_2).bind fun bt349 => ((spec_l03Fit.f k bt349.1 bt349.2.1 bt349.2.2).bind fun bt354 => (some (bt354.1, bt354.2.1, bt354.2.2.1, bt354.2.2.2)))) else (some (0, ([] : List Int), 0, t348)))
theorem spec_SubtractDyadics.mono : ∀ a0 a1 a2 a3 a4 a5 k, LeO (spec_SubtractDyadics.f k a0 a1 a2 a3 a4 a5) (spec_SubtractDyadics.f (k + 1) a0 a1 a2 a3 a4 a5) := by
  intro a0 a1 a2 a3 a4 a5 k
  unfold spec_SubtractDyadics.f
  repeat' first
      | (with_reducible exact spec_l03Both.mono _ _ _ _ _ _ _)
      | (with_reducible exact spec_l03Fit.mono _ _ _ _)
      | (with_reducible exact spec_l03Sub.mono _ _ _ _ _ _ _)
      | (with_reducible exact LeO.refl _)
      | (with_reducible exact LeO.none _)
      | (with_reducible refine LeO.ite ?_ ?_)
      | (with_reducible refine LeO.bind ?_ (fun _ => ?_))
      | exact spec_l03Both.mono _ _ _ _ _ _ _
      | exact spec_l03Fit.mono _ _ _ _
      | exact spec_l03Sub.mono _ _ _ _ _ _ _
      | exact LeO.none _
      | refine LeO.ite ?_ ?_
      | refine LeO.bind ?_ (fun _ => ?_)
set_option maxHeartbeats 8000000 in
set_option maxRecDepth 100000 in
theorem spec_SubtractDyadics.calls (k : Nat) (a0_0 : Int) (A0_1 : Option Addr) (c0_1 : Nat) (l0_1 : List Int) (a0_2 : Int) (a1_0 : Int) (A1_1 : Option Addr) (c1_1 : Nat) (l1_1 : List Int) (a1_2 : Int) (r1 : Int) (r2 : List Int) (r3 : Int) (r4 : Int) (w : World) (hr0_1 : Kd.C (Kd.int .i64) w A0_1 l0_1.length l0_1) (hc0_1 : l0_1.length ≤ c0_1) (hr1_1 : Kd.C (Kd.int .i64) w A1_1 l1_1.length l1_1) (hc1_1 : l1_1.length ≤ c1_1) (h : spec_SubtractDyadics.f k a0_0 l0_1 a0_2 a1_0 l1_1 a1_2 = some (r1, r2, r3, r4)) :
  Calls Tryd.prog 34 #[.agg #[.int .i64 a0_0, .slice A0_1 l0_1.length c0_1, .int .i64 a0_2], .agg #[.int .i64 a1_0, .slice A1_1 l1_1.length c1_1, .int .i64 a1_2]] w fun e w' => ∃ v1_ : Value, e = .returned (.tuple #[.agg #[.int .i64 r1, v1_, .int .i64 r3], .int .i64 r4]) ∧ Kd.R (Kd.int .i64) 2 w' w.heap.size (fun _ => True) v1_ r2 ∧ Below w.heap.size w w' := by
 have hu30 := Tryd.underlying30; have HR0_1 := Aside0.mk hr0_1; have HC0_1 := Aside0.mk hc0_1; clear hr0_1 hc0_1; have HR1_1 := Aside0.mk hr1_1; have HC1_1 := Aside0.mk hc1_1; clear hr1_1 hc1_1; have HB := am_ (Below.refl w.heap.size w)
 have H : ((spec_l03Both.f k a0_0 l0_1 a0_2 a1_0 l1_1 a1_2).bind fun t348 => (if t348 = 0 then ((spec_l03Sub.f k a0_0 l0_1 a0_2 a1_0 l1_1 a1_2).bind fun bt349 => ((spec_l03Fit.f k bt349.1 bt349.2.1 bt349.2.2).bind fun bt354 => (some (bt354.1, bt354.2.1, bt354.2.2.1, bt354.2.2.2)))) else (some (0, ([] : List Int), 0, t348)))) = some (r1, r2, r3, r4) := h
 clear h
 replace H := Option.bind_eq_some_iff.mp H
 obtain ⟨t348, A30, H⟩ := H
 replace H : (if t348 = 0 then ((spec_l03Sub.f k a0_0 l0_1 a0_2 a1_0 l1_1 a1_2).bind fun bt349 => ((spec_l03Fit.f k bt349.1 bt349.2.1 bt349.2.2).bind fun bt354 => (some (bt354.1, bt354.2.1, bt354.2.2.1, bt354.2.2.2)))) else (some (0, ([] : List Int), 0, t348))) = some (r1, r2, r3, r4) := H
 have A3 := Aside0.mk A30; clear A30
 by_cases c4 : t348 = 0
 ·rw [if_pos c4] at H
  have c4b0 : (t348 == 0) = true := beq_iff_eq.mpr c4
  have c4b1 : (t348 != 0) = false := bne_eq_false_iff_eq.mpr c4
  clear c4
  replace H := Option.bind_eq_some_iff.mp H
  obtain ⟨⟨t349, t350, t353⟩, A50, H⟩ := H
  replace H : ((spec_l03Fit.f k t349 t350 t353).bind fun bt354 => (some (bt354.1, bt354.2.1, bt354.2.2.1, bt354.2.2.2))) = some (r1, r2, r3, r4) := H
  have A5 := Aside0.mk A50; clear A50
  replace H := Option.bind_eq_some_iff.mp H
  obtain ⟨⟨t354, t355, t358, t359⟩, A60, H⟩ := H
  replace H : (some (t354, t355, t358, t359)) = some (r1, r2, r3, r4) := H
  have A6 := Aside0.mk A60; clear A60
  simp only [Option.some.injEq, Prod.mk.injEq] at H
  obtain ⟨rfl, rfl, rfl, rfl⟩ := H
  go_enter Tryd.func34, Tryd.ntmps34
  go_wp2_with (first | ((with_reducible refine gate_dst (N := 2) rfl ?_); refine box_event ?hg (N := 2) ?hd (cs := #[.int .i64 a0_0, .slice A0_1 l0_1.length c0_1, .int .i64 a0_2]) (t := 30) ?hr ?_; (case hd => rfl); (case hg => rfl); (case hr => first | (go_simp; done) | (go_simp; rfl)); intro gb345 hg w7 hbox hb; have BK345 := am_ (hbox); have GW345 := am_ (gs_ hg HB); have GE345 := am_ (gs_ hg HB); replace HB := am_ (below_step (bl_ HB) hb); clear hb hbox hg) | ((with_reducible refine gate_dst (N := 3) rfl ?_); refine box_event ?hg (N := 3) ?hd (cs := #[.int .i64 a1_0, .slice A1_1 l1_1.length c1_1, .int .i64 a1_2]) (t := 30) ?hr ?_; (case hd => rfl); (case hg => rfl); (case hr => first | (go_simp; done) | (go_simp; rfl)); intro gb346 hg w8 hbox hb; have BK346 := am_ (hbox); have GW346 := am_ (gs_ hg HB); have GE346 := am_ (gs_ hg HB); have NB345_346 := am_ (nl_ hg BK345); have NB346_345 := am_ (ng_ hg BK345); replace BK345 := am_ (blk_below (bk_ BK345) hb); replace HB := am_ (below_step (bl_ HB) hb); clear hb hbox hg) | ((with_reducible refine gate_dst (N := 4) rfl ?_); refine box_event ?hg (N := 4) ?hd (cs := #[.int .i64 0, .slice none 0 0, .int .i64 0]) (t := 30) ?hr ?_; (case hd => rfl); (case hg => rfl); (case hr => first | (go_simp; done) | (go_simp; rfl)); intro gb347 hg w9 hbox hb; have BK347 := am_ (hbox); have GW347 := am_ (gs_ hg HB); have GE347 := am_ (gs_ hg HB); have NB345_347 := am_ (nl_ hg BK345); have NB347_345 := am_ (ng_ hg BK345); have NB346_347 := am_ (nl_ hg BK346); have NB347_346 := am_ (ng_ hg BK346); replace BK345 := am_ (blk_below (bk_ BK345) hb); replace BK346 := am_ (blk_below (bk_ BK346) hb); replace HB := am_ (below_step (bl_ HB) hb); clear hb hbox hg; have hnb10 := NB345_346.out; have hnc10 := NB346_345.out; have hnb11 := NB345_347.out; have hnc11 := NB347_345.out; have hcz12_0 : w9.cell? ⟨gb345, 0, none⟩ = some (.int .i64 a0_0) := bc_ BK345 0; have hcz12_1 : w9.cell? ⟨gb345, 1, none⟩ = some (.slice A0_1 l0_1.length c0_1) := bc_ BK345 1; have hcz12_2 : w9.cell? ⟨gb345, 2, none⟩ = some (.int .i64 a0_2) := bc_ BK345 2; have hfz12_0 := blk_frozen BK345.out 0; have hfz12_1 := blk_frozen BK345.out 1; have hfz12_2 := blk_frozen BK345.out 2; have hnb13 := NB346_347.out; have hnc13 := NB347_346.out; have hcz14_0 : w9.cell? ⟨gb346, 0, none⟩ = some (.int .i64 a1_0) := bc_ BK346 0; have hcz14_1 : w9.cell? ⟨gb346, 1, none⟩ = some (.slice A1_1 l1_1.length c1_1) := bc_ BK346 1; have hcz14_2 : w9.cell? ⟨gb346, 2, none⟩ = some (.int .i64 a1_2) := bc_ BK346 2; have hfz14_0 := blk_frozen BK346.out 0; have hfz14_1 := blk_frozen BK346.out 1; have hfz14_2 := blk_frozen BK346.out 2) | ((with_reducible refine gate_callee (f := 36) rfl ?_); refine goesL_ (some 11) rfl rfl Tryd.func36 (by kernel_rfl) rfl #[.agg #[.int .i64 a0_0, .slice A0_1 l0_1.length c0_1, .int .i64 a0_2], .agg #[.int .i64 a1_0, .slice A1_1 l1_1.length c1_1, .int .i64 a1_2]] rfl ma_ ?_; (with_reducible refine (spec_l03Both.calls k a0_0 _ _ l0_1 a0_2 a1_0 _ _ l1_1 a1_2 t348 _ ?side1 ?side2 ?side3 ?side4 A3.out).mono ?_); (case side1 => exact cb_ HR0_1 HB); (case side2 => exact HC0_1.out); (case side3 => exact cb_ HR1_1 HB); (case side4 => exact HC1_1.out); rintro e w15 ⟨rfl, hb⟩; refine ⟨_, rfl, ?_⟩; replace BK345 := am_ (blk_below (bk_ BK345) hb); replace BK346 := am_ (blk_below (bk_ BK346) hb); replace BK347 := am_ (blk_below (bk_ BK347) hb); replace HB := am_ (below_step (bl_ HB) hb); (try clear hb); (try clear hb2); (try clear hk); (try clear hi); have hcz16_0 : w15.cell? ⟨gb345, 0, none⟩ = some (.int .i64 a0_0) := bc_ BK345 0; have hcz16_1 : w15.cell? ⟨gb345, 1, none⟩ = some (.slice A0_1 l0_1.length c0_1) := bc_ BK345 1; have hcz16_2 : w15.cell? ⟨gb345, 2, none⟩ = some (.int .i64 a0_2) := bc_ BK345 2; have hfz16_0 := blk_frozen BK345.out 0; have hfz16_1 := blk_frozen BK345.out 1; have hfz16_2 := blk_frozen BK345.out 2; have hcz17_0 : w15.cell? ⟨gb346, 0, none⟩ = some (.int .i64 a1_0) := bc_ BK346 0; have hcz17_1 : w15.cell? ⟨gb346, 1, none⟩ = some (.slice A1_1 l1_1.length c1_1) := bc_ BK346 1; have hcz17_2 : w15.cell? ⟨gb346, 2, none⟩ = some (.int .i64 a1_2) := bc_ BK346 2; have hfz17_0 := blk_frozen BK346.out 0; have hfz17_1 := blk_frozen BK346.out 1; have hfz17_2 := blk_frozen BK346.out 2) | ((with_reducible refine gate_callee (f := 65) rfl ?_); refine goesL_ (some 19) rfl rfl Tryd.func65 (by kernel_rfl) rfl #[.agg #[.int .i64 a0_0, .slice A0_1 l0_1.length c0_1, .int .i64 a0_2], .agg #[.int .i64 a1_0, .slice A1_1 l1_1.length c1_1, .int .i64 a1_2]] rfl ma_ ?_; (with_reducible refine (spec_l03Sub.calls k a0_0 _ _ l0_1 a0_2 a1_0 _ _ l1_1 a1_2 t349 t350 t353 _ ?side1 ?side2 ?side3 ?side4 A5.out).mono ?_); (case side1 => exact cb_ HR0_1 HB); (case side2 => exact HC0_1.out); (case side3 => exact cb_ HR1_1 HB); (case side4 => exact HC1_1.out); rintro e w18 ⟨v351, rfl, ho0, hb⟩; refine ⟨_, rfl, ?_⟩; have HO352 := am_ (Kd.R_lower ho0 (below_size (bl_ HB))); replace BK345 := am_ (blk_below (bk_ BK345) hb); replace BK346 := am_ (blk_below (bk_ BK346) hb); replace BK347 := am_ (blk_below (bk_ BK347) hb); replace HB := am_ (below_step (bl_ HB) hb); (try clear hb); (try clear hb2); (try clear hk); (try clear hi); (try clear ho0); obtain ⟨Ao19, co19, eo19⟩ := Kd.R_slice HO352.out; subst eo19) | ((with_reducible refine gate_callee (f := 37) rfl ?_); refine goesL_ (some 20) rfl rfl Tryd.func37 (by kernel_rfl) rfl #[.agg #[.int .i64 t349, .slice Ao19 t350.length co19, .int .i64 t353]] rfl ma_ ?_; (with_reducible refine (spec_l03Fit.calls k t349 (fun k_ => some k_ = (.slice Ao19 t350.length co19 : Value).ownBlock) (.slice Ao19 t350.length co19) t350 t353 t354 t355 t358 t359 w _ ?side1 ?side2 A6.out).mono ?_); (case side1 => exact bl_ HB); (case side2 => exact Kd.R_tight rfl HO352.out); rintro e w20 ⟨v356, rfl, ho0, hb, hkp⟩; refine ⟨_, rfl, ?_⟩; have n0_ := am_ (blk_kept (bk_ BK345) hkp (fun hs_ => (fun e_ => (Kd.R_ne HO352.out BK345.out (by decide)) e_) hs_)); have n1_ := am_ (blk_kept (bk_ BK346) hkp (fun hs_ => (fun e_ => (Kd.R_ne HO352.out BK346.out (by decide)) e_) hs_)); have n2_ := am_ (blk_kept (bk_ BK347) hkp (fun hs_ => (fun e_ => (Kd.R_ne HO352.out BK347.out (by decide)) e_) hs_)); have n3_ := am_ (Kd.R_mono (ok' := fun k_ => True) ho0 (fun k_ hk_ => trivial)); have n4_ := am_ (hb); clear BK345; clear BK346; clear BK347; clear HB; clear HO352; have BK345 := n0_; have BK346 := n1_; have BK347 := n2_; have HO357 := n3_; have HB := n4_; clear n0_ n1_ n2_ n3_ n4_; (try clear hb); (try clear hkp); (try clear ho0)) | ((with_reducible refine gate_dst (N := 7) rfl ?_); refine box_event ?hg (N := 7) ?hd (cs := #[.int .i64 0, .slice none 0 0, .int .i64 0]) (t := 30) ?hr ?_; (case hd => rfl); (case hg => rfl); (case hr => first | (go_simp; done) | (go_simp; rfl)); intro gb360 hg w21 hbox hb; have BK360 := am_ (hbox); have GW360 := am_ (gs_ hg HB); have GE360 := am_ (gs_ hg HB); have NB345_360 := am_ (nl_ hg BK345); have NB360_345 := am_ (ng_ hg BK345); have NB346_360 := am_ (nl_ hg BK346); have NB360_346 := am_ (ng_ hg BK346); have NB347_360 := am_ (nl_ hg BK347); have NB360_347 := am_ (ng_ hg BK347); replace HO357 := am_ (Kd.R_below (kr_ HO357) hb); replace BK345 := am_ (blk_below (bk_ BK345) hb); replace BK346 := am_ (blk_below (bk_ BK346) hb); replace BK347 := am_ (blk_below (bk_ BK347) hb); replace HB := am_ (below_step (bl_ HB) hb); clear hb hbox hg; have hnb22 := NB360_345.out; have hnc22 := NB345_360.out; have hnb23 := NB360_346.out; have hnc23 := NB346_360.out; have hnb24 := NB360_347.out; have hnc24 := NB347_360.out; have hcz25_0 : w21.cell? ⟨gb360, 0, none⟩ = some (.int .i64 0) := bc_ BK360 0; have hcz25_1 : w21.cell? ⟨gb360, 1, none⟩ = some (.slice none 0 0) := bc_ BK360 1; have hcz25_2 : w21.cell? ⟨gb360, 2, none⟩ = some (.int .i64 0) := bc_ BK360 2; have hfz25_0 := blk_frozen BK360.out 0; have hfz25_1 := blk_frozen BK360.out 1; have hfz25_2 := blk_frozen BK360.out 2; obtain ⟨Ao26, co26, eo26⟩ := Kd.R_slice HO357.out; subst eo26; have hcz27_0 : w21.cell? ⟨gb347, 0, none⟩ = some (.int .i64 0) := bc_ BK347 0; have hcz27_1 : w21.cell? ⟨gb347, 1, none⟩ = some (.slice none 0 0) := bc_ BK347 1; have hcz27_2 : w21.cell? ⟨gb347, 2, none⟩ = some (.int .i64 0) := bc_ BK347 2; have hfz27_0 := blk_frozen BK347.out 0; have hfz27_1 := blk_frozen BK347.out 1; have hfz27_2 := blk_frozen BK347.out 2))
  refine bodyPost_ret (results_ct rfl _ _ gb347 30 #[.int .i64 t354, .slice Ao26 t355.length co26, .int .i64 t358] (0, 0) _ rfl (by (with_reducible repeat (first | refine blk_drewN ?_ _ | refine blk_drew ?_ | refine blk_alloc ?_ _)); refine blk_put (cs := #[.int .i64 t354, .slice Ao26 t355.length co26, .int .i64 0]) ?_ 2 _ rfl; (with_reducible repeat (first | refine blk_drewN ?_ _ | refine blk_drew ?_ | refine blk_alloc ?_ _)); refine blk_put (cs := #[.int .i64 t354, .slice none 0 0, .int .i64 0]) ?_ 1 _ rfl; (with_reducible repeat (first | refine blk_drewN ?_ _ | refine blk_drew ?_ | refine blk_alloc ?_ _)); refine blk_put (cs := #[.int .i64 0, .slice none 0 0, .int .i64 0]) ?_ 0 _ rfl; (with_reducible repeat (first | refine blk_drewN ?_ _ | refine blk_drew ?_ | refine blk_alloc ?_ _)); refine blk_far ?_ NB347_360.out _; (with_reducible repeat (first | refine blk_drewN ?_ _ | refine blk_drew ?_ | refine blk_alloc ?_ _)); refine blk_far ?_ NB347_360.out _; (with_reducible repeat (first | refine blk_drewN ?_ _ | refine blk_drew ?_ | refine blk_alloc ?_ _)); refine blk_far ?_ NB347_360.out _; (with_reducible repeat (first | refine blk_drewN ?_ _ | refine blk_drew ?_ | refine blk_alloc ?_ _)); exact BK347.out) Tryd.underlying30 rfl (by kernel_rfl)) rfl ?_
  exact ⟨_, by first | rfl | (simp [errW_none, errW_some] <;> rfl) | (simp [*, errW_none, errW_some] <;> rfl), by (with_reducible repeat (first | apply Kd.R_alloc | apply Kd.R_drewN | apply Kd.R_drew)); exact Kd.R_mono (Kd.R_far (p := ⟨gb347, 2, none⟩) (Kd.R_far (p := ⟨gb347, 1, none⟩) (Kd.R_far (p := ⟨gb347, 0, none⟩) (Kd.R_far (p := ⟨gb360, 2, none⟩) (Kd.R_far (p := ⟨gb360, 1, none⟩) (Kd.R_far (p := ⟨gb360, 0, none⟩) (Kd.R_types (Kd.R_types HO357.out BK360.out (by decide)) BK347.out (by decide)) (fun _ hk => hk.1.2) (.int .i64 t354)) (fun _ hk => hk.1.2) (.slice Ao26 t355.length co26)) (fun _ hk => hk.1.2) (.int .i64 t358)) (fun _ hk => hk.2) (.int .i64 t354)) (fun _ hk => hk.2) (.slice Ao26 t355.length co26)) (fun _ hk => hk.2) (.int .i64 t358)) (fun _ hk => trivial), bl_ HB⟩
 ·rw [if_neg c4] at H
  have c4b0 : (t348 == 0) = false := beq_eq_false_iff_ne.mpr c4
  have c4b1 : (t348 != 0) = true := bne_iff_ne.mpr c4
  simp only [Option.some.injEq, Prod.mk.injEq] at H
  obtain ⟨rfl, rfl, rfl, rfl⟩ := H
  go_enter Tryd.func34, Tryd.ntmps34
  go_wp2_with (first | ((with_reducible refine gate_dst (N := 2) rfl ?_); refine box_event ?hg (N := 2) ?hd (cs := #[.int .i64 a0_0, .slice A0_1 l0_1.length c0_1, .int .i64 a0_2]) (t := 30) ?hr ?_; (case hd => rfl); (case hg => rfl); (case hr => first | (go_simp; done) | (go_simp; rfl)); intro gb345 hg w28 hbox hb; have BK345 := am_ (hbox); have GW345 := am_ (gs_ hg HB); have GE345 := am_ (gs_ hg HB); replace HB := am_ (below_step (bl_ HB) hb); clear hb hbox hg) | ((with_reducible refine gate_dst (N := 3) rfl ?_); refine box_event ?hg (N := 3) ?hd (cs := #[.int .i64 a1_0, .slice A1_1 l1_1.length c1_1, .int .i64 a1_2]) (t := 30) ?hr ?_; (case hd => rfl); (case hg => rfl); (case hr => first | (go_simp; done) | (go_simp; rfl)); intro gb346 hg w29 hbox hb; have BK346 := am_ (hbox); have GW346 := am_ (gs_ hg HB); have GE346 := am_ (gs_ hg HB); have NB345_346 := am_ (nl_ hg BK345); have NB346_345 := am_ (ng_ hg BK345); replace BK345 := am_ (blk_below (bk_ BK345) hb); replace HB := am_ (below_step (bl_ HB) hb); clear hb hbox hg) | ((with_reducible refine gate_dst (N := 4) rfl ?_); refine box_event ?hg (N := 4) ?hd (cs := #[.int .i64 0, .slice none 0 0, .int .i64 0]) (t := 30) ?hr ?_; (case hd => rfl); (case hg => rfl); (case hr => first | (go_simp; done) | (go_simp; rfl)); intro gb347 hg w30 hbox hb; have BK347 := am_ (hbox); have GW347 := am_ (gs_ hg HB); have GE347 := am_ (gs_ hg HB); have NB345_347 := am_ (nl_ hg BK345); have NB347_345 := am_ (ng_ hg BK345); have NB346_347 := am_ (nl_ hg BK346); have NB347_346 := am_ (ng_ hg BK346); replace BK345 := am_ (blk_below (bk_ BK345) hb); replace BK346 := am_ (blk_below (bk_ BK346) hb); replace HB := am_ (below_step (bl_ HB) hb); clear hb hbox hg; have hnb31 := NB345_346.out; have hnc31 := NB346_345.out; have hnb32 := NB345_347.out; have hnc32 := NB347_345.out; have hcz33_0 : w30.cell? ⟨gb345, 0, none⟩ = some (.int .i64 a0_0) := bc_ BK345 0; have hcz33_1 : w30.cell? ⟨gb345, 1, none⟩ = some (.slice A0_1 l0_1.length c0_1) := bc_ BK345 1; have hcz33_2 : w30.cell? ⟨gb345, 2, none⟩ = some (.int .i64 a0_2) := bc_ BK345 2; have hfz33_0 := blk_frozen BK345.out 0; have hfz33_1 := blk_frozen BK345.out 1; have hfz33_2 := blk_frozen BK345.out 2; have hnb34 := NB346_347.out; have hnc34 := NB347_346.out; have hcz35_0 : w30.cell? ⟨gb346, 0, none⟩ = some (.int .i64 a1_0) := bc_ BK346 0; have hcz35_1 : w30.cell? ⟨gb346, 1, none⟩ = some (.slice A1_1 l1_1.length c1_1) := bc_ BK346 1; have hcz35_2 : w30.cell? ⟨gb346, 2, none⟩ = some (.int .i64 a1_2) := bc_ BK346 2; have hfz35_0 := blk_frozen BK346.out 0; have hfz35_1 := blk_frozen BK346.out 1; have hfz35_2 := blk_frozen BK346.out 2) | ((with_reducible refine gate_callee (f := 36) rfl ?_); refine goesL_ (some 11) rfl rfl Tryd.func36 (by kernel_rfl) rfl #[.agg #[.int .i64 a0_0, .slice A0_1 l0_1.length c0_1, .int .i64 a0_2], .agg #[.int .i64 a1_0, .slice A1_1 l1_1.length c1_1, .int .i64 a1_2]] rfl ma_ ?_; (with_reducible refine (spec_l03Both.calls k a0_0 _ _ l0_1 a0_2 a1_0 _ _ l1_1 a1_2 t348 _ ?side1 ?side2 ?side3 ?side4 A3.out).mono ?_); (case side1 => exact cb_ HR0_1 HB); (case side2 => exact HC0_1.out); (case side3 => exact cb_ HR1_1 HB); (case side4 => exact HC1_1.out); rintro e w36 ⟨rfl, hb⟩; refine ⟨_, rfl, ?_⟩; replace BK345 := am_ (blk_below (bk_ BK345) hb); replace BK346 := am_ (blk_below (bk_ BK346) hb); replace BK347 := am_ (blk_below (bk_ BK347) hb); replace HB := am_ (below_step (bl_ HB) hb); (try clear hb); (try clear hb2); (try clear hk); (try clear hi); have hcz37_0 : w36.cell? ⟨gb347, 0, none⟩ = some (.int .i64 0) := bc_ BK347 0; have hcz37_1 : w36.cell? ⟨gb347, 1, none⟩ = some (.slice none 0 0) := bc_ BK347 1; have hcz37_2 : w36.cell? ⟨gb347, 2, none⟩ = some (.int .i64 0) := bc_ BK347 2; have hfz37_0 := blk_frozen BK347.out 0; have hfz37_1 := blk_frozen BK347.out 1; have hfz37_2 := blk_frozen BK347.out 2))
  refine bodyPost_ret (results_ct rfl _ _ gb347 30 #[.int .i64 0, .slice none 0 0, .int .i64 0] (0, 0) _ rfl (bp3_ BK347) Tryd.underlying30 rfl (by kernel_rfl)) rfl ?_
  exact ⟨_, by first | rfl | (simp [errW_none, errW_some] <;> rfl) | (simp [*, errW_none, errW_some] <;> rfl), by first | exact Kd.R_nil _ _ _ _ _ | exact Kd.N_nil _ _ _ _ _ | exact Kd.V_nil _ _ _ _ _ | exact Kd.Q_nil _ _ _ _ _ | exact Kd.S_nil _ _ _ _ _, bl_ HB⟩

end Go.Proofs.YthddlechoibdkaaDoor.X
