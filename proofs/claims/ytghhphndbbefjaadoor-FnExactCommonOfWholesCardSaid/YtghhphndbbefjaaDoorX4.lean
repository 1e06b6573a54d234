/- Functions of the program as plain Lean functions, each with a proof that its call does what that function says. Printed by a program over the kit's print; conditions stand in each contract. -/
import Derived.Test.YtghhphndbbefjaaDoorSq
import Derived.Test.YtghhphndbbefjaaDoorX0
import Derived.Test.YtghhphndbbefjaaDoorX2
import Derived.Test.YtghhphndbbefjaaDoorX3
namespace Go.Proofs.YtghhphndbbefjaaDoor.X
open Go.RowKit Go.Proofs.YtghhphndbbefjaaDoorW.PrintWords Go.Proofs.YtghhphndbbefjaaDoorW.PrintLast Go.Proofs.YtghhphndbbefjaaDoorW.PrintMore Go.Proofs.YtghhphndbbefjaaDoor.Sq
attribute [local go_sem] max2_int min2_int max_two min_two max_three min_three max_four min_four   -- for this text's walks alone
set_option linter.unusedVariables false
set_option linter.unusedSimpArgs false

/-! ### spec_l02Add: function 105 -/
def spec_l02Add.f (k : Nat) (a0_0 : Int) (l0_1 : List Int) (a1_0 : Int) (l1_1 : List Int) : Option (Int × List Int) := if a0_0 = 0 then ((spec_l02Make.f k a1_0 l1_1).bind fun bt238 => (some (bt238.1, bt238.2))) else (if a1_0 = 0 then ((spec_l02Make.f k a0_0 l0_1).bind fun bt242 => (some (bt242.1, bt242.2))) else (if a0_0 = a1_0 then ((spec_l02Plus.f k l0_1 l1_1).bind fun t246 => ((spec_l02Make.f k a0_0 t246).bind fun bt249 => (some (bt249.1, bt249.2)))) else ((spec_l02CompareLimbs.f k l0_1 l1_1).bind fun t253 => (if t253 ≥ 0 then ((spec_l02Minus.f k l0_1 l1_1).bind fun t254 => ((spec_l02Make.f k a0_0 t254).bind fun bt257 => (some (bt257.1, bt257.2)))) else ((spec_l02Minus.f k l1_1 l0_1).bind fun t261 => ((spec_l02Make.f k a1_0 t261).bind fun bt264 => (some (bt264.1, bt264.2))))))))
theorem spec_l02Add.mono : ∀ a0 a1 a2 a3 k, LeO (spec_l02Add.f k a0 a1 a2 a3) (spec_l02Add.f (k + 1) a0 a1 a2 a3) := by
  intro a0 a1 a2 a3 k
  unfold spec_l02Add.f
  repeat' first
      | (with_reducible exact spec_l02CompareLimbs.mono _ _ _)
      | (with_reducible exact spec_l02Make.mono _ _ _)
      | (with_reducible exact spec_l02Minus.mono _ _ _)
      | (with_reducible exact spec_l02Plus.mono _ _ _)
      | (with_reducible exact LeO.refl _)
      | (with_reducible exact LeO.none _)
      | (with_reducible refine LeO.ite ?_ ?_)
      | (with_reducible refine LeO.bind ?_ (fun _ => ?_))
      | exact spec_l02CompareLimbs.mono _ _ _
      | exact spec_l02Make.mono _ _ _
      | exact spec_l02Minus.mono _ _ _
      | exact spec_l02Plus.mono _ _ _
      | exact LeO.none _
      | refine LeO.ite ?_ ?_
      | refine LeO.bind ?_ (fun _ => ?_)
def spec_l02Add.T6 : Bool × List (List Nat × List Nat) := (true, [([], []), ([0], [0]), ([], []), ([2], [2]), ([], []), ([4], [4]), ([3, 5], [3, 5]), ([1, 6, 6], [1, 6]), ([7, 7, 0, 1, 2, 3, 4, 5, 6, 7], [7])])
def spec_l02Add.B6 : List Nat := [0, 1, 0, 4, 0, 16, 60, 127, 255]
theorem spec_l02Add.tab6 : rtab .any (opsOf Tryd.f105 6) = spec_l02Add.T6 := by kernel_rfl
theorem spec_l02Add.bits6 : waitsOk spec_l02Add.T6.2 spec_l02Add.B6 = true := by kernel_rfl
def spec_l02Add.T8 : Bool × List (List Nat × List Nat) := (true, [([], []), ([0], [0]), ([], []), ([2], [2]), ([], []), ([4], [4]), ([3, 5], [3, 5]), ([1, 6, 6], [1, 6]), ([7, 7, 0, 1, 2, 3, 4, 5, 6, 7], [7])])
def spec_l02Add.B8 : List Nat := [0, 1, 0, 4, 0, 16, 60, 127, 255]
theorem spec_l02Add.tab8 : rtab .any (opsOf Tryd.f105 8) = spec_l02Add.T8 := by kernel_rfl
theorem spec_l02Add.bits8 : waitsOk spec_l02Add.T8.2 spec_l02Add.B8 = true := by kernel_rfl
def spec_l02Add.T9 : Bool × List (List Nat × List Nat) := (true, [([], []), ([0], [0]), ([], []), ([2], [2]), ([], []), ([4], [4]), ([3, 5], [3, 5]), ([1, 6, 6], [1, 6]), ([7, 7, 0, 1, 2, 3, 4, 5, 6, 7], [7])])
def spec_l02Add.B9 : List Nat := [0, 1, 0, 4, 0, 16, 60, 127, 255]
theorem spec_l02Add.tab9 : rtab .any (opsOf Tryd.f105 9) = spec_l02Add.T9 := by kernel_rfl
theorem spec_l02Add.bits9 : waitsOk spec_l02Add.T9.2 spec_l02Add.B9 = true := by kernel_rfl
set_option maxHeartbeats 8000000 in
set_option maxRecDepth 100000 in
theorem spec_l02Add.calls (k : Nat) (a0_0 : Int) (A0_1 : Option Addr) (c0_1 : Nat) (l0_1 : List Int) (a1_0 : Int) (A1_1 : Option Addr) (c1_1 : Nat) (l1_1 : List Int) (r1 : Int) (r2 : List Int) (w : World) (hr0_1 : Kd.C (Kd.int .i64) w A0_1 l0_1.length l0_1) (hc0_1 : l0_1.length ≤ c0_1) (hr1_1 : Kd.C (Kd.int .i64) w A1_1 l1_1.length l1_1) (hc1_1 : l1_1.length ≤ c1_1) (h : spec_l02Add.f k a0_0 l0_1 a1_0 l1_1 = some (r1, r2)) :
  Calls Tryd.prog 105 #[.agg #[.int .i64 a0_0, .slice A0_1 l0_1.length c0_1], .agg #[.int .i64 a1_0, .slice A1_1 l1_1.length c1_1]] w fun e w' => ∃ v1_ : Value, e = .returned (.agg #[.int .i64 r1, v1_]) ∧ Kd.R (Kd.int .i64) 2 w' w.heap.size (fun _ => True) v1_ r2 ∧ Below w.heap.size w w' := by
 have hu26 := Tryd.underlying26; have HR0_1 := Aside0.mk hr0_1; have HC0_1 := Aside0.mk hc0_1; clear hr0_1 hc0_1; have HR1_1 := Aside0.mk hr1_1; have HC1_1 := Aside0.mk hc1_1; clear hr1_1 hc1_1; have HB := am_ (Below.refl w.heap.size w)
 have H : (if a0_0 = 0 then ((spec_l02Make.f k a1_0 l1_1).bind fun bt238 => (some (bt238.1, bt238.2))) else (if a1_0 = 0 then ((spec_l02Make.f k a0_0 l0_1).bind fun bt242 => (some (bt242.1, bt242.2))) else (if a0_0 = a1_0 then ((spec_l02Plus.f k l0_1 l1_1).bind fun t246 => ((spec_l02Make.f k a0_0 t246).bind fun bt249 => (some (bt249.1, bt249.2)))) else ((spec_l02CompareLimbs.f k l0_1 l1_1).bind fun t253 => (if t253 ≥ 0 then ((spec_l02Minus.f k l0_1 l1_1).bind fun t254 => ((spec_l02Make.f k a0_0 t254).bind fun bt257 => (some (bt257.1, bt257.2)))) else ((spec_l02Minus.f k l1_1 l0_1).bind fun t261 => ((spec_l02Make.f k a1_0 t261).bind fun bt264 => (some (bt264.1, bt264.2))))))))) = some (r1, r2) := h
 clear h
 by_cases c3 : a0_0 = 0
 ·rw [if_pos c3] at H
  have c3b0 : (a0_0 == 0) = true := beq_iff_eq.mpr c3
  have c3b1 : (a0_0 != 0) = false := bne_eq_false_iff_eq.mpr c3
  clear c3
  replace H := Option.bind_eq_some_iff.mp H
  obtain ⟨⟨t238, t239⟩, A40, H⟩ := H
  replace H : (some (t238, t239)) = some (r1, r2) := H
  have A4 := Aside0.mk A40; clear A40
  simp only [Option.some.injEq, Prod.mk.injEq] at H
  obtain ⟨rfl, rfl⟩ := H
  go_enter Tryd.func105, Tryd.ntmps105
  go_wp2_with (first | ((with_reducible refine gate_dst (N := 2) rfl ?_); refine box_event ?hg (N := 2) ?hd (cs := #[.int .i64 a0_0, .slice A0_1 l0_1.length c0_1]) (t := 26) ?hr ?_; (case hd => rfl); (case hg => rfl); (case hr => first | (go_simp; done) | (go_simp; rfl)); intro gb235 hg w5 hbox hb; have BK235 := am_ (hbox); have GW235 := am_ (gs_ hg HB); have GE235 := am_ (gs_ hg HB); replace HB := am_ (below_step (bl_ HB) hb); clear hb hbox hg) | ((with_reducible refine gate_dst (N := 3) rfl ?_); refine box_event ?hg (N := 3) ?hd (cs := #[.int .i64 a1_0, .slice A1_1 l1_1.length c1_1]) (t := 26) ?hr ?_; (case hd => rfl); (case hg => rfl); (case hr => first | (go_simp; done) | (go_simp; rfl)); intro gb236 hg w6 hbox hb; have BK236 := am_ (hbox); have GW236 := am_ (gs_ hg HB); have GE236 := am_ (gs_ hg HB); have NB235_236 := am_ (nl_ hg BK235); have NB236_235 := am_ (ng_ hg BK235); replace BK235 := am_ (blk_below (bk_ BK235) hb); replace HB := am_ (below_step (bl_ HB) hb); clear hb hbox hg) | ((with_reducible refine gate_dst (N := 4) rfl ?_); refine box_event ?hg (N := 4) ?hd (cs := #[.int .i64 0, .slice none 0 0]) (t := 26) ?hr ?_; (case hd => rfl); (case hg => rfl); (case hr => first | (go_simp; done) | (go_simp; rfl)); intro gb237 hg w7 hbox hb; have BK237 := am_ (hbox); have GW237 := am_ (gs_ hg HB); have GE237 := am_ (gs_ hg HB); have NB235_237 := am_ (nl_ hg BK235); have NB237_235 := am_ (ng_ hg BK235); have NB236_237 := am_ (nl_ hg BK236); have NB237_236 := am_ (ng_ hg BK236); replace BK235 := am_ (blk_below (bk_ BK235) hb); replace BK236 := am_ (blk_below (bk_ BK236) hb); replace HB := am_ (below_step (bl_ HB) hb); clear hb hbox hg; have hnb8 := NB235_236.out; have hnc8 := NB236_235.out; have hnb9 := NB235_237.out; have hnc9 := NB237_235.out; have hcz10_0 : w7.cell? ⟨gb235, 0, none⟩ = some (.int .i64 a0_0) := bc_ BK235 0; have hcz10_1 : w7.cell? ⟨gb235, 1, none⟩ = some (.slice A0_1 l0_1.length c0_1) := bc_ BK235 1; have hfz10_0 := blk_frozen BK235.out 0; have hfz10_1 := blk_frozen BK235.out 1; have hnb11 := NB236_237.out; have hnc11 := NB237_236.out; have hcz12_0 : w7.cell? ⟨gb236, 0, none⟩ = some (.int .i64 a1_0) := bc_ BK236 0; have hcz12_1 : w7.cell? ⟨gb236, 1, none⟩ = some (.slice A1_1 l1_1.length c1_1) := bc_ BK236 1; have hfz12_0 := blk_frozen BK236.out 0; have hfz12_1 := blk_frozen BK236.out 1) | ((with_reducible refine gate_callee (f := 87) rfl ?_); refine goesL_ (some 13) rfl rfl Tryd.func87 (by kernel_rfl) rfl #[.int .i64 a1_0, .slice A1_1 l1_1.length c1_1] rfl ma_ ?_; (with_reducible refine (spec_l02Make.calls k a1_0 _ _ l1_1 t238 t239 _ ?side1 ?side2 A4.out).mono ?_); (case side1 => exact cb_ HR1_1 HB); (case side2 => exact HC1_1.out); rintro e w13 ⟨v240, rfl, ho0, hb⟩; refine ⟨_, rfl, ?_⟩; have HO241 := am_ (Kd.R_lower ho0 (below_size (bl_ HB))); replace BK235 := am_ (blk_below (bk_ BK235) hb); replace BK236 := am_ (blk_below (bk_ BK236) hb); replace BK237 := am_ (blk_below (bk_ BK237) hb); replace HB := am_ (below_step (bl_ HB) hb); (try clear hb); (try clear hb2); (try clear hk); (try clear hi); (try clear ho0); have hcz14_0 : w13.cell? ⟨gb237, 0, none⟩ = some (.int .i64 0) := bc_ BK237 0; have hcz14_1 : w13.cell? ⟨gb237, 1, none⟩ = some (.slice none 0 0) := bc_ BK237 1; have hfz14_0 := blk_frozen BK237.out 0; have hfz14_1 := blk_frozen BK237.out 1; obtain ⟨Ao15, co15, eo15⟩ := Kd.R_slice HO241.out; subst eo15))
  refine bodyPost_ret (results_cell_row rfl _ _ gb237 26 #[.int .i64 t238, .slice Ao15 t239.length co15] (0, 0) _ rfl (bp2_ BK237) Tryd.underlying26 rfl (by kernel_rfl)) rfl ?_
  exact ⟨_, by first | rfl | (simp [errW_none, errW_some] <;> rfl) | (simp [*, errW_none, errW_some] <;> rfl), rt_ HO241 BK237, bl_ HB⟩
 ·rw [if_neg c3] at H
  have c3b0 : (a0_0 == 0) = false := beq_eq_false_iff_ne.mpr c3
  have c3b1 : (a0_0 != 0) = true := bne_iff_ne.mpr c3
  by_cases c16 : a1_0 = 0
  ·rw [if_pos c16] at H
   have c16b0 : (a1_0 == 0) = true := beq_iff_eq.mpr c16
   have c16b1 : (a1_0 != 0) = false := bne_eq_false_iff_eq.mpr c16
   clear c16
   replace H := Option.bind_eq_some_iff.mp H
   obtain ⟨⟨t242, t243⟩, A170, H⟩ := H
   replace H : (some (t242, t243)) = some (r1, r2) := H
   have A17 := Aside0.mk A170; clear A170
   simp only [Option.some.injEq, Prod.mk.injEq] at H
   obtain ⟨rfl, rfl⟩ := H
   go_enter Tryd.func105, Tryd.ntmps105
   go_wp2_with (first | ((with_reducible refine gate_dst (N := 2) rfl ?_); refine box_event ?hg (N := 2) ?hd (cs := #[.int .i64 a0_0, .slice A0_1 l0_1.length c0_1]) (t := 26) ?hr ?_; (case hd => rfl); (case hg => rfl); (case hr => first | (go_simp; done) | (go_simp; rfl)); intro gb235 hg w18 hbox hb; have BK235 := am_ (hbox); have GW235 := am_ (gs_ hg HB); have GE235 := am_ (gs_ hg HB); replace HB := am_ (below_step (bl_ HB) hb); clear hb hbox hg) | ((with_reducible refine gate_dst (N := 3) rfl ?_); refine box_event ?hg (N := 3) ?hd (cs := #[.int .i64 a1_0, .slice A1_1 l1_1.length c1_1]) (t := 26) ?hr ?_; (case hd => rfl); (case hg => rfl); (case hr => first | (go_simp; done) | (go_simp; rfl)); intro gb236 hg w19 hbox hb; have BK236 := am_ (hbox); have GW236 := am_ (gs_ hg HB); have GE236 := am_ (gs_ hg HB); have NB235_236 := am_ (nl_ hg BK235); have NB236_235 := am_ (ng_ hg BK235); replace BK235 := am_ (blk_below (bk_ BK235) hb); replace HB := am_ (below_step (bl_ HB) hb); clear hb hbox hg) | ((with_reducible refine gate_dst (N := 4) rfl ?_); refine box_event ?hg (N := 4) ?hd (cs := #[.int .i64 0, .slice none 0 0]) (t := 26) ?hr ?_; (case hd => rfl); (case hg => rfl); (case hr => first | (go_simp; done) | (go_simp; rfl)); intro gb237 hg w20 hbox hb; have BK237 := am_ (hbox); have GW237 := am_ (gs_ hg HB); have GE237 := am_ (gs_ hg HB); have NB235_237 := am_ (nl_ hg BK235); have NB237_235 := am_ (ng_ hg BK235); have NB236_237 := am_ (nl_ hg BK236); have NB237_236 := am_ (ng_ hg BK236); replace BK235 := am_ (blk_below (bk_ BK235) hb); replace BK236 := am_ (blk_below (bk_ BK236) hb); replace HB := am_ (below_step (bl_ HB) hb); clear hb hbox hg; have hnb21 := NB235_236.out; have hnc21 := NB236_235.out; have hnb22 := NB235_237.out; have hnc22 := NB237_235.out; have hcz23_0 : w20.cell? ⟨gb235, 0, none⟩ = some (.int .i64 a0_0) := bc_ BK235 0; have hcz23_1 : w20.cell? ⟨gb235, 1, none⟩ = some (.slice A0_1 l0_1.length c0_1) := bc_ BK235 1; have hfz23_0 := blk_frozen BK235.out 0; have hfz23_1 := blk_frozen BK235.out 1; have hnb24 := NB236_237.out; have hnc24 := NB237_236.out; have hcz25_0 : w20.cell? ⟨gb236, 0, none⟩ = some (.int .i64 a1_0) := bc_ BK236 0; have hcz25_1 : w20.cell? ⟨gb236, 1, none⟩ = some (.slice A1_1 l1_1.length c1_1) := bc_ BK236 1; have hfz25_0 := blk_frozen BK236.out 0; have hfz25_1 := blk_frozen BK236.out 1) | ((with_reducible refine gate_callee (f := 87) rfl ?_); refine goesL_ (some 22) rfl rfl Tryd.func87 (by kernel_rfl) rfl #[.int .i64 a0_0, .slice A0_1 l0_1.length c0_1] rfl ma_ ?_; (with_reducible refine (spec_l02Make.calls k a0_0 _ _ l0_1 t242 t243 _ ?side1 ?side2 A17.out).mono ?_); (case side1 => exact cb_ HR0_1 HB); (case side2 => exact HC0_1.out); rintro e w26 ⟨v244, rfl, ho0, hb⟩; refine ⟨_, rfl, ?_⟩; have HO245 := am_ (Kd.R_lower ho0 (below_size (bl_ HB))); replace BK235 := am_ (blk_below (bk_ BK235) hb); replace BK236 := am_ (blk_below (bk_ BK236) hb); replace BK237 := am_ (blk_below (bk_ BK237) hb); replace HB := am_ (below_step (bl_ HB) hb); (try clear hb); (try clear hb2); (try clear hk); (try clear hi); (try clear ho0); have hcz27_0 : w26.cell? ⟨gb237, 0, none⟩ = some (.int .i64 0) := bc_ BK237 0; have hcz27_1 : w26.cell? ⟨gb237, 1, none⟩ = some (.slice none 0 0) := bc_ BK237 1; have hfz27_0 := blk_frozen BK237.out 0; have hfz27_1 := blk_frozen BK237.out 1; obtain ⟨Ao28, co28, eo28⟩ := Kd.R_slice HO245.out; subst eo28))
   refine bodyPost_ret (results_cell_row rfl _ _ gb237 26 #[.int .i64 t242, .slice Ao28 t243.length co28] (0, 0) _ rfl (bp2_ BK237) Tryd.underlying26 rfl (by kernel_rfl)) rfl ?_
   exact ⟨_, by first | rfl | (simp [errW_none, errW_some] <;> rfl) | (simp [*, errW_none, errW_some] <;> rfl), rt_ HO245 BK237, bl_ HB⟩
  ·rw [if_neg c16] at H
   have c16b0 : (a1_0 == 0) = false := beq_eq_false_iff_ne.mpr c16
   have c16b1 : (a1_0 != 0) = true := bne_iff_ne.mpr c16
   by_cases c29 : a0_0 = a1_0
   ·rw [if_pos c29] at H
    have c29b0 : (a0_0 == a1_0) = true := beq_iff_eq.mpr c29
    have c29b1 : (a0_0 != a1_0) = false := bne_eq_false_iff_eq.mpr c29
    clear c29
    replace H := Option.bind_eq_some_iff.mp H
    obtain ⟨t246, A300, H⟩ := H
    replace H : ((spec_l02Make.f k a0_0 t246).bind fun bt249 => (some (bt249.1, bt249.2))) = some (r1, r2) := H
    have A30 := Aside0.mk A300; clear A300
    replace H := Option.bind_eq_some_iff.mp H
    obtain ⟨⟨t249, t250⟩, A310, H⟩ := H
    replace H : (some (t249, t250)) = some (r1, r2) := H
    have A31 := Aside0.mk A310; clear A310
    simp only [Option.some.injEq, Prod.mk.injEq] at H
    obtain ⟨rfl, rfl⟩ := H
    go_enter Tryd.func105, Tryd.ntmps105
    try go_wp2_with (first | ((with_reducible refine gate_dst (N := 2) rfl ?_); refine box_event ?hg (N := 2) ?hd (cs := #[.int .i64 a0_0, .slice A0_1 l0_1.length c0_1]) (t := 26) ?hr ?_; (case hd => rfl); (case hg => rfl); (case hr => first | (go_simp; done) | (go_simp; rfl)); intro gb235 hg w32 hbox hb; have BK235 := am_ (hbox); have GW235 := am_ (gs_ hg HB); have GE235 := am_ (gs_ hg HB); replace HB := am_ (below_step (bl_ HB) hb); clear hb hbox hg) | ((with_reducible refine gate_dst (N := 3) rfl ?_); refine box_event ?hg (N := 3) ?hd (cs := #[.int .i64 a1_0, .slice A1_1 l1_1.length c1_1]) (t := 26) ?hr ?_; (case hd => rfl); (case hg => rfl); (case hr => first | (go_simp; done) | (go_simp; rfl)); intro gb236 hg w33 hbox hb; have BK236 := am_ (hbox); have GW236 := am_ (gs_ hg HB); have GE236 := am_ (gs_ hg HB); have NB235_236 := am_ (nl_ hg BK235); have NB236_235 := am_ (ng_ hg BK235); replace BK235 := am_ (blk_below (bk_ BK235) hb); replace HB := am_ (below_step (bl_ HB) hb); clear hb hbox hg) | ((with_reducible refine gate_dst (N := 4) rfl ?_); refine box_event ?hg (N := 4) ?hd (cs := #[.int .i64 0, .slice none 0 0]) (t := 26) ?hr ?_; (case hd => rfl); (case hg => rfl); (case hr => first | (go_simp; done) | (go_simp; rfl)); intro gb237 hg w34 hbox hb; have BK237 := am_ (hbox); have GW237 := am_ (gs_ hg HB); have GE237 := am_ (gs_ hg HB); have NB235_237 := am_ (nl_ hg BK235); have NB237_235 := am_ (ng_ hg BK235); have NB236_237 := am_ (nl_ hg BK236); have NB237_236 := am_ (ng_ hg BK236); replace BK235 := am_ (blk_below (bk_ BK235) hb); replace BK236 := am_ (blk_below (bk_ BK236) hb); replace HB := am_ (below_step (bl_ HB) hb); clear hb hbox hg; have hnb35 := NB235_236.out; have hnc35 := NB236_235.out; have hnb36 := NB235_237.out; have hnc36 := NB237_235.out; have hcz37_0 : w34.cell? ⟨gb235, 0, none⟩ = some (.int .i64 a0_0) := bc_ BK235 0; have hcz37_1 : w34.cell? ⟨gb235, 1, none⟩ = some (.slice A0_1 l0_1.length c0_1) := bc_ BK235 1; have hfz37_0 := blk_frozen BK235.out 0; have hfz37_1 := blk_frozen BK235.out 1; have hnb38 := NB236_237.out; have hnc38 := NB237_236.out; have hcz39_0 : w34.cell? ⟨gb236, 0, none⟩ = some (.int .i64 a1_0) := bc_ BK236 0; have hcz39_1 : w34.cell? ⟨gb236, 1, none⟩ = some (.slice A1_1 l1_1.length c1_1) := bc_ BK236 1; have hfz39_0 := blk_frozen BK236.out 0; have hfz39_1 := blk_frozen BK236.out 1))
    have n0_ := am_ (blk_drew BK235.out); have n1_ := am_ (blk_drew BK236.out); have n2_ := am_ (blk_drew BK237.out); have n3_ := am_ (below_drew1 HB.out); clear BK235 BK236 BK237 HB; have BK235 := n0_; have BK236 := n1_; have BK237 := n2_; have HB := n3_; clear n0_ n1_ n2_ n3_
    refine start_ (n := 9) (S := fun w' => w'.cell? ⟨gb235, 0, none⟩ = some (.int .i64 a0_0) ∧ w'.cell? ⟨gb235, 1, none⟩ = some (.slice A0_1 l0_1.length c0_1) ∧ w'.cell? ⟨gb236, 0, none⟩ = some (.int .i64 a1_0) ∧ w'.cell? ⟨gb236, 1, none⟩ = some (.slice A1_1 l1_1.length c1_1)) (ds := []) #[false, false, false, false, false, false, false, false, false] (by kernel_rfl) rfl rfl ⟨bc_ BK235 0, bc_ BK235 1, bc_ BK236 0, bc_ BK236 1⟩ (fun hHeld => ?_); refine with_tabW spec_l02Add.tab6 spec_l02Add.bits6 (fun HT_ HW_ => ?_)
    generalize w34.drew = w40 at BK235 BK236 BK237 HB hHeld ⊢
    refine pure_ (i := 0) (N := some 29) (v := ?_) (a' := ?_) #[true, false, false, false, false, false, false, false, false] rfl rfl (any_of HT_.out (by kernel_rfl)) (fun _ _ _ h => h) (Or.inl ⟨by rfl, ?_⟩) ?_ ?_
    rotate_left
    ·intro w'
     go_simp
     with_reducible rfl
    rotate_left
    ·exact nm_
    refine pure_ (i := 2) (N := some 31) (v := ?_) (a' := ?_) #[true, false, true, false, false, false, false, false, false] rfl rfl (any_of HT_.out (by kernel_rfl)) (fun _ _ _ h => h) (Or.inl ⟨by rfl, ?_⟩) ?_ ?_
    rotate_left
    ·intro w'
     go_simp
     with_reducible rfl
    rotate_left
    ·exact nm_
    refine pure_ (i := 4) (N := some 33) (v := ?_) (a' := ?_) #[true, false, true, false, true, false, false, false, false] rfl rfl (any_of HT_.out (by kernel_rfl)) (fun _ _ _ h => h) (Or.inl ⟨by rfl, ?_⟩) ?_ ?_
    rotate_left
    ·intro w'
     go_simp
     with_reducible rfl
    rotate_left
    ·exact nm_
    refine take_ (i := 1) (N := some 30) (v := ?_) (a' := ?_) #[true, true, true, false, true, false, false, false, false] rfl rfl (take_ofW HT_.out HW_.out (by kernel_rfl)) (fun _ _ _ h => h) (Or.inl ⟨by rfl, ?_⟩) hHeld ?_ ?_
    rotate_left
    ·rintro w' ⟨s0, s1, s2, s3⟩
     go_simp
     with_reducible rfl
    rotate_left
    ·exact nm_
    refine take_ (i := 3) (N := some 32) (v := ?_) (a' := ?_) #[true, true, true, true, true, false, false, false, false] rfl rfl (take_ofW HT_.out HW_.out (by kernel_rfl)) (fun _ _ _ h => h) (Or.inl ⟨by rfl, ?_⟩) hHeld ?_ ?_
    rotate_left
    ·rintro w' ⟨s0, s1, s2, s3⟩
     go_simp
     with_reducible rfl
    rotate_left
    ·exact nm_
    refine take_ (i := 5) (N := some 34) (v := ?_) (a' := ?_) #[true, true, true, true, true, true, false, false, false] rfl rfl (take_ofW HT_.out HW_.out (by kernel_rfl)) (fun _ _ _ h => h) (Or.inl ⟨by rfl, ?_⟩) hHeld ?_ ?_
    rotate_left
    ·rintro w' ⟨s0, s1, s2, s3⟩
     go_simp
     with_reducible rfl
    rotate_left
    ·exact nm_
    refine one_ (i := 6) (N := some 35) #[true, true, true, true, true, true, true, false, false] rfl rfl (one_of HT_.out (by kernel_rfl)) (by decide) (fun K hK => ?_)
    refine goes_ Tryd.func130 (by kernel_rfl) rfl #[.slice A0_1 l0_1.length c0_1, .slice A1_1 l1_1.length c1_1] (by rfl) rfl rfl ma_ ?_
    with_reducible refine (spec_l02Plus.calls k _ _ l0_1 _ _ l1_1 t246 _ ?side1 ?side2 ?side3 ?side4 A30.out).mono ?_
    (case side1 => exact cb_ HR0_1 HB)
    (case side2 => exact HC0_1.out)
    (case side3 => exact cb_ HR1_1 HB)
    (case side4 => exact HC1_1.out)
    rintro e w41 ⟨v247, rfl, ho0, hb⟩
    refine ⟨_, rfl, ?_⟩
    have n0_ := am_ (Kd.R_lower ho0 (below_size (bl_ HB))); have n1_ := am_ (blk_below (bk_ BK235) hb); have n2_ := am_ (blk_below (bk_ BK236) hb); have n3_ := am_ (blk_below (bk_ BK237) hb); have n4_ := am_ (below_step (bl_ HB) hb); clear BK235 BK236 BK237 HB; have HO248 := n0_; have BK235 := n1_; have BK236 := n2_; have BK237 := n3_; have HB := n4_; clear n0_ n1_ n2_ n3_ n4_; (try clear hb); (try clear hb2); (try clear hk); (try clear hi); (try clear ho0)
    obtain ⟨Ao42, co42, eo42⟩ := Kd.R_slice HO248.out
    (first | subst eo42 | (injection eo42 with f1_ f2_ f3_; have f4_ := f1_.symm; have f5_ := f3_.symm; clear f1_ f2_ f3_; subst f4_; subst f5_))
    refine hK.out _ _ ⟨bc_ BK235 0, bc_ BK235 1, bc_ BK236 0, bc_ BK236 1⟩ (fun hHeld => ?_)
    clear hK K
    refine norm_ (a' := ?_) ?_ ?_
    rotate_left
    ·show Act.put _ (some 35) _ = _
     exact nm_
    refine one_ (i := 7) (N := some 36) #[true, true, true, true, true, true, true, true, false] rfl rfl (one_of HT_.out (by kernel_rfl)) (by decide) (fun K hK => ?_)
    refine goes_ Tryd.func87 (by kernel_rfl) rfl #[.int .i64 a0_0, .slice Ao42 t246.length co42] (by rfl) rfl rfl ma_ ?_
    with_reducible refine (spec_l02Make.calls k a0_0 _ _ t246 t249 t250 _ ?side1 ?side2 A31.out).mono ?_
    (case side1 => exact cr_ HO248)
    (case side2 => exact (Kd.R_reads' HO248.out).2.1)
    rintro e w43 ⟨v251, rfl, ho0, hb⟩
    refine ⟨_, rfl, ?_⟩
    have n0_ := am_ (Kd.R_elder' (kr_ HO248) (Kd.R_base ho0) hb); have n1_ := am_ (Kd.R_lower (Kd.R_new' ho0 (Kd.R_lt (kr_ HO248))) (below_size (bl_ HB))); have n2_ := am_ (blk_below (bk_ BK235) hb); have n3_ := am_ (blk_below (bk_ BK236) hb); have n4_ := am_ (blk_below (bk_ BK237) hb); have n5_ := am_ (below_step (bl_ HB) hb); clear HO248 BK235 BK236 BK237 HB; have HO248 := n0_; have HO252 := n1_; have BK235 := n2_; have BK236 := n3_; have BK237 := n4_; have HB := n5_; clear n0_ n1_ n2_ n3_ n4_ n5_; (try clear hb); (try clear hb2); (try clear hk); (try clear hi); (try clear ho0)
    obtain ⟨Ao45, co45, eo45⟩ := Kd.R_slice HO252.out
    (first | subst eo45 | (injection eo45 with f1_ f2_ f3_; have f4_ := f1_.symm; have f5_ := f3_.symm; clear f1_ f2_ f3_; subst f4_; subst f5_))
    refine hK.out _ _ ⟨bc_ BK235 0, bc_ BK235 1, bc_ BK236 0, bc_ BK236 1⟩ (fun hHeld => ?_)
    clear hK K
    refine norm_ (a' := ?_) ?_ ?_
    rotate_left
    ·show Act.put _ (some 36) _ = _
     exact nm_
    refine one_ (i := 8) (N := none) #[true, true, true, true, true, true, true, true, true] rfl rfl (one_of HT_.out (by kernel_rfl)) (by decide) (fun K hK => ?_)
    have hs44 : w43.cell? ⟨gb237, 0, none⟩ = some (.int .i64 0) := bc_ BK237 0
    have hfs44 := blk_frozen BK237.out 0; have hns44_0 := NB235_237.out; have hns44_1 := NB236_237.out; have hms44_0 := NB237_235.out; have hms44_1 := NB237_236.out
    have hs46 : w43.cell? ⟨gb237, 1, none⟩ = some (.slice none 0 0) := bc_ BK237 1
    have hfs46 := blk_frozen BK237.out 1; have hns46_0 := NB235_237.out; have hns46_1 := NB236_237.out; have hms46_0 := NB237_235.out; have hms46_1 := NB237_236.out
    refine skip_ (w1 := ?_) (by rfl) rfl ?_ ?_
    rotate_left
    ·go_simp
     rfl
    refine hK.out _ _ ⟨((cell_far (p := ⟨gb237, _, none⟩) NB235_237.out _).trans (((cell_far (p := ⟨gb237, _, none⟩) NB235_237.out _).trans (hHeld.1)))), ((cell_far (p := ⟨gb237, _, none⟩) NB235_237.out _).trans (((cell_far (p := ⟨gb237, _, none⟩) NB235_237.out _).trans (hHeld.2.1)))), ((cell_far (p := ⟨gb237, _, none⟩) NB236_237.out _).trans (((cell_far (p := ⟨gb237, _, none⟩) NB236_237.out _).trans (hHeld.2.2.1)))), ((cell_far (p := ⟨gb237, _, none⟩) NB236_237.out _).trans (((cell_far (p := ⟨gb237, _, none⟩) NB236_237.out _).trans (hHeld.2.2.2))))⟩ (fun hHeld => ?_)
    clear hK K
    refine done_ (done_of HT_.out (by kernel_rfl)) ?_
    try go_wp2
    refine bodyPost_ret (results_cell_row rfl _ _ gb237 26 #[.int .i64 t249, .slice Ao45 t250.length co45] (0, 0) _ rfl (bp2_ BK237) Tryd.underlying26 rfl (by kernel_rfl)) rfl ?_
    exact ⟨_, by first | rfl | (simp [errW_none, errW_some] <;> rfl) | (simp [*, errW_none, errW_some] <;> rfl), rt_ HO252 BK237, bl_ HB⟩
   ·rw [if_neg c29] at H
    have c29b0 : (a0_0 == a1_0) = false := beq_eq_false_iff_ne.mpr c29
    have c29b1 : (a0_0 != a1_0) = true := bne_iff_ne.mpr c29
    replace H := Option.bind_eq_some_iff.mp H
    obtain ⟨t253, A470, H⟩ := H
    replace H : (if t253 ≥ 0 then ((spec_l02Minus.f k l0_1 l1_1).bind fun t254 => ((spec_l02Make.f k a0_0 t254).bind fun bt257 => (some (bt257.1, bt257.2)))) else ((spec_l02Minus.f k l1_1 l0_1).bind fun t261 => ((spec_l02Make.f k a1_0 t261).bind fun bt264 => (some (bt264.1, bt264.2))))) = some (r1, r2) := H
    have A47 := Aside0.mk A470; clear A470
    by_cases c48 : t253 ≥ 0
    ·rw [if_pos c48] at H
     have c48b0 : decide (0 ≤ t253) = true := decide_eq_true c48
     clear c48
     replace H := Option.bind_eq_some_iff.mp H
     obtain ⟨t254, A490, H⟩ := H
     replace H : ((spec_l02Make.f k a0_0 t254).bind fun bt257 => (some (bt257.1, bt257.2))) = some (r1, r2) := H
     have A49 := Aside0.mk A490; clear A490
     replace H := Option.bind_eq_some_iff.mp H
     obtain ⟨⟨t257, t258⟩, A500, H⟩ := H
     replace H : (some (t257, t258)) = some (r1, r2) := H
     have A50 := Aside0.mk A500; clear A500
     simp only [Option.some.injEq, Prod.mk.injEq] at H
     obtain ⟨rfl, rfl⟩ := H
     go_enter Tryd.func105, Tryd.ntmps105
     try go_wp2_with (first | ((with_reducible refine gate_dst (N := 2) rfl ?_); refine box_event ?hg (N := 2) ?hd (cs := #[.int .i64 a0_0, .slice A0_1 l0_1.length c0_1]) (t := 26) ?hr ?_; (case hd => rfl); (case hg => rfl); (case hr => first | (go_simp; done) | (go_simp; rfl)); intro gb235 hg w51 hbox hb; have BK235 := am_ (hbox); have GW235 := am_ (gs_ hg HB); have GE235 := am_ (gs_ hg HB); replace HB := am_ (below_step (bl_ HB) hb); clear hb hbox hg) | ((with_reducible refine gate_dst (N := 3) rfl ?_); refine box_event ?hg (N := 3) ?hd (cs := #[.int .i64 a1_0, .slice A1_1 l1_1.length c1_1]) (t := 26) ?hr ?_; (case hd => rfl); (case hg => rfl); (case hr => first | (go_simp; done) | (go_simp; rfl)); intro gb236 hg w52 hbox hb; have BK236 := am_ (hbox); have GW236 := am_ (gs_ hg HB); have GE236 := am_ (gs_ hg HB); have NB235_236 := am_ (nl_ hg BK235); have NB236_235 := am_ (ng_ hg BK235); replace BK235 := am_ (blk_below (bk_ BK235) hb); replace HB := am_ (below_step (bl_ HB) hb); clear hb hbox hg) | ((with_reducible refine gate_dst (N := 4) rfl ?_); refine box_event ?hg (N := 4) ?hd (cs := #[.int .i64 0, .slice none 0 0]) (t := 26) ?hr ?_; (case hd => rfl); (case hg => rfl); (case hr => first | (go_simp; done) | (go_simp; rfl)); intro gb237 hg w53 hbox hb; have BK237 := am_ (hbox); have GW237 := am_ (gs_ hg HB); have GE237 := am_ (gs_ hg HB); have NB235_237 := am_ (nl_ hg BK235); have NB237_235 := am_ (ng_ hg BK235); have NB236_237 := am_ (nl_ hg BK236); have NB237_236 := am_ (ng_ hg BK236); replace BK235 := am_ (blk_below (bk_ BK235) hb); replace BK236 := am_ (blk_below (bk_ BK236) hb); replace HB := am_ (below_step (bl_ HB) hb); clear hb hbox hg; have hnb54 := NB235_236.out; have hnc54 := NB236_235.out; have hnb55 := NB235_237.out; have hnc55 := NB237_235.out; have hcz56_0 : w53.cell? ⟨gb235, 0, none⟩ = some (.int .i64 a0_0) := bc_ BK235 0; have hcz56_1 : w53.cell? ⟨gb235, 1, none⟩ = some (.slice A0_1 l0_1.length c0_1) := bc_ BK235 1; have hfz56_0 := blk_frozen BK235.out 0; have hfz56_1 := blk_frozen BK235.out 1; have hnb57 := NB236_237.out; have hnc57 := NB237_236.out; have hcz58_0 : w53.cell? ⟨gb236, 0, none⟩ = some (.int .i64 a1_0) := bc_ BK236 0; have hcz58_1 : w53.cell? ⟨gb236, 1, none⟩ = some (.slice A1_1 l1_1.length c1_1) := bc_ BK236 1; have hfz58_0 := blk_frozen BK236.out 0; have hfz58_1 := blk_frozen BK236.out 1) | ((with_reducible refine gate_callee (f := 131) rfl ?_); refine goesL_ (some 42) rfl rfl Tryd.func131 (by kernel_rfl) rfl #[.slice A0_1 l0_1.length c0_1, .slice A1_1 l1_1.length c1_1] rfl ma_ ?_; (with_reducible refine (spec_l02CompareLimbs.calls k _ _ l0_1 _ _ l1_1 t253 _ ?side1 ?side2 ?side3 ?side4 A47.out).mono ?_); (case side1 => exact cb_ HR0_1 HB); (case side2 => exact HC0_1.out); (case side3 => exact cb_ HR1_1 HB); (case side4 => exact HC1_1.out); rintro e w' ⟨rfl, ⟨nd, rfl⟩⟩; refine ⟨_, rfl, ?_⟩; (try (rw [drewN_self w53]; generalize hq_ : World.drewN w53 _ = w53; have n0_ : Aside0 (w53.heap[gb235]? = some (.cells #[.int .i64 a0_0, .slice A0_1 l0_1.length c0_1] 26 (0, 0))) := ⟨by rw [← hq_]; exact (bk_ BK235)⟩; have n1_ : Aside0 (w53.heap[gb236]? = some (.cells #[.int .i64 a1_0, .slice A1_1 l1_1.length c1_1] 26 (0, 0))) := ⟨by rw [← hq_]; exact (bk_ BK236)⟩; have n2_ : Aside0 (w53.heap[gb237]? = some (.cells #[.int .i64 0, .slice none 0 0] 26 (0, 0))) := ⟨by rw [← hq_]; exact (bk_ BK237)⟩; have n3_ : Aside0 (Below w.heap.size w w53) := ⟨by rw [← hq_]; exact (bl_ HB)⟩; clear BK235 BK236 BK237 HB hq_; have BK235 := n0_; have BK236 := n1_; have BK237 := n2_; have HB := n3_; clear n0_ n1_ n2_ n3_))))
     have n0_ := am_ (blk_drew BK235.out); have n1_ := am_ (blk_drew BK236.out); have n2_ := am_ (blk_drew BK237.out); have n3_ := am_ (below_drew1 HB.out); clear BK235 BK236 BK237 HB; have BK235 := n0_; have BK236 := n1_; have BK237 := n2_; have HB := n3_; clear n0_ n1_ n2_ n3_
     refine start_ (n := 9) (S := fun w' => w'.cell? ⟨gb235, 0, none⟩ = some (.int .i64 a0_0) ∧ w'.cell? ⟨gb235, 1, none⟩ = some (.slice A0_1 l0_1.length c0_1) ∧ w'.cell? ⟨gb236, 0, none⟩ = some (.int .i64 a1_0) ∧ w'.cell? ⟨gb236, 1, none⟩ = some (.slice A1_1 l1_1.length c1_1)) (ds := []) #[false, false, false, false, false, false, false, false, false] (by kernel_rfl) rfl rfl ⟨bc_ BK235 0, bc_ BK235 1, bc_ BK236 0, bc_ BK236 1⟩ (fun hHeld => ?_); refine with_tabW spec_l02Add.tab8 spec_l02Add.bits8 (fun HT_ HW_ => ?_)
     generalize w53.drew = w59 at BK235 BK236 BK237 HB hHeld ⊢
     refine pure_ (i := 0) (N := some 44) (v := ?_) (a' := ?_) #[true, false, false, false, false, false, false, false, false] rfl rfl (any_of HT_.out (by kernel_rfl)) (fun _ _ _ h => h) (Or.inl ⟨by rfl, ?_⟩) ?_ ?_
     rotate_left
     ·intro w'
      go_simp
      with_reducible rfl
     rotate_left
     ·exact nm_
     refine pure_ (i := 2) (N := some 46) (v := ?_) (a' := ?_) #[true, false, true, false, false, false, false, false, false] rfl rfl (any_of HT_.out (by kernel_rfl)) (fun _ _ _ h => h) (Or.inl ⟨by rfl, ?_⟩) ?_ ?_
     rotate_left
     ·intro w'
      go_simp
      with_reducible rfl
     rotate_left
     ·exact nm_
     refine pure_ (i := 4) (N := some 48) (v := ?_) (a' := ?_) #[true, false, true, false, true, false, false, false, false] rfl rfl (any_of HT_.out (by kernel_rfl)) (fun _ _ _ h => h) (Or.inl ⟨by rfl, ?_⟩) ?_ ?_
     rotate_left
     ·intro w'
      go_simp
      with_reducible rfl
     rotate_left
     ·exact nm_
     refine take_ (i := 1) (N := some 45) (v := ?_) (a' := ?_) #[true, true, true, false, true, false, false, false, false] rfl rfl (take_ofW HT_.out HW_.out (by kernel_rfl)) (fun _ _ _ h => h) (Or.inl ⟨by rfl, ?_⟩) hHeld ?_ ?_
     rotate_left
     ·rintro w' ⟨s0, s1, s2, s3⟩
      go_simp
      with_reducible rfl
     rotate_left
     ·exact nm_
     refine take_ (i := 3) (N := some 47) (v := ?_) (a' := ?_) #[true, true, true, true, true, false, false, false, false] rfl rfl (take_ofW HT_.out HW_.out (by kernel_rfl)) (fun _ _ _ h => h) (Or.inl ⟨by rfl, ?_⟩) hHeld ?_ ?_
     rotate_left
     ·rintro w' ⟨s0, s1, s2, s3⟩
      go_simp
      with_reducible rfl
     rotate_left
     ·exact nm_
     refine take_ (i := 5) (N := some 49) (v := ?_) (a' := ?_) #[true, true, true, true, true, true, false, false, false] rfl rfl (take_ofW HT_.out HW_.out (by kernel_rfl)) (fun _ _ _ h => h) (Or.inl ⟨by rfl, ?_⟩) hHeld ?_ ?_
     rotate_left
     ·rintro w' ⟨s0, s1, s2, s3⟩
      go_simp
      with_reducible rfl
     rotate_left
     ·exact nm_
     refine one_ (i := 6) (N := some 50) #[true, true, true, true, true, true, true, false, false] rfl rfl (one_of HT_.out (by kernel_rfl)) (by decide) (fun K hK => ?_)
     refine goes_ Tryd.func132 (by kernel_rfl) rfl #[.slice A0_1 l0_1.length c0_1, .slice A1_1 l1_1.length c1_1] (by rfl) rfl rfl ma_ ?_
     with_reducible refine (spec_l02Minus.calls k _ _ l0_1 _ _ l1_1 t254 _ ?side1 ?side2 ?side3 ?side4 A49.out).mono ?_
     (case side1 => exact cb_ HR0_1 HB)
     (case side2 => exact HC0_1.out)
     (case side3 => exact cb_ HR1_1 HB)
     (case side4 => exact HC1_1.out)
     rintro e w60 ⟨v255, rfl, ho0, hb⟩
     refine ⟨_, rfl, ?_⟩
     have n0_ := am_ (Kd.R_lower ho0 (below_size (bl_ HB))); have n1_ := am_ (blk_below (bk_ BK235) hb); have n2_ := am_ (blk_below (bk_ BK236) hb); have n3_ := am_ (blk_below (bk_ BK237) hb); have n4_ := am_ (below_step (bl_ HB) hb); clear BK235 BK236 BK237 HB; have HO256 := n0_; have BK235 := n1_; have BK236 := n2_; have BK237 := n3_; have HB := n4_; clear n0_ n1_ n2_ n3_ n4_; (try clear hb); (try clear hb2); (try clear hk); (try clear hi); (try clear ho0)
     obtain ⟨Ao61, co61, eo61⟩ := Kd.R_slice HO256.out
     (first | subst eo61 | (injection eo61 with f1_ f2_ f3_; have f4_ := f1_.symm; have f5_ := f3_.symm; clear f1_ f2_ f3_; subst f4_; subst f5_))
     refine hK.out _ _ ⟨bc_ BK235 0, bc_ BK235 1, bc_ BK236 0, bc_ BK236 1⟩ (fun hHeld => ?_)
     clear hK K
     refine norm_ (a' := ?_) ?_ ?_
     rotate_left
     ·show Act.put _ (some 50) _ = _
      exact nm_
     refine one_ (i := 7) (N := some 51) #[true, true, true, true, true, true, true, true, false] rfl rfl (one_of HT_.out (by kernel_rfl)) (by decide) (fun K hK => ?_)
     refine goes_ Tryd.func87 (by kernel_rfl) rfl #[.int .i64 a0_0, .slice Ao61 t254.length co61] (by rfl) rfl rfl ma_ ?_
     with_reducible refine (spec_l02Make.calls k a0_0 _ _ t254 t257 t258 _ ?side1 ?side2 A50.out).mono ?_
     (case side1 => exact cr_ HO256)
     (case side2 => exact (Kd.R_reads' HO256.out).2.1)
     rintro e w62 ⟨v259, rfl, ho0, hb⟩
     refine ⟨_, rfl, ?_⟩
     have n0_ := am_ (Kd.R_elder' (kr_ HO256) (Kd.R_base ho0) hb); have n1_ := am_ (Kd.R_lower (Kd.R_new' ho0 (Kd.R_lt (kr_ HO256))) (below_size (bl_ HB))); have n2_ := am_ (blk_below (bk_ BK235) hb); have n3_ := am_ (blk_below (bk_ BK236) hb); have n4_ := am_ (blk_below (bk_ BK237) hb); have n5_ := am_ (below_step (bl_ HB) hb); clear HO256 BK235 BK236 BK237 HB; have HO256 := n0_; have HO260 := n1_; have BK235 := n2_; have BK236 := n3_; have BK237 := n4_; have HB := n5_; clear n0_ n1_ n2_ n3_ n4_ n5_; (try clear hb); (try clear hb2); (try clear hk); (try clear hi); (try clear ho0)
     obtain ⟨Ao64, co64, eo64⟩ := Kd.R_slice HO260.out
     (first | subst eo64 | (injection eo64 with f1_ f2_ f3_; have f4_ := f1_.symm; have f5_ := f3_.symm; clear f1_ f2_ f3_; subst f4_; subst f5_))
     refine hK.out _ _ ⟨bc_ BK235 0, bc_ BK235 1, bc_ BK236 0, bc_ BK236 1⟩ (fun hHeld => ?_)
     clear hK K
     refine norm_ (a' := ?_) ?_ ?_
     rotate_left
     ·show Act.put _ (some 51) _ = _
      exact nm_
     refine one_ (i := 8) (N := none) #[true, true, true, true, true, true, true, true, true] rfl rfl (one_of HT_.out (by kernel_rfl)) (by decide) (fun K hK => ?_)
     have hs63 : w62.cell? ⟨gb237, 0, none⟩ = some (.int .i64 0) := bc_ BK237 0
     have hfs63 := blk_frozen BK237.out 0; have hns63_0 := NB235_237.out; have hns63_1 := NB236_237.out; have hms63_0 := NB237_235.out; have hms63_1 := NB237_236.out
     have hs65 : w62.cell? ⟨gb237, 1, none⟩ = some (.slice none 0 0) := bc_ BK237 1
     have hfs65 := blk_frozen BK237.out 1; have hns65_0 := NB235_237.out; have hns65_1 := NB236_237.out; have hms65_0 := NB237_235.out; have hms65_1 := NB237_236.out
     refine skip_ (w1 := ?_) (by rfl) rfl ?_ ?_
     rotate_left
     ·go_simp
      rfl
     refine hK.out _ _ ⟨((cell_far (p := ⟨gb237, _, none⟩) NB235_237.out _).trans (((cell_far (p := ⟨gb237, _, none⟩) NB235_237.out _).trans (hHeld.1)))), ((cell_far (p := ⟨gb237, _, none⟩) NB235_237.out _).trans (((cell_far (p := ⟨gb237, _, none⟩) NB235_237.out _).trans (hHeld.2.1)))), ((cell_far (p := ⟨gb237, _, none⟩) NB236_237.out _).trans (((cell_far (p := ⟨gb237, _, none⟩) NB236_237.out _).trans (hHeld.2.2.1)))), ((cell_far (p := ⟨gb237, _, none⟩) NB236_237.out _).trans (((cell_far (p := ⟨gb237, _, none⟩) NB236_237.out _).trans (hHeld.2.2.2))))⟩ (fun hHeld => ?_)
     clear hK K
     refine done_ (done_of HT_.out (by kernel_rfl)) ?_
     try go_wp2
     refine bodyPost_ret (results_cell_row rfl _ _ gb237 26 #[.int .i64 t257, .slice Ao64 t258.length co64] (0, 0) _ rfl (bp2_ BK237) Tryd.underlying26 rfl (by kernel_rfl)) rfl ?_
     exact ⟨_, by first | rfl | (simp [errW_none, errW_some] <;> rfl) | (simp [*, errW_none, errW_some] <;> rfl), rt_ HO260 BK237, bl_ HB⟩
    ·rw [if_neg c48] at H
     have c48b0 : decide (0 ≤ t253) = false := decide_eq_false c48
     clear c48
     replace H := Option.bind_eq_some_iff.mp H
     obtain ⟨t261, A660, H⟩ := H
     replace H : ((spec_l02Make.f k a1_0 t261).bind fun bt264 => (some (bt264.1, bt264.2))) = some (r1, r2) := H
     have A66 := Aside0.mk A660; clear A660
     replace H := Option.bind_eq_some_iff.mp H
     obtain ⟨⟨t264, t265⟩, A670, H⟩ := H
     replace H : (some (t264, t265)) = some (r1, r2) := H
     have A67 := Aside0.mk A670; clear A670
     simp only [Option.some.injEq, Prod.mk.injEq] at H
     obtain ⟨rfl, rfl⟩ := H
     go_enter Tryd.func105, Tryd.ntmps105
     try go_wp2_with (first | ((with_reducible refine gate_dst (N := 2) rfl ?_); refine box_event ?hg (N := 2) ?hd (cs := #[.int .i64 a0_0, .slice A0_1 l0_1.length c0_1]) (t := 26) ?hr ?_; (case hd => rfl); (case hg => rfl); (case hr => first | (go_simp; done) | (go_simp; rfl)); intro gb235 hg w68 hbox hb; have BK235 := am_ (hbox); have GW235 := am_ (gs_ hg HB); have GE235 := am_ (gs_ hg HB); replace HB := am_ (below_step (bl_ HB) hb); clear hb hbox hg) | ((with_reducible refine gate_dst (N := 3) rfl ?_); refine box_event ?hg (N := 3) ?hd (cs := #[.int .i64 a1_0, .slice A1_1 l1_1.length c1_1]) (t := 26) ?hr ?_; (case hd => rfl); (case hg => rfl); (case hr => first | (go_simp; done) | (go_simp; rfl)); intro gb236 hg w69 hbox hb; have BK236 := am_ (hbox); have GW236 := am_ (gs_ hg HB); have GE236 := am_ (gs_ hg HB); have NB235_236 := am_ (nl_ hg BK235); have NB236_235 := am_ (ng_ hg BK235); replace BK235 := am_ (blk_below (bk_ BK235) hb); replace HB := am_ (below_step (bl_ HB) hb); clear hb hbox hg) | ((with_reducible refine gate_dst (N := 4) rfl ?_); refine box_event ?hg (N := 4) ?hd (cs := #[.int .i64 0, .slice none 0 0]) (t := 26) ?hr ?_; (case hd => rfl); (case hg => rfl); (case hr => first | (go_simp; done) | (go_simp; rfl)); intro gb237 hg w70 hbox hb; have BK237 := am_ (hbox); have GW237 := am_ (gs_ hg HB); have GE237 := am_ (gs_ hg HB); have NB235_237 := am_ (nl_ hg BK235); have NB237_235 := am_ (ng_ hg BK235); have NB236_237 := am_ (nl_ hg BK236); have NB237_236 := am_ (ng_ hg BK236); replace BK235 := am_ (blk_below (bk_ BK235) hb); replace BK236 := am_ (blk_below (bk_ BK236) hb); replace HB := am_ (below_step (bl_ HB) hb); clear hb hbox hg; have hnb71 := NB235_236.out; have hnc71 := NB236_235.out; have hnb72 := NB235_237.out; have hnc72 := NB237_235.out; have hcz73_0 : w70.cell? ⟨gb235, 0, none⟩ = some (.int .i64 a0_0) := bc_ BK235 0; have hcz73_1 : w70.cell? ⟨gb235, 1, none⟩ = some (.slice A0_1 l0_1.length c0_1) := bc_ BK235 1; have hfz73_0 := blk_frozen BK235.out 0; have hfz73_1 := blk_frozen BK235.out 1; have hnb74 := NB236_237.out; have hnc74 := NB237_236.out; have hcz75_0 : w70.cell? ⟨gb236, 0, none⟩ = some (.int .i64 a1_0) := bc_ BK236 0; have hcz75_1 : w70.cell? ⟨gb236, 1, none⟩ = some (.slice A1_1 l1_1.length c1_1) := bc_ BK236 1; have hfz75_0 := blk_frozen BK236.out 0; have hfz75_1 := blk_frozen BK236.out 1) | ((with_reducible refine gate_callee (f := 131) rfl ?_); refine goesL_ (some 42) rfl rfl Tryd.func131 (by kernel_rfl) rfl #[.slice A0_1 l0_1.length c0_1, .slice A1_1 l1_1.length c1_1] rfl ma_ ?_; (with_reducible refine (spec_l02CompareLimbs.calls k _ _ l0_1 _ _ l1_1 t253 _ ?side1 ?side2 ?side3 ?side4 A47.out).mono ?_); (case side1 => exact cb_ HR0_1 HB); (case side2 => exact HC0_1.out); (case side3 => exact cb_ HR1_1 HB); (case side4 => exact HC1_1.out); rintro e w' ⟨rfl, ⟨nd, rfl⟩⟩; refine ⟨_, rfl, ?_⟩; (try (rw [drewN_self w70]; generalize hq_ : World.drewN w70 _ = w70; have n0_ : Aside0 (w70.heap[gb235]? = some (.cells #[.int .i64 a0_0, .slice A0_1 l0_1.length c0_1] 26 (0, 0))) := ⟨by rw [← hq_]; exact (bk_ BK235)⟩; have n1_ : Aside0 (w70.heap[gb236]? = some (.cells #[.int .i64 a1_0, .slice A1_1 l1_1.length c1_1] 26 (0, 0))) := ⟨by rw [← hq_]; exact (bk_ BK236)⟩; have n2_ : Aside0 (w70.heap[gb237]? = some (.cells #[.int .i64 0, .slice none 0 0] 26 (0, 0))) := ⟨by rw [← hq_]; exact (bk_ BK237)⟩; have n3_ : Aside0 (Below w.heap.size w w70) := ⟨by rw [← hq_]; exact (bl_ HB)⟩; clear BK235 BK236 BK237 HB hq_; have BK235 := n0_; have BK236 := n1_; have BK237 := n2_; have HB := n3_; clear n0_ n1_ n2_ n3_))))
     have n0_ := am_ (blk_drew BK235.out); have n1_ := am_ (blk_drew BK236.out); have n2_ := am_ (blk_drew BK237.out); have n3_ := am_ (below_drew1 HB.out); clear BK235 BK236 BK237 HB; have BK235 := n0_; have BK236 := n1_; have BK237 := n2_; have HB := n3_; clear n0_ n1_ n2_ n3_
     refine start_ (n := 9) (S := fun w' => w'.cell? ⟨gb236, 0, none⟩ = some (.int .i64 a1_0) ∧ w'.cell? ⟨gb236, 1, none⟩ = some (.slice A1_1 l1_1.length c1_1) ∧ w'.cell? ⟨gb235, 0, none⟩ = some (.int .i64 a0_0) ∧ w'.cell? ⟨gb235, 1, none⟩ = some (.slice A0_1 l0_1.length c0_1)) (ds := []) #[false, false, false, false, false, false, false, false, false] (by kernel_rfl) rfl rfl ⟨bc_ BK236 0, bc_ BK236 1, bc_ BK235 0, bc_ BK235 1⟩ (fun hHeld => ?_); refine with_tabW spec_l02Add.tab9 spec_l02Add.bits9 (fun HT_ HW_ => ?_)
     generalize w70.drew = w76 at BK235 BK236 BK237 HB hHeld ⊢
     refine pure_ (i := 0) (N := some 52) (v := ?_) (a' := ?_) #[true, false, false, false, false, false, false, false, false] rfl rfl (any_of HT_.out (by kernel_rfl)) (fun _ _ _ h => h) (Or.inl ⟨by rfl, ?_⟩) ?_ ?_
     rotate_left
     ·intro w'
      go_simp
      with_reducible rfl
     rotate_left
     ·exact nm_
     refine pure_ (i := 2) (N := some 54) (v := ?_) (a' := ?_) #[true, false, true, false, false, false, false, false, false] rfl rfl (any_of HT_.out (by kernel_rfl)) (fun _ _ _ h => h) (Or.inl ⟨by rfl, ?_⟩) ?_ ?_
     rotate_left
     ·intro w'
      go_simp
      with_reducible rfl
     rotate_left
     ·exact nm_
     refine pure_ (i := 4) (N := some 56) (v := ?_) (a' := ?_) #[true, false, true, false, true, false, false, false, false] rfl rfl (any_of HT_.out (by kernel_rfl)) (fun _ _ _ h => h) (Or.inl ⟨by rfl, ?_⟩) ?_ ?_
     rotate_left
     ·intro w'
      go_simp
      with_reducible rfl
     rotate_left
     ·exact nm_
     refine take_ (i := 1) (N := some 53) (v := ?_) (a' := ?_) #[true, true, true, false, true, false, false, false, false] rfl rfl (take_ofW HT_.out HW_.out (by kernel_rfl)) (fun _ _ _ h => h) (Or.inl ⟨by rfl, ?_⟩) hHeld ?_ ?_
     rotate_left
     ·rintro w' ⟨s0, s1, s2, s3⟩
      go_simp
      with_reducible rfl
     rotate_left
     ·exact nm_
     refine take_ (i := 3) (N := some 55) (v := ?_) (a' := ?_) #[true, true, true, true, true, false, false, false, false] rfl rfl (take_ofW HT_.out HW_.out (by kernel_rfl)) (fun _ _ _ h => h) (Or.inl ⟨by rfl, ?_⟩) hHeld ?_ ?_
     rotate_left
     ·rintro w' ⟨s0, s1, s2, s3⟩
      go_simp
      with_reducible rfl
     rotate_left
     ·exact nm_
     refine take_ (i := 5) (N := some 57) (v := ?_) (a' := ?_) #[true, true, true, true, true, true, false, false, false] rfl rfl (take_ofW HT_.out HW_.out (by kernel_rfl)) (fun _ _ _ h => h) (Or.inl ⟨by rfl, ?_⟩) hHeld ?_ ?_
     rotate_left
     ·rintro w' ⟨s0, s1, s2, s3⟩
      go_simp
      with_reducible rfl
     rotate_left
     ·exact nm_
     refine one_ (i := 6) (N := some 58) #[true, true, true, true, true, true, true, false, false] rfl rfl (one_of HT_.out (by kernel_rfl)) (by decide) (fun K hK => ?_)
     refine goes_ Tryd.func132 (by kernel_rfl) rfl #[.slice A1_1 l1_1.length c1_1, .slice A0_1 l0_1.length c0_1] (by rfl) rfl rfl ma_ ?_
     with_reducible refine (spec_l02Minus.calls k _ _ l1_1 _ _ l0_1 t261 _ ?side1 ?side2 ?side3 ?side4 A66.out).mono ?_
     (case side1 => exact cb_ HR1_1 HB)
     (case side2 => exact HC1_1.out)
     (case side3 => exact cb_ HR0_1 HB)
     (case side4 => exact HC0_1.out)
     rintro e w77 ⟨v262, rfl, ho0, hb⟩
     refine ⟨_, rfl, ?_⟩
     have n0_ := am_ (Kd.R_lower ho0 (below_size (bl_ HB))); have n1_ := am_ (blk_below (bk_ BK235) hb); have n2_ := am_ (blk_below (bk_ BK236) hb); have n3_ := am_ (blk_below (bk_ BK237) hb); have n4_ := am_ (below_step (bl_ HB) hb); clear BK235 BK236 BK237 HB; have HO263 := n0_; have BK235 := n1_; have BK236 := n2_; have BK237 := n3_; have HB := n4_; clear n0_ n1_ n2_ n3_ n4_; (try clear hb); (try clear hb2); (try clear hk); (try clear hi); (try clear ho0)
     obtain ⟨Ao78, co78, eo78⟩ := Kd.R_slice HO263.out
     (first | subst eo78 | (injection eo78 with f1_ f2_ f3_; have f4_ := f1_.symm; have f5_ := f3_.symm; clear f1_ f2_ f3_; subst f4_; subst f5_))
     refine hK.out _ _ ⟨bc_ BK236 0, bc_ BK236 1, bc_ BK235 0, bc_ BK235 1⟩ (fun hHeld => ?_)
     clear hK K
     refine norm_ (a' := ?_) ?_ ?_
     rotate_left
     ·show Act.put _ (some 58) _ = _
      exact nm_
     refine one_ (i := 7) (N := some 59) #[true, true, true, true, true, true, true, true, false] rfl rfl (one_of HT_.out (by kernel_rfl)) (by decide) (fun K hK => ?_)
     refine goes_ Tryd.func87 (by kernel_rfl) rfl #[.int .i64 a1_0, .slice Ao78 t261.length co78] (by rfl) rfl rfl ma_ ?_
     with_reducible refine (spec_l02Make.calls k a1_0 _ _ t261 t264 t265 _ ?side1 ?side2 A67.out).mono ?_
     (case side1 => exact cr_ HO263)
     (case side2 => exact (Kd.R_reads' HO263.out).2.1)
     rintro e w79 ⟨v266, rfl, ho0, hb⟩
     refine ⟨_, rfl, ?_⟩
     have n0_ := am_ (Kd.R_elder' (kr_ HO263) (Kd.R_base ho0) hb); have n1_ := am_ (Kd.R_lower (Kd.R_new' ho0 (Kd.R_lt (kr_ HO263))) (below_size (bl_ HB))); have n2_ := am_ (blk_below (bk_ BK235) hb); have n3_ := am_ (blk_below (bk_ BK236) hb); have n4_ := am_ (blk_below (bk_ BK237) hb); have n5_ := am_ (below_step (bl_ HB) hb); clear HO263 BK235 BK236 BK237 HB; have HO263 := n0_; have HO267 := n1_; have BK235 := n2_; have BK236 := n3_; have BK237 := n4_; have HB := n5_; clear n0_ n1_ n2_ n3_ n4_ n5_; (try clear hb); (try clear hb2); (try clear hk); (try clear hi); (try clear ho0)
     obtain ⟨Ao81, co81, eo81⟩ := Kd.R_slice HO267.out
     (first | subst eo81 | (injection eo81 with f1_ f2_ f3_; have f4_ := f1_.symm; have f5_ := f3_.symm; clear f1_ f2_ f3_; subst f4_; subst f5_))
     refine hK.out _ _ ⟨bc_ BK236 0, bc_ BK236 1, bc_ BK235 0, bc_ BK235 1⟩ (fun hHeld => ?_)
     clear hK K
     refine norm_ (a' := ?_) ?_ ?_
     rotate_left
     ·show Act.put _ (some 59) _ = _
      exact nm_
     refine one_ (i := 8) (N := none) #[true, true, true, true, true, true, true, true, true] rfl rfl (one_of HT_.out (by kernel_rfl)) (by decide) (fun K hK => ?_)
     have hs80 : w79.cell? ⟨gb237, 0, none⟩ = some (.int .i64 0) := bc_ BK237 0
     have hfs80 := blk_frozen BK237.out 0; have hns80_0 := NB235_237.out; have hns80_1 := NB236_237.out; have hms80_0 := NB237_235.out; have hms80_1 := NB237_236.out
     have hs82 : w79.cell? ⟨gb237, 1, none⟩ = some (.slice none 0 0) := bc_ BK237 1
     have hfs82 := blk_frozen BK237.out 1; have hns82_0 := NB235_237.out; have hns82_1 := NB236_237.out; have hms82_0 := NB237_235.out; have hms82_1 := NB237_236.out
     refine skip_ (w1 := ?_) (by rfl) rfl ?_ ?_
     rotate_left
     ·go_simp
      rfl
     refine hK.out _ _ ⟨((cell_far (p := ⟨gb237, _, none⟩) NB236_237.out _).trans (((cell_far (p := ⟨gb237, _, none⟩) NB236_237.out _).trans (hHeld.1)))), ((cell_far (p := ⟨gb237, _, none⟩) NB236_237.out _).trans (((cell_far (p := ⟨gb237, _, none⟩) NB236_237.out _).trans (hHeld.2.1)))), ((cell_far (p := ⟨gb237, _, none⟩) NB235_237.out _).trans (((cell_far (p := ⟨gb237, _, none⟩) NB235_237.out _).trans (hHeld.2.2.1)))), ((cell_far (p := ⟨gb237, _, none⟩) NB235_237.out _).trans (((cell_far (p := ⟨gb237, _, none⟩) NB235_237.out _).trans (hHeld.2.2.2))))⟩ (fun hHeld => ?_)
     clear hK K
     refine done_ (done_of HT_.out (by kernel_rfl)) ?_
     try go_wp2
     refine bodyPost_ret (results_cell_row rfl _ _ gb237 26 #[.int .i64 t264, .slice Ao81 t265.length co81] (0, 0) _ rfl (bp2_ BK237) Tryd.underlying26 rfl (by kernel_rfl)) rfl ?_
     exact ⟨_, by first | rfl | (simp [errW_none, errW_some] <;> rfl) | (simp [*, errW_none, errW_some] <;> rfl), rt_ HO267 BK237, bl_ HB⟩

/-! ### spec_l02Neg: function 133 -/
def spec_l02Neg.f (k : Nat) (a0_0 : Int) (l0_1 : List Int) : Option (Int × List Int) := (spec_l02Make.f k (wrap64 (-a0_0)) l0_1).bind fun bt270 => (some (bt270.1, bt270.2))
theorem spec_l02Neg.mono : ∀ a0 a1 k, LeO (spec_l02Neg.f k a0 a1) (spec_l02Neg.f (k + 1) a0 a1) := by
  intro a0 a1 k
  unfold spec_l02Neg.f
  repeat' first
      | (with_reducible exact spec_l02Make.mono _ _ _)
      | (with_reducible exact LeO.refl _)
      | (with_reducible exact LeO.none _)
      | (with_reducible refine LeO.ite ?_ ?_)
      | (with_reducible refine LeO.bind ?_ (fun _ => ?_))
      | exact spec_l02Make.mono _ _ _
      | exact LeO.none _
      | refine LeO.ite ?_ ?_
      | refine LeO.bind ?_ (fun _ => ?_)
set_option maxHeartbeats 8000000 in
set_option maxRecDepth 100000 in
theorem spec_l02Neg.calls (k : Nat) (a0_0 : Int) (A0_1 : Option Addr) (c0_1 : Nat) (l0_1 : List Int) (r1 : Int) (r2 : List Int) (w : World) (hr0_1 : Kd.C (Kd.int .i64) w A0_1 l0_1.length l0_1) (hc0_1 : l0_1.length ≤ c0_1) (h : spec_l02Neg.f k a0_0 l0_1 = some (r1, r2)) :
  Calls Tryd.prog 133 #[.agg #[.int .i64 a0_0, .slice A0_1 l0_1.length c0_1]] w fun e w' => ∃ v1_ : Value, e = .returned (.agg #[.int .i64 r1, v1_]) ∧ Kd.R (Kd.int .i64) 2 w' w.heap.size (fun _ => True) v1_ r2 ∧ Below w.heap.size w w' := by
 have hu26 := Tryd.underlying26; have HR0_1 := Aside0.mk hr0_1; have HC0_1 := Aside0.mk hc0_1; clear hr0_1 hc0_1; have HB := am_ (Below.refl w.heap.size w)
 have H : ((spec_l02Make.f k (wrap64 (-a0_0)) l0_1).bind fun bt270 => (some (bt270.1, bt270.2))) = some (r1, r2) := h
 clear h
 replace H := Option.bind_eq_some_iff.mp H
 obtain ⟨⟨t270, t271⟩, A20, H⟩ := H
 replace H : (some (t270, t271)) = some (r1, r2) := H
 have A2 := Aside0.mk A20; clear A20
 simp only [Option.some.injEq, Prod.mk.injEq] at H
 obtain ⟨rfl, rfl⟩ := H
 go_enter Tryd.func133, Tryd.ntmps133
 go_wp2_with (first | ((with_reducible refine gate_dst (N := 1) rfl ?_); refine box_event ?hg (N := 1) ?hd (cs := #[.int .i64 a0_0, .slice A0_1 l0_1.length c0_1]) (t := 26) ?hr ?_; (case hd => rfl); (case hg => rfl); (case hr => first | (go_simp; done) | (go_simp; rfl)); intro gb268 hg w3 hbox hb; have BK268 := am_ (hbox); have GW268 := am_ (gs_ hg HB); have GE268 := am_ (gs_ hg HB); replace HB := am_ (below_step (bl_ HB) hb); clear hb hbox hg) | ((with_reducible refine gate_dst (N := 2) rfl ?_); refine box_event ?hg (N := 2) ?hd (cs := #[.int .i64 0, .slice none 0 0]) (t := 26) ?hr ?_; (case hd => rfl); (case hg => rfl); (case hr => first | (go_simp; done) | (go_simp; rfl)); intro gb269 hg w4 hbox hb; have BK269 := am_ (hbox); have GW269 := am_ (gs_ hg HB); have GE269 := am_ (gs_ hg HB); have NB268_269 := am_ (nl_ hg BK268); have NB269_268 := am_ (ng_ hg BK268); replace BK268 := am_ (blk_below (bk_ BK268) hb); replace HB := am_ (below_step (bl_ HB) hb); clear hb hbox hg; have hnb5 := NB268_269.out; have hnc5 := NB269_268.out; have hcz6_0 : w4.cell? ⟨gb268, 0, none⟩ = some (.int .i64 a0_0) := bc_ BK268 0; have hcz6_1 : w4.cell? ⟨gb268, 1, none⟩ = some (.slice A0_1 l0_1.length c0_1) := bc_ BK268 1; have hfz6_0 := blk_frozen BK268.out 0; have hfz6_1 := blk_frozen BK268.out 1) | ((with_reducible refine gate_callee (f := 87) rfl ?_); refine goesL_ (some 8) rfl rfl Tryd.func87 (by kernel_rfl) rfl #[.int .i64 (wrap64 (-a0_0)), .slice A0_1 l0_1.length c0_1] rfl ma_ ?_; (with_reducible refine (spec_l02Make.calls k (wrap64 (-a0_0)) _ _ l0_1 t270 t271 _ ?side1 ?side2 A2.out).mono ?_); (case side1 => exact cb_ HR0_1 HB); (case side2 => exact HC0_1.out); rintro e w7 ⟨v272, rfl, ho0, hb⟩; refine ⟨_, rfl, ?_⟩; have HO273 := am_ (Kd.R_lower ho0 (below_size (bl_ HB))); replace BK268 := am_ (blk_below (bk_ BK268) hb); replace BK269 := am_ (blk_below (bk_ BK269) hb); replace HB := am_ (below_step (bl_ HB) hb); (try clear hb); (try clear hb2); (try clear hk); (try clear hi); (try clear ho0); have hcz8_0 : w7.cell? ⟨gb269, 0, none⟩ = some (.int .i64 0) := bc_ BK269 0; have hcz8_1 : w7.cell? ⟨gb269, 1, none⟩ = some (.slice none 0 0) := bc_ BK269 1; have hfz8_0 := blk_frozen BK269.out 0; have hfz8_1 := blk_frozen BK269.out 1; obtain ⟨Ao9, co9, eo9⟩ := Kd.R_slice HO273.out; subst eo9))
 refine bodyPost_ret (results_cell_row rfl _ _ gb269 26 #[.int .i64 t270, .slice Ao9 t271.length co9] (0, 0) _ rfl (bp2_ BK269) Tryd.underlying26 rfl (by kernel_rfl)) rfl ?_
 exact ⟨_, by first | rfl | (simp [errW_none, errW_some] <;> rfl) | (simp [*, errW_none, errW_some] <;> rfl), rt_ HO273 BK269, bl_ HB⟩

/-! ### spec_l02Sub: function 114 -/
def spec_l02Sub.f (k : Nat) (a0_0 : Int) (l0_1 : List Int) (a1_0 : Int) (l1_1 : List Int) : Option (Int × List Int) := (spec_l02Neg.f k a1_0 l1_1).bind fun bt277 => ((spec_l02Add.f k a0_0 l0_1 bt277.1 bt277.2).bind fun bt281 => (some (bt281.1, bt281.2)))
theorem spec_l02Sub.mono : ∀ a0 a1 a2 a3 k, LeO (spec_l02Sub.f k a0 a1 a2 a3) (spec_l02Sub.f (k + 1) a0 a1 a2 a3) := by
  intro a0 a1 a2 a3 k
  unfold spec_l02Sub.f
  repeat' first
      | (with_reducible exact spec_l02Add.mono _ _ _ _ _)
      | (with_reducible exact spec_l02Neg.mono _ _ _)
      | (with_reducible exact LeO.refl _)
      | (with_reducible exact LeO.none _)
      | (with_reducible refine LeO.ite ?_ ?_)
      | (with_reducible refine LeO.bind ?_ (fun _ => ?_))
      | exact spec_l02Add.mono _ _ _ _ _
      | exact spec_l02Neg.mono _ _ _
      | exact LeO.none _
      | refine LeO.ite ?_ ?_
      | refine LeO.bind ?_ (fun _ => ?_)
set_option maxHeartbeats 8000000 in
set_option maxRecDepth 100000 in
theorem spec_l02Sub.calls (k : Nat) (a0_0 : Int) (A0_1 : Option Addr) (c0_1 : Nat) (l0_1 : List Int) (a1_0 : Int) (A1_1 : Option Addr) (c1_1 : Nat) (l1_1 : List Int) (r1 : Int) (r2 : List Int) (w : World) (hr0_1 : Kd.C (Kd.int .i64) w A0_1 l0_1.length l0_1) (hc0_1 : l0_1.length ≤ c0_1) (hr1_1 : Kd.C (Kd.int .i64) w A1_1 l1_1.length l1_1) (hc1_1 : l1_1.length ≤ c1_1) (h : spec_l02Sub.f k a0_0 l0_1 a1_0 l1_1 = some (r1, r2)) :
  Calls Tryd.prog 114 #[.agg #[.int .i64 a0_0, .slice A0_1 l0_1.length c0_1], .agg #[.int .i64 a1_0, .slice A1_1 l1_1.length c1_1]] w fun e w' => ∃ v1_ : Value, e = .returned (.agg #[.int .i64 r1, v1_]) ∧ Kd.R (Kd.int .i64) 2 w' w.heap.size (fun _ => True) v1_ r2 ∧ Below w.heap.size w w' := by
 have hu26 := Tryd.underlying26; have HR0_1 := Aside0.mk hr0_1; have HC0_1 := Aside0.mk hc0_1; clear hr0_1 hc0_1; have HR1_1 := Aside0.mk hr1_1; have HC1_1 := Aside0.mk hc1_1; clear hr1_1 hc1_1; have HB := am_ (Below.refl w.heap.size w)
 have H : ((spec_l02Neg.f k a1_0 l1_1).bind fun bt277 => ((spec_l02Add.f k a0_0 l0_1 bt277.1 bt277.2).bind fun bt281 => (some (bt281.1, bt281.2)))) = some (r1, r2) := h
 clear h
 replace H := Option.bind_eq_some_iff.mp H
 obtain ⟨⟨t277, t278⟩, A30, H⟩ := H
 replace H : ((spec_l02Add.f k a0_0 l0_1 t277 t278).bind fun bt281 => (some (bt281.1, bt281.2))) = some (r1, r2) := H
 have A3 := Aside0.mk A30; clear A30
 replace H := Option.bind_eq_some_iff.mp H
 obtain ⟨⟨t281, t282⟩, A40, H⟩ := H
 replace H : (some (t281, t282)) = some (r1, r2) := H
 have A4 := Aside0.mk A40; clear A40
 simp only [Option.some.injEq, Prod.mk.injEq] at H
 obtain ⟨rfl, rfl⟩ := H
 go_enter Tryd.func114, Tryd.ntmps114
 try go_wp2_with (first | ((with_reducible refine gate_dst (N := 2) rfl ?_); refine box_event ?hg (N := 2) ?hd (cs := #[.int .i64 a0_0, .slice A0_1 l0_1.length c0_1]) (t := 26) ?hr ?_; (case hd => rfl); (case hg => rfl); (case hr => first | (go_simp; done) | (go_simp; rfl)); intro gb274 hg w5 hbox hb; have BK274 := am_ (hbox); have GW274 := am_ (gs_ hg HB); have GE274 := am_ (gs_ hg HB); replace HB := am_ (below_step (bl_ HB) hb); clear hb hbox hg) | ((with_reducible refine gate_dst (N := 3) rfl ?_); refine box_event ?hg (N := 3) ?hd (cs := #[.int .i64 a1_0, .slice A1_1 l1_1.length c1_1]) (t := 26) ?hr ?_; (case hd => rfl); (case hg => rfl); (case hr => first | (go_simp; done) | (go_simp; rfl)); intro gb275 hg w6 hbox hb; have BK275 := am_ (hbox); have GW275 := am_ (gs_ hg HB); have GE275 := am_ (gs_ hg HB); have NB274_275 := am_ (nl_ hg BK274); have NB275_274 := am_ (ng_ hg BK274); replace BK274 := am_ (blk_below (bk_ BK274) hb); replace HB := am_ (below_step (bl_ HB) hb); clear hb hbox hg) | ((with_reducible refine gate_dst (N := 4) rfl ?_); refine box_event ?hg (N := 4) ?hd (cs := #[.int .i64 0, .slice none 0 0]) (t := 26) ?hr ?_; (case hd => rfl); (case hg => rfl); (case hr => first | (go_simp; done) | (go_simp; rfl)); intro gb276 hg w7 hbox hb; have BK276 := am_ (hbox); have GW276 := am_ (gs_ hg HB); have GE276 := am_ (gs_ hg HB); have NB274_276 := am_ (nl_ hg BK274); have NB276_274 := am_ (ng_ hg BK274); have NB275_276 := am_ (nl_ hg BK275); have NB276_275 := am_ (ng_ hg BK275); replace BK274 := am_ (blk_below (bk_ BK274) hb); replace BK275 := am_ (blk_below (bk_ BK275) hb); replace HB := am_ (below_step (bl_ HB) hb); clear hb hbox hg))
 have n0_ := am_ (blk_drew BK274.out); have n1_ := am_ (blk_drew BK275.out); have n2_ := am_ (blk_drew BK276.out); have n3_ := am_ (below_drew1 HB.out); clear BK274 BK275 BK276 HB; have BK274 := n0_; have BK275 := n1_; have BK276 := n2_; have HB := n3_; clear n0_ n1_ n2_ n3_
 refine start_ (n := 5) (S := fun w' => w'.cell? ⟨gb274, 0, none⟩ = some (.int .i64 a0_0) ∧ w'.cell? ⟨gb274, 1, none⟩ = some (.slice A0_1 l0_1.length c0_1) ∧ w'.cell? ⟨gb275, 0, none⟩ = some (.int .i64 a1_0) ∧ w'.cell? ⟨gb275, 1, none⟩ = some (.slice A1_1 l1_1.length c1_1)) (ds := []) #[false, false, false, false, false] (by kernel_rfl) rfl rfl ⟨bc_ BK274 0, bc_ BK274 1, bc_ BK275 0, bc_ BK275 1⟩ (fun hHeld => ?_)
 generalize w7.drew = w8 at BK274 BK275 BK276 HB hHeld ⊢
 refine take_ (i := 0) (N := some 5) (v := ?_) (a' := ?_) #[true, false, false, false, false] rfl rfl (by kernel_rfl) (fun _ _ _ h => h) (Or.inl ⟨by rfl, ?_⟩) hHeld ?_ ?_
 rotate_left
 ·rintro w' ⟨s0, s1, s2, s3⟩
  go_simp
  with_reducible rfl
 rotate_left
 ·exact nm_
 refine take_ (i := 1) (N := some 6) (v := ?_) (a' := ?_) #[true, true, false, false, false] rfl rfl (by kernel_rfl) (fun _ _ _ h => h) (Or.inl ⟨by rfl, ?_⟩) hHeld ?_ ?_
 rotate_left
 ·rintro w' ⟨s0, s1, s2, s3⟩
  go_simp
  with_reducible rfl
 rotate_left
 ·exact nm_
 refine one_ (i := 2) (N := some 7) #[true, true, true, false, false] rfl rfl (by kernel_rfl) (by decide) (fun K hK => ?_)
 refine goes_ Tryd.func133 (by kernel_rfl) rfl #[.agg #[.int .i64 a1_0, .slice A1_1 l1_1.length c1_1]] (by rfl) rfl rfl ma_ ?_
 with_reducible refine (spec_l02Neg.calls k a1_0 _ _ l1_1 t277 t278 _ ?side1 ?side2 A3.out).mono ?_
 (case side1 => exact cb_ HR1_1 HB)
 (case side2 => exact HC1_1.out)
 rintro e w9 ⟨v279, rfl, ho0, hb⟩
 refine ⟨_, rfl, ?_⟩
 have n0_ := am_ (Kd.R_lower ho0 (below_size (bl_ HB))); have n1_ := am_ (blk_below (bk_ BK274) hb); have n2_ := am_ (blk_below (bk_ BK275) hb); have n3_ := am_ (blk_below (bk_ BK276) hb); have n4_ := am_ (below_step (bl_ HB) hb); clear BK274 BK275 BK276 HB; have HO280 := n0_; have BK274 := n1_; have BK275 := n2_; have BK276 := n3_; have HB := n4_; clear n0_ n1_ n2_ n3_ n4_; (try clear hb); (try clear hb2); (try clear hk); (try clear hi); (try clear ho0)
 obtain ⟨Ao10, co10, eo10⟩ := Kd.R_slice HO280.out
 (first | subst eo10 | (injection eo10 with f1_ f2_ f3_; have f4_ := f1_.symm; have f5_ := f3_.symm; clear f1_ f2_ f3_; subst f4_; subst f5_))
 refine hK.out _ _ ⟨bc_ BK274 0, bc_ BK274 1, bc_ BK275 0, bc_ BK275 1⟩ (fun hHeld => ?_)
 clear hK K
 refine norm_ (a' := ?_) ?_ ?_
 rotate_left
 ·show Act.put _ (some 7) _ = _
  exact nm_
 refine one_ (i := 3) (N := some 8) #[true, true, true, true, false] rfl rfl (by kernel_rfl) (by decide) (fun K hK => ?_)
 refine goes_ Tryd.func105 (by kernel_rfl) rfl #[.agg #[.int .i64 a0_0, .slice A0_1 l0_1.length c0_1], .agg #[.int .i64 t277, .slice Ao10 t278.length co10]] (by rfl) rfl rfl ma_ ?_
 with_reducible refine (spec_l02Add.calls k a0_0 _ _ l0_1 t277 _ _ t278 t281 t282 _ ?side1 ?side2 ?side3 ?side4 A4.out).mono ?_
 (case side1 => exact cb_ HR0_1 HB)
 (case side2 => exact HC0_1.out)
 (case side3 => exact cr_ HO280)
 (case side4 => exact (Kd.R_reads' HO280.out).2.1)
 rintro e w11 ⟨v283, rfl, ho0, hb⟩
 refine ⟨_, rfl, ?_⟩
 have n0_ := am_ (Kd.R_elder' (kr_ HO280) (Kd.R_base ho0) hb); have n1_ := am_ (Kd.R_lower (Kd.R_new' ho0 (Kd.R_lt (kr_ HO280))) (below_size (bl_ HB))); have n2_ := am_ (blk_below (bk_ BK274) hb); have n3_ := am_ (blk_below (bk_ BK275) hb); have n4_ := am_ (blk_below (bk_ BK276) hb); have n5_ := am_ (below_step (bl_ HB) hb); clear HO280 BK274 BK275 BK276 HB; have HO280 := n0_; have HO284 := n1_; have BK274 := n2_; have BK275 := n3_; have BK276 := n4_; have HB := n5_; clear n0_ n1_ n2_ n3_ n4_ n5_; (try clear hb); (try clear hb2); (try clear hk); (try clear hi); (try clear ho0)
 obtain ⟨Ao13, co13, eo13⟩ := Kd.R_slice HO284.out
 (first | subst eo13 | (injection eo13 with f1_ f2_ f3_; have f4_ := f1_.symm; have f5_ := f3_.symm; clear f1_ f2_ f3_; subst f4_; subst f5_))
 refine hK.out _ _ ⟨bc_ BK274 0, bc_ BK274 1, bc_ BK275 0, bc_ BK275 1⟩ (fun hHeld => ?_)
 clear hK K
 refine norm_ (a' := ?_) ?_ ?_
 rotate_left
 ·show Act.put _ (some 8) _ = _
  exact nm_
 refine one_ (i := 4) (N := none) #[true, true, true, true, true] rfl rfl (by kernel_rfl) (by decide) (fun K hK => ?_)
 have hs12 : w11.cell? ⟨gb276, 0, none⟩ = some (.int .i64 0) := bc_ BK276 0
 have hfs12 := blk_frozen BK276.out 0; have hns12_0 := NB274_276.out; have hns12_1 := NB275_276.out; have hms12_0 := NB276_274.out; have hms12_1 := NB276_275.out
 have hs14 : w11.cell? ⟨gb276, 1, none⟩ = some (.slice none 0 0) := bc_ BK276 1
 have hfs14 := blk_frozen BK276.out 1; have hns14_0 := NB274_276.out; have hns14_1 := NB275_276.out; have hms14_0 := NB276_274.out; have hms14_1 := NB276_275.out
 refine skip_ (w1 := ?_) (by rfl) rfl ?_ ?_
 rotate_left
 ·go_simp
  rfl
 refine hK.out _ _ ⟨((cell_far (p := ⟨gb276, _, none⟩) NB274_276.out _).trans (((cell_far (p := ⟨gb276, _, none⟩) NB274_276.out _).trans (hHeld.1)))), ((cell_far (p := ⟨gb276, _, none⟩) NB274_276.out _).trans (((cell_far (p := ⟨gb276, _, none⟩) NB274_276.out _).trans (hHeld.2.1)))), ((cell_far (p := ⟨gb276, _, none⟩) NB275_276.out _).trans (((cell_far (p := ⟨gb276, _, none⟩) NB275_276.out _).trans (hHeld.2.2.1)))), ((cell_far (p := ⟨gb276, _, none⟩) NB275_276.out _).trans (((cell_far (p := ⟨gb276, _, none⟩) NB275_276.out _).trans (hHeld.2.2.2))))⟩ (fun hHeld => ?_)
 clear hK K
 refine done_ (by kernel_rfl) ?_
 try go_wp2
 refine bodyPost_ret (results_cell_row rfl _ _ gb276 26 #[.int .i64 t281, .slice Ao13 t282.length co13] (0, 0) _ rfl (bp2_ BK276) Tryd.underlying26 rfl (by kernel_rfl)) rfl ?_
 exact ⟨_, by first | rfl | (simp [errW_none, errW_some] <;> rfl) | (simp [*, errW_none, errW_some] <;> rfl), rt_ HO284 BK276, bl_ HB⟩

end Go.Proofs.YtghhphndbbefjaaDoor.X
