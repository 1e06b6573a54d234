/- Functions of the program as plain Lean functions, each with a proof that its call does what that function says. Printed by a program over the kit's print; conditions stand in each contract. -/
import Derived.Test.YtghhphndbbefjaaDoorSq
import Derived.Test.YtghhphndbbefjaaDoorX0
import Derived.Test.YtghhphndbbefjaaDoorX1
import Derived.Test.YtghhphndbbefjaaDoorX5
namespace Go.Proofs.YtghhphndbbefjaaDoor.X
open Go.RowKit Go.Proofs.YtghhphndbbefjaaDoorW.PrintWords Go.Proofs.YtghhphndbbefjaaDoorW.PrintLast Go.Proofs.YtghhphndbbefjaaDoorW.PrintMore Go.Proofs.YtghhphndbbefjaaDoor.Sq
attribute [local go_sem] max2_int min2_int max_two min_two max_three min_three max_four min_four   -- for this text's walks alone
set_option linter.unusedVariables false
set_option linter.unusedSimpArgs false

/-! ### spec_RootOfWhole: function 20 -/
def spec_RootOfWhole.f (k : Nat) (a0_0 : Int) (l0_1 : List Int) : Option (Int × List Int × Int) := (spec_l02Is.f k a0_0 l0_1).bind fun t291 => (if t291 = true then (if a0_0 < 0 then (some (0, ([] : List Int), 5)) else ((spec_l02Root.f k a0_0 l0_1).bind fun bt292 => (some (bt292.1, bt292.2, 0)))) else (some (0, ([] : List Int), 1)))
theorem spec_RootOfWhole.mono : ∀ a0 a1 k, LeO (spec_RootOfWhole.f k a0 a1) (spec_RootOfWhole.f (k + 1) a0 a1) := by
  intro a0 a1 k
  unfold spec_RootOfWhole.f
  repeat' first
      | (with_reducible exact spec_l02Is.mono _ _ _)
      | (with_reducible exact spec_l02Root.mono _ _ _)
      | (with_reducible exact LeO.refl _)
      | (with_reducible exact LeO.none _)
      | (with_reducible refine LeO.ite ?_ ?_)
      | (with_reducible refine LeO.bind ?_ (fun _ => ?_))
      | exact spec_l02Is.mono _ _ _
      | exact spec_l02Root.mono _ _ _
      | exact LeO.none _
      | refine LeO.ite ?_ ?_
      | refine LeO.bind ?_ (fun _ => ?_)
set_option maxHeartbeats 8000000 in
set_option maxRecDepth 100000 in
theorem spec_RootOfWhole.calls (k : Nat) (a0_0 : Int) (A0_1 : Option Addr) (c0_1 : Nat) (l0_1 : List Int) (r1 : Int) (r2 : List Int) (r3 : Int) (w : World) (hr0_1 : Kd.C (Kd.int .i64) w A0_1 l0_1.length l0_1) (hc0_1 : l0_1.length ≤ c0_1) (h : spec_RootOfWhole.f k a0_0 l0_1 = some (r1, r2, r3)) :
  Calls Tryd.prog 20 #[.agg #[.int .i64 a0_0, .slice A0_1 l0_1.length c0_1]] w fun e w' => ∃ v1_ : Value, e = .returned (.tuple #[.agg #[.int .i64 r1, v1_], .int .i64 r3]) ∧ Kd.R (Kd.int .i64) 2 w' w.heap.size (fun _ => True) v1_ r2 ∧ Below w.heap.size w w' := by
 have hu26 := Tryd.underlying26; have HR0_1 := Aside0.mk hr0_1; have HC0_1 := Aside0.mk hc0_1; clear hr0_1 hc0_1; have HB := am_ (Below.refl w.heap.size w)
 have H : ((spec_l02Is.f k a0_0 l0_1).bind fun t291 => (if t291 = true then (if a0_0 < 0 then (some (0, ([] : List Int), 5)) else ((spec_l02Root.f k a0_0 l0_1).bind fun bt292 => (some (bt292.1, bt292.2, 0)))) else (some (0, ([] : List Int), 1)))) = some (r1, r2, r3) := h
 clear h
 replace H := Option.bind_eq_some_iff.mp H
 obtain ⟨t291, A20, H⟩ := H
 replace H : (if t291 = true then (if a0_0 < 0 then (some (0, ([] : List Int), 5)) else ((spec_l02Root.f k a0_0 l0_1).bind fun bt292 => (some (bt292.1, bt292.2, 0)))) else (some (0, ([] : List Int), 1))) = some (r1, r2, r3) := H
 have A2 := Aside0.mk A20; clear A20
 by_cases c3 : t291 = true
 ·subst c3
  have H1 : (if a0_0 < 0 then (some (0, ([] : List Int), 5)) else ((spec_l02Root.f k a0_0 l0_1).bind fun bt292 => (some (bt292.1, bt292.2, 0)))) = some (r1, r2, r3) := by rw [if_pos rfl] at H; exact H
  clear H; have H := H1; clear H1
  by_cases c4 : a0_0 < 0
  ·rw [if_pos c4] at H
   have c4b0 : decide (a0_0 < 0) = true := decide_eq_true c4
   clear c4
   simp only [Option.some.injEq, Prod.mk.injEq] at H
   obtain ⟨rfl, rfl, rfl⟩ := H
   go_enter Tryd.func20, Tryd.ntmps20
   go_wp2_with (first | ((with_reducible refine gate_dst (N := 1) rfl ?_); refine box_event ?hg (N := 1) ?hd (cs := #[.int .i64 a0_0, .slice A0_1 l0_1.length c0_1]) (t := 26) ?hr ?_; (case hd => rfl); (case hg => rfl); (case hr => first | (go_simp; done) | (go_simp; rfl)); intro gb289 hg w5 hbox hb; have BK289 := am_ (hbox); have GW289 := am_ (gs_ hg HB); have GE289 := am_ (gs_ hg HB); replace HB := am_ (below_step (bl_ HB) hb); clear hb hbox hg) | ((with_reducible refine gate_dst (N := 2) rfl ?_); refine box_event ?hg (N := 2) ?hd (cs := #[.int .i64 0, .slice none 0 0]) (t := 26) ?hr ?_; (case hd => rfl); (case hg => rfl); (case hr => first | (go_simp; done) | (go_simp; rfl)); intro gb290 hg w6 hbox hb; have BK290 := am_ (hbox); have GW290 := am_ (gs_ hg HB); have GE290 := am_ (gs_ hg HB); have NB289_290 := am_ (nl_ hg BK289); have NB290_289 := am_ (ng_ hg BK289); replace BK289 := am_ (blk_below (bk_ BK289) hb); replace HB := am_ (below_step (bl_ HB) hb); clear hb hbox hg; have hnb7 := NB289_290.out; have hnc7 := NB290_289.out; have hcz8_0 : w6.cell? ⟨gb289, 0, none⟩ = some (.int .i64 a0_0) := bc_ BK289 0; have hcz8_1 : w6.cell? ⟨gb289, 1, none⟩ = some (.slice A0_1 l0_1.length c0_1) := bc_ BK289 1; have hfz8_0 := blk_frozen BK289.out 0; have hfz8_1 := blk_frozen BK289.out 1) | ((with_reducible refine gate_callee (f := 53) rfl ?_); refine goesL_ (some 5) rfl rfl Tryd.func53 (by kernel_rfl) rfl #[.agg #[.int .i64 a0_0, .slice A0_1 l0_1.length c0_1]] rfl ma_ ?_; (with_reducible refine (spec_l02Is.calls k a0_0 _ _ l0_1 true _ ?side1 ?side2 A2.out).mono ?_); (case side1 => exact cb_ HR0_1 HB); (case side2 => exact HC0_1.out); rintro e w9 ⟨rfl, hb⟩; refine ⟨_, rfl, ?_⟩; replace BK289 := am_ (blk_below (bk_ BK289) hb); replace BK290 := am_ (blk_below (bk_ BK290) hb); replace HB := am_ (below_step (bl_ HB) hb); (try clear hb); (try clear hb2); (try clear hk); (try clear hi); have hcz10_0 : w9.cell? ⟨gb289, 0, none⟩ = some (.int .i64 a0_0) := bc_ BK289 0; have hcz10_1 : w9.cell? ⟨gb289, 1, none⟩ = some (.slice A0_1 l0_1.length c0_1) := bc_ BK289 1; have hfz10_0 := blk_frozen BK289.out 0; have hfz10_1 := blk_frozen BK289.out 1; have hcz11_0 : w9.cell? ⟨gb290, 0, none⟩ = some (.int .i64 0) := bc_ BK290 0; have hcz11_1 : w9.cell? ⟨gb290, 1, none⟩ = some (.slice none 0 0) := bc_ BK290 1; have hfz11_0 := blk_frozen BK290.out 0; have hfz11_1 := blk_frozen BK290.out 1))
   refine bodyPost_ret (results_ct rfl _ _ gb290 26 #[.int .i64 0, .slice none 0 0] (0, 0) _ rfl (bp2_ BK290) Tryd.underlying26 rfl (by kernel_rfl)) rfl ?_
   exact ⟨_, by first | rfl | (simp [errW_none, errW_some] <;> rfl) | (simp [*, errW_none, errW_some] <;> rfl), by first | exact Kd.R_nil _ _ _ _ _ | exact Kd.N_nil _ _ _ _ _ | exact Kd.V_nil _ _ _ _ _ | exact Kd.Q_nil _ _ _ _ _ | exact Kd.S_nil _ _ _ _ _, bl_ HB⟩
  ·rw [if_neg c4] at H
   have c4b0 : decide (a0_0 < 0) = false := decide_eq_false c4
   clear c4
   replace H := Option.bind_eq_some_iff.mp H
   obtain ⟨⟨t292, t293⟩, A120, H⟩ := H
   replace H : (some (t292, t293, 0)) = some (r1, r2, r3) := H
   have A12 := Aside0.mk A120; clear A120
   simp only [Option.some.injEq, Prod.mk.injEq] at H
   obtain ⟨rfl, rfl, rfl⟩ := H
   go_enter Tryd.func20, Tryd.ntmps20
   go_wp2_with (first | ((with_reducible refine gate_dst (N := 1) rfl ?_); refine box_event ?hg (N := 1) ?hd (cs := #[.int .i64 a0_0, .slice A0_1 l0_1.length c0_1]) (t := 26) ?hr ?_; (case hd => rfl); (case hg => rfl); (case hr => first | (go_simp; done) | (go_simp; rfl)); intro gb289 hg w13 hbox hb; have BK289 := am_ (hbox); have GW289 := am_ (gs_ hg HB); have GE289 := am_ (gs_ hg HB); replace HB := am_ (below_step (bl_ HB) hb); clear hb hbox hg) | ((with_reducible refine gate_dst (N := 2) rfl ?_); refine box_event ?hg (N := 2) ?hd (cs := #[.int .i64 0, .slice none 0 0]) (t := 26) ?hr ?_; (case hd => rfl); (case hg => rfl); (case hr => first | (go_simp; done) | (go_simp; rfl)); intro gb290 hg w14 hbox hb; have BK290 := am_ (hbox); have GW290 := am_ (gs_ hg HB); have GE290 := am_ (gs_ hg HB); have NB289_290 := am_ (nl_ hg BK289); have NB290_289 := am_ (ng_ hg BK289); replace BK289 := am_ (blk_below (bk_ BK289) hb); replace HB := am_ (below_step (bl_ HB) hb); clear hb hbox hg; have hnb15 := NB289_290.out; have hnc15 := NB290_289.out; have hcz16_0 : w14.cell? ⟨gb289, 0, none⟩ = some (.int .i64 a0_0) := bc_ BK289 0; have hcz16_1 : w14.cell? ⟨gb289, 1, none⟩ = some (.slice A0_1 l0_1.length c0_1) := bc_ BK289 1; have hfz16_0 := blk_frozen BK289.out 0; have hfz16_1 := blk_frozen BK289.out 1) | ((with_reducible refine gate_callee (f := 53) rfl ?_); refine goesL_ (some 5) rfl rfl Tryd.func53 (by kernel_rfl) rfl #[.agg #[.int .i64 a0_0, .slice A0_1 l0_1.length c0_1]] rfl ma_ ?_; (with_reducible refine (spec_l02Is.calls k a0_0 _ _ l0_1 true _ ?side1 ?side2 A2.out).mono ?_); (case side1 => exact cb_ HR0_1 HB); (case side2 => exact HC0_1.out); rintro e w17 ⟨rfl, hb⟩; refine ⟨_, rfl, ?_⟩; replace BK289 := am_ (blk_below (bk_ BK289) hb); replace BK290 := am_ (blk_below (bk_ BK290) hb); replace HB := am_ (below_step (bl_ HB) hb); (try clear hb); (try clear hb2); (try clear hk); (try clear hi); have hcz18_0 : w17.cell? ⟨gb289, 0, none⟩ = some (.int .i64 a0_0) := bc_ BK289 0; have hcz18_1 : w17.cell? ⟨gb289, 1, none⟩ = some (.slice A0_1 l0_1.length c0_1) := bc_ BK289 1; have hfz18_0 := blk_frozen BK289.out 0; have hfz18_1 := blk_frozen BK289.out 1) | ((with_reducible refine gate_callee (f := 56) rfl ?_); refine goesL_ (some 13) rfl rfl Tryd.func56 (by kernel_rfl) rfl #[.agg #[.int .i64 a0_0, .slice A0_1 l0_1.length c0_1]] rfl ma_ ?_; (with_reducible refine (spec_l02Root.calls k a0_0 _ _ l0_1 t292 t293 _ ?side1 ?side2 A12.out).mono ?_); (case side1 => exact cb_ HR0_1 HB); (case side2 => exact HC0_1.out); rintro e w19 ⟨v294, rfl, ho0, hb⟩; refine ⟨_, rfl, ?_⟩; have HO295 := am_ (Kd.R_lower ho0 (below_size (bl_ HB))); replace BK289 := am_ (blk_below (bk_ BK289) hb); replace BK290 := am_ (blk_below (bk_ BK290) hb); replace HB := am_ (below_step (bl_ HB) hb); (try clear hb); (try clear hb2); (try clear hk); (try clear hi); (try clear ho0); have hcz20_0 : w19.cell? ⟨gb290, 0, none⟩ = some (.int .i64 0) := bc_ BK290 0; have hcz20_1 : w19.cell? ⟨gb290, 1, none⟩ = some (.slice none 0 0) := bc_ BK290 1; have hfz20_0 := blk_frozen BK290.out 0; have hfz20_1 := blk_frozen BK290.out 1; obtain ⟨Ao21, co21, eo21⟩ := Kd.R_slice HO295.out; subst eo21))
   refine bodyPost_ret (results_ct rfl _ _ gb290 26 #[.int .i64 t292, .slice Ao21 t293.length co21] (0, 0) _ rfl (bp2_ BK290) Tryd.underlying26 rfl (by kernel_rfl)) rfl ?_
   exact ⟨_, by first | rfl | (simp [errW_none, errW_some] <;> rfl) | (simp [*, errW_none, errW_some] <;> rfl), rt_ HO295 BK290, bl_ HB⟩
 ·replace c3 := Bool.eq_false_iff.mpr c3
  subst c3
  have H1 : (some (0, ([] : List Int), 1)) = some (r1, r2, r3) := by rw [if_neg (show ¬ (false = true) by decide)] at H; exact H
  clear H; have H := H1; clear H1
  simp only [Option.some.injEq, Prod.mk.injEq] at H
  obtain ⟨rfl, rfl, rfl⟩ := H
  go_enter Tryd.func20, Tryd.ntmps20
  go_wp2_with (first | ((with_reducible refine gate_dst (N := 1) rfl ?_); refine box_event ?hg (N := 1) ?hd (cs := #[.int .i64 a0_0, .slice A0_1 l0_1.length c0_1]) (t := 26) ?hr ?_; (case hd => rfl); (case hg => rfl); (case hr => first | (go_simp; done) | (go_simp; rfl)); intro gb289 hg w22 hbox hb; have BK289 := am_ (hbox); have GW289 := am_ (gs_ hg HB); have GE289 := am_ (gs_ hg HB); replace HB := am_ (below_step (bl_ HB) hb); clear hb hbox hg) | ((with_reducible refine gate_dst (N := 2) rfl ?_); refine box_event ?hg (N := 2) ?hd (cs := #[.int .i64 0, .slice none 0 0]) (t := 26) ?hr ?_; (case hd => rfl); (case hg => rfl); (case hr => first | (go_simp; done) | (go_simp; rfl)); intro gb290 hg w23 hbox hb; have BK290 := am_ (hbox); have GW290 := am_ (gs_ hg HB); have GE290 := am_ (gs_ hg HB); have NB289_290 := am_ (nl_ hg BK289); have NB290_289 := am_ (ng_ hg BK289); replace BK289 := am_ (blk_below (bk_ BK289) hb); replace HB := am_ (below_step (bl_ HB) hb); clear hb hbox hg; have hnb24 := NB289_290.out; have hnc24 := NB290_289.out; have hcz25_0 : w23.cell? ⟨gb289, 0, none⟩ = some (.int .i64 a0_0) := bc_ BK289 0; have hcz25_1 : w23.cell? ⟨gb289, 1, none⟩ = some (.slice A0_1 l0_1.length c0_1) := bc_ BK289 1; have hfz25_0 := blk_frozen BK289.out 0; have hfz25_1 := blk_frozen BK289.out 1) | ((with_reducible refine gate_callee (f := 53) rfl ?_); refine goesL_ (some 5) rfl rfl Tryd.func53 (by kernel_rfl) rfl #[.agg #[.int .i64 a0_0, .slice A0_1 l0_1.length c0_1]] rfl ma_ ?_; (with_reducible refine (spec_l02Is.calls k a0_0 _ _ l0_1 false _ ?side1 ?side2 A2.out).mono ?_); (case side1 => exact cb_ HR0_1 HB); (case side2 => exact HC0_1.out); rintro e w26 ⟨rfl, hb⟩; refine ⟨_, rfl, ?_⟩; replace BK289 := am_ (blk_below (bk_ BK289) hb); replace BK290 := am_ (blk_below (bk_ BK290) hb); replace HB := am_ (below_step (bl_ HB) hb); (try clear hb); (try clear hb2); (try clear hk); (try clear hi); have hcz27_0 : w26.cell? ⟨gb290, 0, none⟩ = some (.int .i64 0) := bc_ BK290 0; have hcz27_1 : w26.cell? ⟨gb290, 1, none⟩ = some (.slice none 0 0) := bc_ BK290 1; have hfz27_0 := blk_frozen BK290.out 0; have hfz27_1 := blk_frozen BK290.out 1))
  refine bodyPost_ret (results_ct rfl _ _ gb290 26 #[.int .i64 0, .slice none 0 0] (0, 0) _ rfl (bp2_ BK290) Tryd.underlying26 rfl (by kernel_rfl)) rfl ?_
  exact ⟨_, by first | rfl | (simp [errW_none, errW_some] <;> rfl) | (simp [*, errW_none, errW_some] <;> rfl), by first | exact Kd.R_nil _ _ _ _ _ | exact Kd.N_nil _ _ _ _ _ | exact Kd.V_nil _ _ _ _ _ | exact Kd.Q_nil _ _ _ _ _ | exact Kd.S_nil _ _ _ _ _, bl_ HB⟩

end Go.Proofs.YtghhphndbbefjaaDoor.X
