/- Functions of the program as plain Lean functions, each with a proof that its call does what that function says. Printed by a program over the kit's print; conditions stand in each contract. -/
import Derived.Test.YthddlechoibdkaaDoorSq
import Derived.Test.YthddlechoibdkaaDoorDy6
import Derived.Test.YthddlechoibdkaaDoorX0
import Derived.Test.YthddlechoibdkaaDoorX1
import Derived.Test.YthddlechoibdkaaDoorX2
namespace Go.Proofs.YthddlechoibdkaaDoor.X
open Go.RowKit Go.Proofs.YthddlechoibdkaaDoorW.PrintWords Go.Proofs.YthddlechoibdkaaDoorW.PrintLast Go.Proofs.YthddlechoibdkaaDoorW.PrintMore Go.Proofs.YthddlechoibdkaaDoor.Sq
attribute [local go_sem] max2_int min2_int max_two min_two max_three min_three max_four min_four   -- for this text's walks alone
set_option linter.unusedVariables false
set_option linter.unusedSimpArgs false

/-! ### spec_l03Compare: function 48 -/
def spec_l03Compare.f (k : Nat) (a0_0 : Int) (l0_1 : List Int) (a0_2 : Int) (a1_0 : Int) (l1_1 : List Int) (a1_2 : Int) : Option (Int) := (spec_l03Sub.f k a0_0 l0_1 a0_2 a1_0 l1_1 a1_2).bind fun bt332 => (some bt332.1)
theorem spec_l03Compare.mono : ∀ a0 a1 a2 a3 a4 a5 k, LeO (spec_l03Compare.f k a0 a1 a2 a3 a4 a5) (spec_l03Compare.f (k + 1) a0 a1 a2 a3 a4 a5) := by
  intro a0 a1 a2 a3 a4 a5 k
  unfold spec_l03Compare.f
  repeat' first
      | (with_reducible exact spec_l03Sub.mono _ _ _ _ _ _ _)
      | (with_reducible exact LeO.refl _)
      | (with_reducible exact LeO.none _)
      | (with_reducible refine LeO.ite ?_ ?_)
      | (with_reducible refine LeO.bind ?_ (fun _ => ?_))
      | exact spec_l03Sub.mono _ _ _ _ _ _ _
      | exact LeO.none _
      | refine LeO.ite ?_ ?_
      | refine LeO.bind ?_ (fun _ => ?_)
set_option maxHeartbeats 8000000 in
set_option maxRecDepth 100000 in
theorem spec_l03Compare.calls (k : Nat) (a0_0 : Int) (A0_1 : Option Addr) (c0_1 : Nat) (l0_1 : List Int) (a0_2 : Int) (a1_0 : Int) (A1_1 : Option Addr) (c1_1 : Nat) (l1_1 : List Int) (a1_2 : Int) (r : Int) (w : World) (hr0_1 : Kd.C (Kd.int .i64) w A0_1 l0_1.length l0_1) (hc0_1 : l0_1.length ≤ c0_1) (hr1_1 : Kd.C (Kd.int .i64) w A1_1 l1_1.length l1_1) (hc1_1 : l1_1.length ≤ c1_1) (h : spec_l03Compare.f k a0_0 l0_1 a0_2 a1_0 l1_1 a1_2 = some r) :
  Calls Tryd.prog 48 #[.agg #[.int .i64 a0_0, .slice A0_1 l0_1.length c0_1, .int .i64 a0_2], .agg #[.int .i64 a1_0, .slice A1_1 l1_1.length c1_1, .int .i64 a1_2]] w fun e w' => e = .returned (.int .i64 r) ∧ Below w.heap.size w w' := by
 have hu30 := Tryd.underlying30; have HR0_1 := Aside0.mk hr0_1; have HC0_1 := Aside0.mk hc0_1; clear hr0_1 hc0_1; have HR1_1 := Aside0.mk hr1_1; have HC1_1 := Aside0.mk hc1_1; clear hr1_1 hc1_1; have HB := am_ (Below.refl w.heap.size w)
 have H : ((spec_l03Sub.f k a0_0 l0_1 a0_2 a1_0 l1_1 a1_2).bind fun bt332 => (some bt332.1)) = some r := h
 clear h
 replace H := Option.bind_eq_some_iff.mp H
 obtain ⟨⟨t332, t333, t336⟩, A30, H⟩ := H
 replace H : (some t332) = some r := H
 have A3 := Aside0.mk A30; clear A30; obtain rfl := Option.some.inj H
 go_enter Tryd.func48, Tryd.ntmps48
 go_wp2_with (first | ((with_reducible refine gate_dst (N := 2) rfl ?_); refine box_event ?hg (N := 2) ?hd (cs := #[.int .i64 a0_0, .slice A0_1 l0_1.length c0_1, .int .i64 a0_2]) (t := 30) ?hr ?_; (case hd => rfl); (case hg => rfl); (case hr => first | (go_simp; done) | (go_simp; rfl)); intro gb330 hg w4 hbox hb; have n0_ := am_ (below_step (bl_ HB) hb); have n1_ := am_ (hbox); have n2_ := am_ (gs_ hg HB); have n3_ := am_ (gs_ hg HB); clear HB; have HB := n0_; have BK330 := n1_; have GW330 := n2_; have GE330 := n3_; clear n0_ n1_ n2_ n3_; clear hb hbox hg) | ((with_reducible refine gate_dst (N := 3) rfl ?_); refine box_event ?hg (N := 3) ?hd (cs := #[.int .i64 a1_0, .slice A1_1 l1_1.length c1_1, .int .i64 a1_2]) (t := 30) ?hr ?_; (case hd => rfl); (case hg => rfl); (case hr => first | (go_simp; done) | (go_simp; rfl)); intro gb331 hg w5 hbox hb; have n0_ := am_ (blk_below (bk_ BK330) hb); have n1_ := am_ (below_step (bl_ HB) hb); have n2_ := am_ (hbox); have n3_ := am_ (gs_ hg HB); have n4_ := am_ (gs_ hg HB); have n5_ := am_ (nl_ hg BK330); have n6_ := am_ (ng_ hg BK330); clear BK330; clear HB; have BK330 := n0_; have HB := n1_; have BK331 := n2_; have GW331 := n3_; have GE331 := n4_; have NB330_331 := n5_; have NB331_330 := n6_; clear n0_ n1_ n2_ n3_ n4_ n5_ n6_; clear hb hbox hg; have hnb6 := NB330_331.out; have hnc6 := NB331_330.out; have hcz7_0 : w5.cell? ⟨gb330, 0, none⟩ = some (.int .i64 a0_0) := (blk_cell BK330.out 0).trans rfl; have hcz7_1 : w5.cell? ⟨gb330, 1, none⟩ = some (.slice A0_1 l0_1.length c0_1) := (blk_cell BK330.out 1).trans rfl; have hcz7_2 : w5.cell? ⟨gb330, 2, none⟩ = some (.int .i64 a0_2) := (blk_cell BK330.out 2).trans rfl; have hfz7_0 := blk_frozen BK330.out 0; have hfz7_1 := blk_frozen BK330.out 1; have hfz7_2 := blk_frozen BK330.out 2; have hcz8_0 : w5.cell? ⟨gb331, 0, none⟩ = some (.int .i64 a1_0) := (blk_cell BK331.out 0).trans rfl; have hcz8_1 : w5.cell? ⟨gb331, 1, none⟩ = some (.slice A1_1 l1_1.length c1_1) := (blk_cell BK331.out 1).trans rfl; have hcz8_2 : w5.cell? ⟨gb331, 2, none⟩ = some (.int .i64 a1_2) := (blk_cell BK331.out 2).trans rfl; have hfz8_0 := blk_frozen BK331.out 0; have hfz8_1 := blk_frozen BK331.out 1; have hfz8_2 := blk_frozen BK331.out 2) | ((with_reducible refine gate_callee (f := 65) rfl ?_); refine goesL_ (some 7) rfl rfl Tryd.func65 (by kernel_rfl) rfl #[.agg #[.int .i64 a0_0, .slice A0_1 l0_1.length c0_1, .int .i64 a0_2], .agg #[.int .i64 a1_0, .slice A1_1 l1_1.length c1_1, .int .i64 a1_2]] rfl ma_ ?_; (with_reducible refine (spec_l03Sub.calls k a0_0 _ _ l0_1 a0_2 a1_0 _ _ l1_1 a1_2 t332 t333 t336 _ ?side1 ?side2 ?side3 ?side4 A3.out).mono ?_); (case side1 => repeat (first | exact (Kd.C_below HR0_1.out HB.out) | (with_reducible refine Kd.C_alloc ?_ _) | (with_reducible refine Kd.C_drewN ?_ _) | (with_reducible refine Kd.C_drew ?_))); (case side2 => exact HC0_1.out); (case side3 => repeat (first | exact (Kd.C_below HR1_1.out HB.out) | (with_reducible refine Kd.C_alloc ?_ _) | (with_reducible refine Kd.C_drewN ?_ _) | (with_reducible refine Kd.C_drew ?_))); (case side4 => exact HC1_1.out); rintro e w9 ⟨v334, rfl, ho0, hb⟩; refine ⟨_, rfl, ?_⟩; have n0_ := am_ (Kd.R_lower ho0 (below_size (bl_ HB))); have n1_ := am_ (blk_below (bk_ BK330) hb); have n2_ := am_ (blk_below (bk_ BK331) hb); have n3_ := am_ (below_step (bl_ HB) hb); clear BK330; clear BK331; clear HB; have HO335 := n0_; have BK330 := n1_; have BK331 := n2_; have HB := n3_; clear n0_ n1_ n2_ n3_; (try clear hb); (try clear hb2); (try clear hk); (try clear hi); (try clear ho0)))
 have hfa_ : ∀ (u v a : Value) (w : World), (Instr.field 30 (.agg #[u, v, a]) 0).run Tryd.prog w = .ok (.agg #[u, v]) w := fun _ _ _ _ => by kernel_rfl
 have hfb_ : ∀ (u v : Value) (w : World), (Instr.field 28 (.agg #[u, v]) 0).run Tryd.prog w = .ok u w := fun _ _ _ => by kernel_rfl
 rw [hfa_]
 go_wp2
 go_ret
 exact ⟨by first | rfl | (simp [errW_none, errW_some] <;> rfl) | (simp [*, errW_none, errW_some] <;> rfl), bl_ HB⟩

/-! ### spec_CompareDyadics: function 20 -/
def spec_CompareDyadics.f (k : Nat) (a0_0 : Int) (l0_1 : List Int) (a0_2 : Int) (a1_0 : Int) (l1_1 : List Int) (a1_2 : Int) : Option (Int × Int) := (spec_l03Both.f k a0_0 l0_1 a0_2 a1_0 l1_1 a1_2).bind fun t339 => (if t339 = 0 then ((spec_l03Compare.f k a0_0 l0_1 a0_2 a1_0 l1_1 a1_2).bind fun t340 => (some (t340, 0))) else (some (0, t339)))
theorem spec_CompareDyadics.mono : ∀ a0 a1 a2 a3 a4 a5 k, LeO (spec_CompareDyadics.f k a0 a1 a2 a3 a4 a5) (spec_CompareDyadics.f (k + 1) a0 a1 a2 a3 a4 a5) := by
  intro a0 a1 a2 a3 a4 a5 k
  unfold spec_CompareDyadics.f
  repeat' first
      | (with_reducible exact spec_l03Both.mono _ _ _ _ _ _ _)
      | (with_reducible exact spec_l03Compare.mono _ _ _ _ _ _ _)
      | (with_reducible exact LeO.refl _)
      | (with_reducible exact LeO.none _)
      | (with_reducible refine LeO.ite ?_ ?_)
      | (with_reducible refine LeO.bind ?_ (fun _ => ?_))
      | exact spec_l03Both.mono _ _ _ _ _ _ _
      | exact spec_l03Compare.mono _ _ _ _ _ _ _
      | exact LeO.none _
      | refine LeO.ite ?_ ?_
      | refine LeO.bind ?_ (fun _ => ?_)
set_option maxHeartbeats 8000000 in
set_option maxRecDepth 100000 in
theorem spec_CompareDyadics.calls (k : Nat) (a0_0 : Int) (A0_1 : Option Addr) (c0_1 : Nat) (l0_1 : List Int) (a0_2 : Int) (a1_0 : Int) (A1_1 : Option Addr) (c1_1 : Nat) (l1_1 : List Int) (a1_2 : Int) (r1 : Int) (r2 : Int) (w : World) (hr0_1 : Kd.C (Kd.int .i64) w A0_1 l0_1.length l0_1) (hc0_1 : l0_1.length ≤ c0_1) (hr1_1 : Kd.C (Kd.int .i64) w A1_1 l1_1.length l1_1) (hc1_1 : l1_1.length ≤ c1_1) (h : spec_CompareDyadics.f k a0_0 l0_1 a0_2 a1_0 l1_1 a1_2 = some (r1, r2)) :
  Calls Tryd.prog 20 #[.agg #[.int .i64 a0_0, .slice A0_1 l0_1.length c0_1, .int .i64 a0_2], .agg #[.int .i64 a1_0, .slice A1_1 l1_1.length c1_1, .int .i64 a1_2]] w fun e w' => e = .returned (.tuple #[.int .i64 r1, .int .i64 r2]) ∧ Below w.heap.size w w' := by
 have hu30 := Tryd.underlying30; have HR0_1 := Aside0.mk hr0_1; have HC0_1 := Aside0.mk hc0_1; clear hr0_1 hc0_1; have HR1_1 := Aside0.mk hr1_1; have HC1_1 := Aside0.mk hc1_1; clear hr1_1 hc1_1; have HB := am_ (Below.refl w.heap.size w)
 have H : ((spec_l03Both.f k a0_0 l0_1 a0_2 a1_0 l1_1 a1_2).bind fun t339 => (if t339 = 0 then ((spec_l03Compare.f k a0_0 l0_1 a0_2 a1_0 l1_1 a1_2).bind fun t340 => (some (t340, 0))) else (some (0, t339)))) = some (r1, r2) := h
 clear h
 replace H := Option.bind_eq_some_iff.mp H
 obtain ⟨t339, A30, H⟩ := H
 replace H : (if t339 = 0 then ((spec_l03Compare.f k a0_0 l0_1 a0_2 a1_0 l1_1 a1_2).bind fun t340 => (some (t340, 0))) else (some (0, t339))) = some (r1, r2) := H
 have A3 := Aside0.mk A30; clear A30
 by_cases c4 : t339 = 0
 ·rw [if_pos c4] at H
  have c4b0 : (t339 == 0) = true := beq_iff_eq.mpr c4
  have c4b1 : (t339 != 0) = false := bne_eq_false_iff_eq.mpr c4
  clear c4
  replace H := Option.bind_eq_some_iff.mp H
  obtain ⟨t340, A50, H⟩ := H
  replace H : (some (t340, 0)) = some (r1, r2) := H
  have A5 := Aside0.mk A50; clear A50
  simp only [Option.some.injEq, Prod.mk.injEq] at H
  obtain ⟨rfl, rfl⟩ := H
  go_enter Tryd.func20, Tryd.ntmps20
  go_wp2_with (first | ((with_reducible refine gate_dst (N := 2) rfl ?_); refine box_event ?hg (N := 2) ?hd (cs := #[.int .i64 a0_0, .slice A0_1 l0_1.length c0_1, .int .i64 a0_2]) (t := 30) ?hr ?_; (case hd => rfl); (case hg => rfl); (case hr => first | (go_simp; done) | (go_simp; rfl)); intro gb337 hg w6 hbox hb; have n0_ := am_ (below_step (bl_ HB) hb); have n1_ := am_ (hbox); have n2_ := am_ (gs_ hg HB); have n3_ := am_ (gs_ hg HB); clear HB; have HB := n0_; have BK337 := n1_; have GW337 := n2_; have GE337 := n3_; clear n0_ n1_ n2_ n3_; clear hb hbox hg) | ((with_reducible refine gate_dst (N := 3) rfl ?_); refine box_event ?hg (N := 3) ?hd (cs := #[.int .i64 a1_0, .slice A1_1 l1_1.length c1_1, .int .i64 a1_2]) (t := 30) ?hr ?_; (case hd => rfl); (case hg => rfl); (case hr => first | (go_simp; done) | (go_simp; rfl)); intro gb338 hg w7 hbox hb; have n0_ := am_ (blk_below (bk_ BK337) hb); have n1_ := am_ (below_step (bl_ HB) hb); have n2_ := am_ (hbox); have n3_ := am_ (gs_ hg HB); have n4_ := am_ (gs_ hg HB); have n5_ := am_ (nl_ hg BK337); have n6_ := am_ (ng_ hg BK337); clear BK337; clear HB; have BK337 := n0_; have HB := n1_; have BK338 := n2_; have GW338 := n3_; have GE338 := n4_; have NB337_338 := n5_; have NB338_337 := n6_; clear n0_ n1_ n2_ n3_ n4_ n5_ n6_; clear hb hbox hg; have hnb8 := NB337_338.out; have hnc8 := NB338_337.out; have hcz9_0 : w7.cell? ⟨gb337, 0, none⟩ = some (.int .i64 a0_0) := (blk_cell BK337.out 0).trans rfl; have hcz9_1 : w7.cell? ⟨gb337, 1, none⟩ = some (.slice A0_1 l0_1.length c0_1) := (blk_cell BK337.out 1).trans rfl; have hcz9_2 : w7.cell? ⟨gb337, 2, none⟩ = some (.int .i64 a0_2) := (blk_cell BK337.out 2).trans rfl; have hfz9_0 := blk_frozen BK337.out 0; have hfz9_1 := blk_frozen BK337.out 1; have hfz9_2 := blk_frozen BK337.out 2; have hcz10_0 : w7.cell? ⟨gb338, 0, none⟩ = some (.int .i64 a1_0) := (blk_cell BK338.out 0).trans rfl; have hcz10_1 : w7.cell? ⟨gb338, 1, none⟩ = some (.slice A1_1 l1_1.length c1_1) := (blk_cell BK338.out 1).trans rfl; have hcz10_2 : w7.cell? ⟨gb338, 2, none⟩ = some (.int .i64 a1_2) := (blk_cell BK338.out 2).trans rfl; have hfz10_0 := blk_frozen BK338.out 0; have hfz10_1 := blk_frozen BK338.out 1; have hfz10_2 := blk_frozen BK338.out 2) | ((with_reducible refine gate_callee (f := 36) rfl ?_); refine goesL_ (some 9) rfl rfl Tryd.func36 (by kernel_rfl) rfl #[.agg #[.int .i64 a0_0, .slice A0_1 l0_1.length c0_1, .int .i64 a0_2], .agg #[.int .i64 a1_0, .slice A1_1 l1_1.length c1_1, .int .i64 a1_2]] rfl ma_ ?_; (with_reducible refine (spec_l03Both.calls k a0_0 _ _ l0_1 a0_2 a1_0 _ _ l1_1 a1_2 t339 _ ?side1 ?side2 ?side3 ?side4 A3.out).mono ?_); (case side1 => repeat (first | exact (Kd.C_below HR0_1.out HB.out) | (with_reducible refine Kd.C_alloc ?_ _) | (with_reducible refine Kd.C_drewN ?_ _) | (with_reducible refine Kd.C_drew ?_))); (case side2 => exact HC0_1.out); (case side3 => repeat (first | exact (Kd.C_below HR1_1.out HB.out) | (with_reducible refine Kd.C_alloc ?_ _) | (with_reducible refine Kd.C_drewN ?_ _) | (with_reducible refine Kd.C_drew ?_))); (case side4 => exact HC1_1.out); rintro e w11 ⟨rfl, hb⟩; refine ⟨_, rfl, ?_⟩; have n0_ := am_ (blk_below (bk_ BK337) hb); have n1_ := am_ (blk_below (bk_ BK338) hb); have n2_ := am_ (below_step (bl_ HB) hb); clear BK337; clear BK338; clear HB; have BK337 := n0_; have BK338 := n1_; have HB := n2_; clear n0_ n1_ n2_; (try clear hb); (try clear hb2); (try clear hk); (try clear hi); have hcz12_0 : w11.cell? ⟨gb337, 0, none⟩ = some (.int .i64 a0_0) := (blk_cell BK337.out 0).trans rfl; have hcz12_1 : w11.cell? ⟨gb337, 1, none⟩ = some (.slice A0_1 l0_1.length c0_1) := (blk_cell BK337.out 1).trans rfl; have hcz12_2 : w11.cell? ⟨gb337, 2, none⟩ = some (.int .i64 a0_2) := (blk_cell BK337.out 2).trans rfl; have hfz12_0 := blk_frozen BK337.out 0; have hfz12_1 := blk_frozen BK337.out 1; have hfz12_2 := blk_frozen BK337.out 2; have hcz13_0 : w11.cell? ⟨gb338, 0, none⟩ = some (.int .i64 a1_0) := (blk_cell BK338.out 0).trans rfl; have hcz13_1 : w11.cell? ⟨gb338, 1, none⟩ = some (.slice A1_1 l1_1.length c1_1) := (blk_cell BK338.out 1).trans rfl; have hcz13_2 : w11.cell? ⟨gb338, 2, none⟩ = some (.int .i64 a1_2) := (blk_cell BK338.out 2).trans rfl; have hfz13_0 := blk_frozen BK338.out 0; have hfz13_1 := blk_frozen BK338.out 1; have hfz13_2 := blk_frozen BK338.out 2) | ((with_reducible refine gate_callee (f := 48) rfl ?_); refine goesL_ (some 15) rfl rfl Tryd.func48 (by kernel_rfl) rfl #[.agg #[.int .i64 a0_0, .slice A0_1 l0_1.length c0_1, .int .i64 a0_2], .agg #[.int .i64 a1_0, .slice A1_1 l1_1.length c1_1, .int .i64 a1_2]] rfl ma_ ?_; (with_reducible refine (spec_l03Compare.calls k a0_0 _ _ l0_1 a0_2 a1_0 _ _ l1_1 a1_2 t340 _ ?side1 ?side2 ?side3 ?side4 A5.out).mono ?_); (case side1 => repeat (first | exact (Kd.C_below HR0_1.out HB.out) | (with_reducible refine Kd.C_alloc ?_ _) | (with_reducible refine Kd.C_drewN ?_ _) | (with_reducible refine Kd.C_drew ?_))); (case side2 => exact HC0_1.out); (case side3 => repeat (first | exact (Kd.C_below HR1_1.out HB.out) | (with_reducible refine Kd.C_alloc ?_ _) | (with_reducible refine Kd.C_drewN ?_ _) | (with_reducible refine Kd.C_drew ?_))); (case side4 => exact HC1_1.out); rintro e w14 ⟨rfl, hb⟩; refine ⟨_, rfl, ?_⟩; have n0_ := am_ (blk_below (bk_ BK337) hb); have n1_ := am_ (blk_below (bk_ BK338) hb); have n2_ := am_ (below_step (bl_ HB) hb); clear BK337; clear BK338; clear HB; have BK337 := n0_; have BK338 := n1_; have HB := n2_; clear n0_ n1_ n2_; (try clear hb); (try clear hb2); (try clear hk); (try clear hi)))
  go_ret2
  exact ⟨by first | rfl | (simp [errW_none, errW_some] <;> rfl) | (simp [*, errW_none, errW_some] <;> rfl), bl_ HB⟩
 ·rw [if_neg c4] at H
  have c4b0 : (t339 == 0) = false := beq_eq_false_iff_ne.mpr c4
  have c4b1 : (t339 != 0) = true := bne_iff_ne.mpr c4
  simp only [Option.some.injEq, Prod.mk.injEq] at H
  obtain ⟨rfl, rfl⟩ := H
  go_enter Tryd.func20, Tryd.ntmps20
  go_wp2_with (first | ((with_reducible refine gate_dst (N := 2) rfl ?_); refine box_event ?hg (N := 2) ?hd (cs := #[.int .i64 a0_0, .slice A0_1 l0_1.length c0_1, .int .i64 a0_2]) (t := 30) ?hr ?_; (case hd => rfl); (case hg => rfl); (case hr => first | (go_simp; done) | (go_simp; rfl)); intro gb337 hg w15 hbox hb; have n0_ := am_ (below_step (bl_ HB) hb); have n1_ := am_ (hbox); have n2_ := am_ (gs_ hg HB); have n3_ := am_ (gs_ hg HB); clear HB; have HB := n0_; have BK337 := n1_; have GW337 := n2_; have GE337 := n3_; clear n0_ n1_ n2_ n3_; clear hb hbox hg) | ((with_reducible refine gate_dst (N := 3) rfl ?_); refine box_event ?hg (N := 3) ?hd (cs := #[.int .i64 a1_0, .slice A1_1 l1_1.length c1_1, .int .i64 a1_2]) (t := 30) ?hr ?_; (case hd => rfl); (case hg => rfl); (case hr => first | (go_simp; done) | (go_simp; rfl)); intro gb338 hg w16 hbox hb; have n0_ := am_ (blk_below (bk_ BK337) hb); have n1_ := am_ (below_step (bl_ HB) hb); have n2_ := am_ (hbox); have n3_ := am_ (gs_ hg HB); have n4_ := am_ (gs_ hg HB); have n5_ := am_ (nl_ hg BK337); have n6_ := am_ (ng_ hg BK337); clear BK337; clear HB; have BK337 := n0_; have HB := n1_; have BK338 := n2_; have GW338 := n3_; have GE338 := n4_; have NB337_338 := n5_; have NB338_337 := n6_; clear n0_ n1_ n2_ n3_ n4_ n5_ n6_; clear hb hbox hg; have hnb17 := NB337_338.out; have hnc17 := NB338_337.out; have hcz18_0 : w16.cell? ⟨gb337, 0, none⟩ = some (.int .i64 a0_0) := (blk_cell BK337.out 0).trans rfl; have hcz18_1 : w16.cell? ⟨gb337, 1, none⟩ = some (.slice A0_1 l0_1.length c0_1) := (blk_cell BK337.out 1).trans rfl; have hcz18_2 : w16.cell? ⟨gb337, 2, none⟩ = some (.int .i64 a0_2) := (blk_cell BK337.out 2).trans rfl; have hfz18_0 := blk_frozen BK337.out 0; have hfz18_1 := blk_frozen BK337.out 1; have hfz18_2 := blk_frozen BK337.out 2; have hcz19_0 : w16.cell? ⟨gb338, 0, none⟩ = some (.int .i64 a1_0) := (blk_cell BK338.out 0).trans rfl; have hcz19_1 : w16.cell? ⟨gb338, 1, none⟩ = some (.slice A1_1 l1_1.length c1_1) := (blk_cell BK338.out 1).trans rfl; have hcz19_2 : w16.cell? ⟨gb338, 2, none⟩ = some (.int .i64 a1_2) := (blk_cell BK338.out 2).trans rfl; have hfz19_0 := blk_frozen BK338.out 0; have hfz19_1 := blk_frozen BK338.out 1; have hfz19_2 := blk_frozen BK338.out 2) | ((with_reducible refine gate_callee (f := 36) rfl ?_); refine goesL_ (some 9) rfl rfl Tryd.func36 (by kernel_rfl) rfl #[.agg #[.int .i64 a0_0, .slice A0_1 l0_1.length c0_1, .int .i64 a0_2], .agg #[.int .i64 a1_0, .slice A1_1 l1_1.length c1_1, .int .i64 a1_2]] rfl ma_ ?_; (with_reducible refine (spec_l03Both.calls k a0_0 _ _ l0_1 a0_2 a1_0 _ _ l1_1 a1_2 t339 _ ?side1 ?side2 ?side3 ?side4 A3.out).mono ?_); (case side1 => repeat (first | exact (Kd.C_below HR0_1.out HB.out) | (with_reducible refine Kd.C_alloc ?_ _) | (with_reducible refine Kd.C_drewN ?_ _) | (with_reducible refine Kd.C_drew ?_))); (case side2 => exact HC0_1.out); (case side3 => repeat (first | exact (Kd.C_below HR1_1.out HB.out) | (with_reducible refine Kd.C_alloc ?_ _) | (with_reducible refine Kd.C_drewN ?_ _) | (with_reducible refine Kd.C_drew ?_))); (case side4 => exact HC1_1.out); rintro e w20 ⟨rfl, hb⟩; refine ⟨_, rfl, ?_⟩; have n0_ := am_ (blk_below (bk_ BK337) hb); have n1_ := am_ (blk_below (bk_ BK338) hb); have n2_ := am_ (below_step (bl_ HB) hb); clear BK337; clear BK338; clear HB; have BK337 := n0_; have BK338 := n1_; have HB := n2_; clear n0_ n1_ n2_; (try clear hb); (try clear hb2); (try clear hk); (try clear hi)))
  go_ret2
  exact ⟨by first | rfl | (simp [errW_none, errW_some] <;> rfl) | (simp [*, errW_none, errW_some] <;> rfl), bl_ HB⟩

/-! ### laws_FnExactCompareDyadics: function 5 -/
def laws_FnExactCompareDyadics.j0 : Nat → Bool → Int → List Int → Int → Int → List Int → Int → Int → List Int → Int → Int → List Int → Int → Option (Bool)
  | 0, _, _, _, _, _, _, _, _, _, _, _, _, _ => none
  | k + 1, x47, x342000, x342001, x342002, x343000, x343001, x343002, x363000, x363001, x363002, x369000, x369001, x369002 => if x47 = true then (some false) else ((laws_toDyadic.f k x342000 x342001 x342002).bind fun bt371 => ((laws_eqDyadic.f k x363000 x363001 x363002 bt371.1 bt371.2.1 bt371.2.2).bind fun t376 => (if t376 = true then ((laws_toDyadic.f k x343000 x343001 x343002).bind fun bt377 => ((laws_eqDyadic.f k x369000 x369001 x369002 bt377.1 bt377.2.1 bt377.2.2).bind fun t382 => (if t382 = true then (some true) else (some false)))) else (some false))))
def laws_FnExactCompareDyadics.f (k : Nat) (a0_0 : Int) (l0_1 : List Int) (a0_2 : Int) (a1_0 : Int) (l1_1 : List Int) (a1_2 : Int) : Option (Bool) := (laws_szDyadic.f a0_0 l0_1 a0_2 1048576).bind fun t343 => (if t343 < 0 then (some true) else ((laws_szDyadic.f a1_0 l1_1 a1_2 t343).bind fun t344 => (if t344 < 0 then (some true) else ((laws_toDyadic.f k a0_0 l0_1 a0_2).bind fun bt345 => ((laws_toDyadic.f k a1_0 l1_1 a1_2).bind fun bt350 => ((spec_CompareDyadics.f k bt345.1 bt345.2.1 bt345.2.2 bt350.1 bt350.2.1 bt350.2.2).bind fun bt355 => ((laws_toDyadic.f k a0_0 l0_1 a0_2).bind fun bt357 => ((laws_toDyadic.f k a1_0 l1_1 a1_2).bind fun bt363 => ((impl_CompareDyadics.f bt357.1 bt357.2.1 bt357.2.2 bt363.1 bt363.2.1 bt363.2.2).bind fun bt369 => (if bt369.1 = bt355.1 then (laws_FnExactCompareDyadics.j0 k (bt369.2 != bt355.2) a0_0 l0_1 a0_2 a1_0 l1_1 a1_2 bt357.1 bt357.2.1 bt357.2.2 bt363.1 bt363.2.1 bt363.2.2) else (laws_FnExactCompareDyadics.j0 k true a0_0 l0_1 a0_2 a1_0 l1_1 a1_2 bt357.1 bt357.2.1 bt357.2.2 bt363.1 bt363.2.1 bt363.2.2)))))))))))
theorem laws_FnExactCompareDyadics.mono_l : ∀ k, (∀ y0 y1 y2 y3 y4 y5 y6 y7 y8 y9 y10 y11 y12, LeO (laws_FnExactCompareDyadics.j0 k y0 y1 y2 y3 y4 y5 y6 y7 y8 y9 y10 y11 y12) (laws_FnExactCompareDyadics.j0 (k + 1) y0 y1 y2 y3 y4 y5 y6 y7 y8 y9 y10 y11 y12))
  | 0 => fun _ _ _ _ _ _ _ _ _ _ _ _ _ r h => by simp [laws_FnExactCompareDyadics.j0] at h
  | k + 1 => by
    have ih0 := laws_FnExactCompareDyadics.mono_l k
    · intro y0 y1 y2 y3 y4 y5 y6 y7 y8 y9 y10 y11 y12
      unfold laws_FnExactCompareDyadics.j0
      repeat' first
      | (with_reducible exact ih0 _ _ _ _ _ _ _ _ _ _ _ _ _)
      | (with_reducible exact laws_eqDyadic.mono _ _ _ _ _ _ _)
      | (with_reducible exact laws_toDyadic.mono _ _ _ _)
      | (with_reducible exact spec_CompareDyadics.mono _ _ _ _ _ _ _)
      | (with_reducible exact LeO.refl _)
      | (with_reducible exact LeO.none _)
      | (with_reducible refine LeO.ite ?_ ?_)
      | (with_reducible refine LeO.bind ?_ (fun _ => ?_))
      | exact ih0 _ _ _ _ _ _ _ _ _ _ _ _ _
      | exact laws_eqDyadic.mono _ _ _ _ _ _ _
      | exact laws_toDyadic.mono _ _ _ _
      | exact spec_CompareDyadics.mono _ _ _ _ _ _ _
      | exact LeO.none _
      | refine LeO.ite ?_ ?_
      | refine LeO.bind ?_ (fun _ => ?_)
theorem laws_FnExactCompareDyadics.mono : ∀ a0 a1 a2 a3 a4 a5 k, LeO (laws_FnExactCompareDyadics.f k a0 a1 a2 a3 a4 a5) (laws_FnExactCompareDyadics.f (k + 1) a0 a1 a2 a3 a4 a5) := by
  intro a0 a1 a2 a3 a4 a5 k
  have ih0 := laws_FnExactCompareDyadics.mono_l k
  unfold laws_FnExactCompareDyadics.f
  repeat' first
      | (with_reducible exact ih0 _ _ _ _ _ _ _ _ _ _ _ _ _)
      | (with_reducible exact laws_eqDyadic.mono _ _ _ _ _ _ _)
      | (with_reducible exact laws_toDyadic.mono _ _ _ _)
      | (with_reducible exact spec_CompareDyadics.mono _ _ _ _ _ _ _)
      | (with_reducible exact LeO.refl _)
      | (with_reducible exact LeO.none _)
      | (with_reducible refine LeO.ite ?_ ?_)
      | (with_reducible refine LeO.bind ?_ (fun _ => ?_))
      | exact ih0 _ _ _ _ _ _ _ _ _ _ _ _ _
      | exact laws_eqDyadic.mono _ _ _ _ _ _ _
      | exact laws_toDyadic.mono _ _ _ _
      | exact spec_CompareDyadics.mono _ _ _ _ _ _ _
      | exact LeO.none _
      | refine LeO.ite ?_ ?_
      | refine LeO.bind ?_ (fun _ => ?_)
def laws_FnExactCompareDyadics.T8 : Bool × List (List Nat × List Nat) := (true, [([], []), ([0], [0]), ([], []), ([2, 1], [2]), ([1, 3, 3], [1, 3]), ([4], [4]), ([5], [5]), ([5], [5]), ([6, 4, 0, 1, 2, 3, 4, 5, 6], [6]), ([7, 8, 0, 1, 2, 3, 4, 5, 6, 7, 8], [7])])
def laws_FnExactCompareDyadics.B8 : List Nat := [0, 1, 0, 7, 15, 31, 63, 63, 127, 511]
theorem laws_FnExactCompareDyadics.tab8 : rtab .any (opsOf Tryd.f5 8) = laws_FnExactCompareDyadics.T8 := by kernel_rfl
theorem laws_FnExactCompareDyadics.bits8 : waitsOk laws_FnExactCompareDyadics.T8.2 laws_FnExactCompareDyadics.B8 = true := by kernel_rfl
set_option maxHeartbeats 8000000 in
set_option maxRecDepth 100000 in
theorem laws_FnExactCompareDyadics.calls (k : Nat) (a0_0 : Int) (A0_1 : Option Addr) (c0_1 : Nat) (l0_1 : List Int) (a0_2 : Int) (a1_0 : Int) (A1_1 : Option Addr) (c1_1 : Nat) (l1_1 : List Int) (a1_2 : Int) (r : Bool) (w : World) (hr0_1 : Kd.C (Kd.int .i64) w A0_1 l0_1.length l0_1) (hc0_1 : l0_1.length ≤ c0_1) (hr1_1 : Kd.C (Kd.int .i64) w A1_1 l1_1.length l1_1) (hc1_1 : l1_1.length ≤ c1_1) (hT : Go.Proofs.YthddlechoibdkaaDoor.Big.Tab w) (h : laws_FnExactCompareDyadics.f k a0_0 l0_1 a0_2 a1_0 l1_1 a1_2 = some r) :
  Calls Tryd.prog 5 #[.agg #[.int .i64 a0_0, .slice A0_1 l0_1.length c0_1, .int .i64 a0_2], .agg #[.int .i64 a1_0, .slice A1_1 l1_1.length c1_1, .int .i64 a1_2]] w fun e w' => e = .returned (.bool r) ∧ Below w.heap.size w w' := by
 have HTab := Aside0.mk hT; clear hT
 have hu26 := Tryd.underlying26; have hu30 := Tryd.underlying30; have HR0_1 := Aside0.mk hr0_1; have HC0_1 := Aside0.mk hc0_1; clear hr0_1 hc0_1; have HR1_1 := Aside0.mk hr1_1; have HC1_1 := Aside0.mk hc1_1; clear hr1_1 hc1_1; have HB := am_ (Below.refl w.heap.size w)
 have H : ((laws_szDyadic.f a0_0 l0_1 a0_2 1048576).bind fun t343 => (if t343 < 0 then (some true) else ((laws_szDyadic.f a1_0 l1_1 a1_2 t343).bind fun t344 => (if t344 < 0 then (some true) else ((laws_toDyadic.f k a0_0 l0_1 a0_2).bind fun bt345 => ((laws_toDyadic.f k a1_0 l1_1 a1_2).bind fun bt350 => ((spec_CompareDyadics.f k bt345.1 bt345.2.1 bt345.2.2 bt350.1 bt350.2.1 bt350.2.2).bind fun bt355 => ((laws_toDyadic.f k a0_0 l0_1 a0_2).bind fun bt357 => ((laws_toDyadic.f k a1_0 l1_1 a1_2).bind fun bt363 => ((impl_CompareDyadics.f bt357.1 bt357.2.1 bt357.2.2 bt363.1 bt363.2.1 bt363.2.2).bind fun bt369 => (if bt369.1 = bt355.1 then (laws_FnExactCompareDyadics.j0 k (bt369.2 != bt355.2) a0_0 l0_1 a0_2 a1_0 l1_1 a1_2 bt357.1 bt357.2.1 bt357.2.2 bt363.1 bt363.2.1 bt363.2.2) else (laws_FnExactCompareDyadics.j0 k true a0_0 l0_1 a0_2 a1_0 l1_1 a1_2 bt357.1 bt357.2.1 bt357.2.2 bt363.1 bt363.2.1 bt363.2.2)))))))))))) = some r := h
 clear h
 replace H := Option.bind_eq_some_iff.mp H
 obtain ⟨t343, A30, H⟩ := H
 replace H : (if t343 < 0 then (some true) else ((laws_szDyadic.f a1_0 l1_1 a1_2 t343).bind fun t344 => (if t344 < 0 then (some true) else ((laws_toDyadic.f k a0_0 l0_1 a0_2).bind fun bt345 => ((laws_toDyadic.f k a1_0 l1_1 a1_2).bind fun bt350 => ((spec_CompareDyadics.f k bt345.1 bt345.2.1 bt345.2.2 bt350.1 bt350.2.1 bt350.2.2).bind fun bt355 => ((laws_toDyadic.f k a0_0 l0_1 a0_2).bind fun bt357 => ((laws_toDyadic.f k a1_0 l1_1 a1_2).bind fun bt363 => ((impl_CompareDyadics.f bt357.1 bt357.2.1 bt357.2.2 bt363.1 bt363.2.1 bt363.2.2).bind fun bt369 => (if bt369.1 = bt355.1 then (laws_FnExactCompareDyadics.j0 k (bt369.2 != bt355.2) a0_0 l0_1 a0_2 a1_0 l1_1 a1_2 bt357.1 bt357.2.1 bt357.2.2 bt363.1 bt363.2.1 bt363.2.2) else (laws_FnExactCompareDyadics.j0 k true a0_0 l0_1 a0_2 a1_0 l1_1 a1_2 bt357.1 bt357.2.1 bt357.2.2 bt363.1 bt363.2.1 bt363.2.2))))))))))) = some r := H
 have A3 := Aside0.mk A30; clear A30
 by_cases c4 : t343 < 0
 ·rw [if_pos c4] at H
  have c4b0 : decide (t343 < 0) = true := decide_eq_true c4
  clear c4; obtain rfl := Option.some.inj H
  go_enter Tryd.func5, Tryd.ntmps5
  go_wp2_with (first | ((with_reducible refine gate_dst (N := 2) rfl ?_); refine box_event ?hg (N := 2) ?hd (cs := #[.int .i64 a0_0, .slice A0_1 l0_1.length c0_1, .int .i64 a0_2]) (t := 26) ?hr ?_; (case hd => rfl); (case hg => rfl); (case hr => first | (go_simp; done) | (go_simp; rfl)); intro gb341 hg w5 hbox hb; have n0_ := am_ (below_step (bl_ HB) hb); have n1_ := am_ (hbox); have n2_ := am_ (gs_ hg HB); have n3_ := am_ (gs_ hg HB); clear HB; have HB := n0_; have BK341 := n1_; have GW341 := n2_; have GE341 := n3_; clear n0_ n1_ n2_ n3_; clear hb hbox hg) | ((with_reducible refine gate_dst (N := 3) rfl ?_); refine box_event ?hg (N := 3) ?hd (cs := #[.int .i64 a1_0, .slice A1_1 l1_1.length c1_1, .int .i64 a1_2]) (t := 26) ?hr ?_; (case hd => rfl); (case hg => rfl); (case hr => first | (go_simp; done) | (go_simp; rfl)); intro gb342 hg w6 hbox hb; have n0_ := am_ (blk_below (bk_ BK341) hb); have n1_ := am_ (below_step (bl_ HB) hb); have n2_ := am_ (hbox); have n3_ := am_ (gs_ hg HB); have n4_ := am_ (gs_ hg HB); have n5_ := am_ (nl_ hg BK341); have n6_ := am_ (ng_ hg BK341); clear BK341; clear HB; have BK341 := n0_; have HB := n1_; have BK342 := n2_; have GW342 := n3_; have GE342 := n4_; have NB341_342 := n5_; have NB342_341 := n6_; clear n0_ n1_ n2_ n3_ n4_ n5_ n6_; clear hb hbox hg; have hnb7 := NB341_342.out; have hnc7 := NB342_341.out; have hcz8_0 : w6.cell? ⟨gb341, 0, none⟩ = some (.int .i64 a0_0) := (blk_cell BK341.out 0).trans rfl; have hcz8_1 : w6.cell? ⟨gb341, 1, none⟩ = some (.slice A0_1 l0_1.length c0_1) := (blk_cell BK341.out 1).trans rfl; have hcz8_2 : w6.cell? ⟨gb341, 2, none⟩ = some (.int .i64 a0_2) := (blk_cell BK341.out 2).trans rfl; have hfz8_0 := blk_frozen BK341.out 0; have hfz8_1 := blk_frozen BK341.out 1; have hfz8_2 := blk_frozen BK341.out 2) | ((with_reducible refine gate_callee (f := 11) rfl ?_); refine goesL_ (some 14) rfl rfl Tryd.func11 (by kernel_rfl) rfl #[.agg #[.int .i64 a0_0, .slice A0_1 l0_1.length c0_1, .int .i64 a0_2], .int .i64 1048576] rfl ma_ ?_; (with_reducible refine (laws_szDyadic.calls a0_0 _ _ l0_1 a0_2 1048576 t343 _ ?side1 ?side2 A3.out).mono ?_); (case side1 => repeat (first | exact (Kd.C_below HR0_1.out HB.out) | (with_reducible refine Kd.C_alloc ?_ _) | (with_reducible refine Kd.C_drewN ?_ _) | (with_reducible refine Kd.C_drew ?_))); (case side2 => exact HC0_1.out); rintro e w9 ⟨rfl, hb⟩; refine ⟨_, rfl, ?_⟩; have n0_ := am_ (blk_below (bk_ BK341) hb); have n1_ := am_ (blk_below (bk_ BK342) hb); have n2_ := am_ (below_step (bl_ HB) hb); clear BK341; clear BK342; clear HB; have BK341 := n0_; have BK342 := n1_; have HB := n2_; clear n0_ n1_ n2_; (try clear hb); (try clear hb2); (try clear hk); (try clear hi)))
  go_ret
  exact ⟨by first | rfl | (simp [errW_none, errW_some] <;> rfl) | (simp [*, errW_none, errW_some] <;> rfl), bl_ HB⟩
 ·rw [if_neg c4] at H
  have c4b0 : decide (t343 < 0) = false := decide_eq_false c4
  clear c4
  replace H := Option.bind_eq_some_iff.mp H
  obtain ⟨t344, A100, H⟩ := H
  replace H : (if t344 < 0 then (some true) else ((laws_toDyadic.f k a0_0 l0_1 a0_2).bind fun bt345 => ((laws_toDyadic.f k a1_0 l1_1 a1_2).bind fun bt350 => ((spec_CompareDyadics.f k bt345.1 bt345.2.1 bt345.2.2 bt350.1 bt350.2.1 bt350.2.2).bind fun bt355 => ((laws_toDyadic.f k a0_0 l0_1 a0_2).bind fun bt357 => ((laws_toDyadic.f k a1_0 l1_1 a1_2).bind fun bt363 => ((impl_CompareDyadics.f bt357.1 bt357.2.1 bt357.2.2 bt363.1 bt363.2.1 bt363.2.2).bind fun bt369 => (if bt369.1 = bt355.1 then (laws_FnExactCompareDyadics.j0 k (bt369.2 != bt355.2) a0_0 l0_1 a0_2 a1_0 l1_1 a1_2 bt357.1 bt357.2.1 bt357.2.2 bt363.1 bt363.2.1 bt363.2.2) else (laws_FnExactCompareDyadics.j0 k true a0_0 l0_1 a0_2 a1_0 l1_1 a1_2 bt357.1 bt357.2.1 bt357.2.2 bt363.1 bt363.2.1 bt363.2.2))))))))) = some r := H
  have A10 := Aside0.mk A100; clear A100
  by_cases c11 : t344 < 0
  ·rw [if_pos c11] at H
   have c11b0 : decide (t344 < 0) = true := decide_eq_true c11
   clear c11; obtain rfl := Option.some.inj H
   go_enter Tryd.func5, Tryd.ntmps5
   go_wp2_with (first | ((with_reducible refine gate_dst (N := 2) rfl ?_); refine box_event ?hg (N := 2) ?hd (cs := #[.int .i64 a0_0, .slice A0_1 l0_1.length c0_1, .int .i64 a0_2]) (t := 26) ?hr ?_; (case hd => rfl); (case hg => rfl); (case hr => first | (go_simp; done) | (go_simp; rfl)); intro gb341 hg w12 hbox hb; have n0_ := am_ (below_step (bl_ HB) hb); have n1_ := am_ (hbox); have n2_ := am_ (gs_ hg HB); have n3_ := am_ (gs_ hg HB); clear HB; have HB := n0_; have BK341 := n1_; have GW341 := n2_; have GE341 := n3_; clear n0_ n1_ n2_ n3_; clear hb hbox hg) | ((with_reducible refine gate_dst (N := 3) rfl ?_); refine box_event ?hg (N := 3) ?hd (cs := #[.int .i64 a1_0, .slice A1_1 l1_1.length c1_1, .int .i64 a1_2]) (t := 26) ?hr ?_; (case hd => rfl); (case hg => rfl); (case hr => first | (go_simp; done) | (go_simp; rfl)); intro gb342 hg w13 hbox hb; have n0_ := am_ (blk_below (bk_ BK341) hb); have n1_ := am_ (below_step (bl_ HB) hb); have n2_ := am_ (hbox); have n3_ := am_ (gs_ hg HB); have n4_ := am_ (gs_ hg HB); have n5_ := am_ (nl_ hg BK341); have n6_ := am_ (ng_ hg BK341); clear BK341; clear HB; have BK341 := n0_; have HB := n1_; have BK342 := n2_; have GW342 := n3_; have GE342 := n4_; have NB341_342 := n5_; have NB342_341 := n6_; clear n0_ n1_ n2_ n3_ n4_ n5_ n6_; clear hb hbox hg; have hnb14 := NB341_342.out; have hnc14 := NB342_341.out; have hcz15_0 : w13.cell? ⟨gb341, 0, none⟩ = some (.int .i64 a0_0) := (blk_cell BK341.out 0).trans rfl; have hcz15_1 : w13.cell? ⟨gb341, 1, none⟩ = some (.slice A0_1 l0_1.length c0_1) := (blk_cell BK341.out 1).trans rfl; have hcz15_2 : w13.cell? ⟨gb341, 2, none⟩ = some (.int .i64 a0_2) := (blk_cell BK341.out 2).trans rfl; have hfz15_0 := blk_frozen BK341.out 0; have hfz15_1 := blk_frozen BK341.out 1; have hfz15_2 := blk_frozen BK341.out 2) | ((with_reducible refine gate_callee (f := 11) rfl ?_); refine goesL_ (some 14) rfl rfl Tryd.func11 (by kernel_rfl) rfl #[.agg #[.int .i64 a0_0, .slice A0_1 l0_1.length c0_1, .int .i64 a0_2], .int .i64 1048576] rfl ma_ ?_; (with_reducible refine (laws_szDyadic.calls a0_0 _ _ l0_1 a0_2 1048576 t343 _ ?side1 ?side2 A3.out).mono ?_); (case side1 => repeat (first | exact (Kd.C_below HR0_1.out HB.out) | (with_reducible refine Kd.C_alloc ?_ _) | (with_reducible refine Kd.C_drewN ?_ _) | (with_reducible refine Kd.C_drew ?_))); (case side2 => exact HC0_1.out); rintro e w16 ⟨rfl, hb⟩; refine ⟨_, rfl, ?_⟩; have n0_ := am_ (blk_below (bk_ BK341) hb); have n1_ := am_ (blk_below (bk_ BK342) hb); have n2_ := am_ (below_step (bl_ HB) hb); clear BK341; clear BK342; clear HB; have BK341 := n0_; have BK342 := n1_; have HB := n2_; clear n0_ n1_ n2_; (try clear hb); (try clear hb2); (try clear hk); (try clear hi); have hcz17_0 : w16.cell? ⟨gb342, 0, none⟩ = some (.int .i64 a1_0) := (blk_cell BK342.out 0).trans rfl; have hcz17_1 : w16.cell? ⟨gb342, 1, none⟩ = some (.slice A1_1 l1_1.length c1_1) := (blk_cell BK342.out 1).trans rfl; have hcz17_2 : w16.cell? ⟨gb342, 2, none⟩ = some (.int .i64 a1_2) := (blk_cell BK342.out 2).trans rfl; have hfz17_0 := blk_frozen BK342.out 0; have hfz17_1 := blk_frozen BK342.out 1; have hfz17_2 := blk_frozen BK342.out 2) | ((with_reducible refine gate_callee (f := 11) rfl ?_); refine goesL_ (some 19) rfl rfl Tryd.func11 (by kernel_rfl) rfl #[.agg #[.int .i64 a1_0, .slice A1_1 l1_1.length c1_1, .int .i64 a1_2], .int .i64 t343] rfl ma_ ?_; (with_reducible refine (laws_szDyadic.calls a1_0 _ _ l1_1 a1_2 t343 t344 _ ?side1 ?side2 A10.out).mono ?_); (case side1 => repeat (first | exact (Kd.C_below HR1_1.out HB.out) | (with_reducible refine Kd.C_alloc ?_ _) | (with_reducible refine Kd.C_drewN ?_ _) | (with_reducible refine Kd.C_drew ?_))); (case side2 => exact HC1_1.out); rintro e w18 ⟨rfl, hb⟩; refine ⟨_, rfl, ?_⟩; have n0_ := am_ (blk_below (bk_ BK341) hb); have n1_ := am_ (blk_below (bk_ BK342) hb); have n2_ := am_ (below_step (bl_ HB) hb); clear BK341; clear BK342; clear HB; have BK341 := n0_; have BK342 := n1_; have HB := n2_; clear n0_ n1_ n2_; (try clear hb); (try clear hb2); (try clear hk); (try clear hi)))
   go_ret
   exact ⟨by first | rfl | (simp [errW_none, errW_some] <;> rfl) | (simp [*, errW_none, errW_some] <;> rfl), bl_ HB⟩
  ·rw [if_neg c11] at H
   have c11b0 : decide (t344 < 0) = false := decide_eq_false c11
   clear c11
   replace H := Option.bind_eq_some_iff.mp H
   obtain ⟨⟨t345, t346, t349⟩, A190, H⟩ := H
   replace H : ((laws_toDyadic.f k a1_0 l1_1 a1_2).bind fun bt350 => ((spec_CompareDyadics.f k t345 t346 t349 bt350.1 bt350.2.1 bt350.2.2).bind fun bt355 => ((laws_toDyadic.f k a0_0 l0_1 a0_2).bind fun bt357 => ((laws_toDyadic.f k a1_0 l1_1 a1_2).bind fun bt363 => ((impl_CompareDyadics.f bt357.1 bt357.2.1 bt357.2.2 bt363.1 bt363.2.1 bt363.2.2).bind fun bt369 => (if bt369.1 = bt355.1 then (laws_FnExactCompareDyadics.j0 k (bt369.2 != bt355.2) a0_0 l0_1 a0_2 a1_0 l1_1 a1_2 bt357.1 bt357.2.1 bt357.2.2 bt363.1 bt363.2.1 bt363.2.2) else (laws_FnExactCompareDyadics.j0 k true a0_0 l0_1 a0_2 a1_0 l1_1 a1_2 bt357.1 bt357.2.1 bt357.2.2 bt363.1 bt363.2.1 bt363.2.2))))))) = some r := H
   have A19 := Aside0.mk A190; clear A190
   replace H := Option.bind_eq_some_iff.mp H
   obtain ⟨⟨t350, t351, t354⟩, A200, H⟩ := H
   replace H : ((spec_CompareDyadics.f k t345 t346 t349 t350 t351 t354).bind fun bt355 => ((laws_toDyadic.f k a0_0 l0_1 a0_2).bind fun bt357 => ((laws_toDyadic.f k a1_0 l1_1 a1_2).bind fun bt363 => ((impl_CompareDyadics.f bt357.1 bt357.2.1 bt357.2.2 bt363.1 bt363.2.1 bt363.2.2).bind fun bt369 => (if bt369.1 = bt355.1 then (laws_FnExactCompareDyadics.j0 k (bt369.2 != bt355.2) a0_0 l0_1 a0_2 a1_0 l1_1 a1_2 bt357.1 bt357.2.1 bt357.2.2 bt363.1 bt363.2.1 bt363.2.2) else (laws_FnExactCompareDyadics.j0 k true a0_0 l0_1 a0_2 a1_0 l1_1 a1_2 bt357.1 bt357.2.1 bt357.2.2 bt363.1 bt363.2.1 bt363.2.2)))))) = some r := H
   have A20 := Aside0.mk A200; clear A200
   replace H := Option.bind_eq_some_iff.mp H
   obtain ⟨⟨t355, t356⟩, A210, H⟩ := H
   replace H : ((laws_toDyadic.f k a0_0 l0_1 a0_2).bind fun bt357 => ((laws_toDyadic.f k a1_0 l1_1 a1_2).bind fun bt363 => ((impl_CompareDyadics.f bt357.1 bt357.2.1 bt357.2.2 bt363.1 bt363.2.1 bt363.2.2).bind fun bt369 => (if bt369.1 = t355 then (laws_FnExactCompareDyadics.j0 k (bt369.2 != t356) a0_0 l0_1 a0_2 a1_0 l1_1 a1_2 bt357.1 bt357.2.1 bt357.2.2 bt363.1 bt363.2.1 bt363.2.2) else (laws_FnExactCompareDyadics.j0 k true a0_0 l0_1 a0_2 a1_0 l1_1 a1_2 bt357.1 bt357.2.1 bt357.2.2 bt363.1 bt363.2.1 bt363.2.2))))) = some r := H
   have A21 := Aside0.mk A210; clear A210
   replace H := Option.bind_eq_some_iff.mp H
   obtain ⟨⟨t357, t358, t361⟩, A220, H⟩ := H
   replace H : ((laws_toDyadic.f k a1_0 l1_1 a1_2).bind fun bt363 => ((impl_CompareDyadics.f t357 t358 t361 bt363.1 bt363.2.1 bt363.2.2).bind fun bt369 => (if bt369.1 = t355 then (laws_FnExactCompareDyadics.j0 k (bt369.2 != t356) a0_0 l0_1 a0_2 a1_0 l1_1 a1_2 t357 t358 t361 bt363.1 bt363.2.1 bt363.2.2) else (laws_FnExactCompareDyadics.j0 k true a0_0 l0_1 a0_2 a1_0 l1_1 a1_2 t357 t358 t361 bt363.1 bt363.2.1 bt363.2.2)))) = some r := H
   have A22 := Aside0.mk A220; clear A220
   replace H := Option.bind_eq_some_iff.mp H
   obtain ⟨⟨t363, t364, t367⟩, A230, H⟩ := H
   replace H : ((impl_CompareDyadics.f t357 t358 t361 t363 t364 t367).bind fun bt369 => (if bt369.1 = t355 then (laws_FnExactCompareDyadics.j0 k (bt369.2 != t356) a0_0 l0_1 a0_2 a1_0 l1_1 a1_2 t357 t358 t361 t363 t364 t367) else (laws_FnExactCompareDyadics.j0 k true a0_0 l0_1 a0_2 a1_0 l1_1 a1_2 t357 t358 t361 t363 t364 t367))) = some r := H
   have A23 := Aside0.mk A230; clear A230
   replace H := Option.bind_eq_some_iff.mp H
   obtain ⟨⟨t369, t370⟩, A240, H⟩ := H
   replace H : (if t369 = t355 then (laws_FnExactCompareDyadics.j0 k (t370 != t356) a0_0 l0_1 a0_2 a1_0 l1_1 a1_2 t357 t358 t361 t363 t364 t367) else (laws_FnExactCompareDyadics.j0 k true a0_0 l0_1 a0_2 a1_0 l1_1 a1_2 t357 t358 t361 t363 t364 t367)) = some r := H
   have A24 := Aside0.mk A240; clear A240; have HC25 := Aside0.mk H; clear H
   go_enter Tryd.func5, Tryd.ntmps5
   try go_wp2_with (first | ((with_reducible refine gate_dst (N := 2) rfl ?_); refine box_event ?hg (N := 2) ?hd (cs := #[.int .i64 a0_0, .slice A0_1 l0_1.length c0_1, .int .i64 a0_2]) (t := 26) ?hr ?_; (case hd => rfl); (case hg => rfl); (case hr => first | (go_simp; done) | (go_simp; rfl)); intro gb341 hg w26 hbox hb; have n0_ := am_ (below_step (bl_ HB) hb); have n1_ := am_ (hbox); have n2_ := am_ (gs_ hg HB); have n3_ := am_ (gs_ hg HB); clear HB; have HB := n0_; have BK341 := n1_; have GW341 := n2_; have GE341 := n3_; clear n0_ n1_ n2_ n3_; clear hb hbox hg) | ((with_reducible refine gate_dst (N := 3) rfl ?_); refine box_event ?hg (N := 3) ?hd (cs := #[.int .i64 a1_0, .slice A1_1 l1_1.length c1_1, .int .i64 a1_2]) (t := 26) ?hr ?_; (case hd => rfl); (case hg => rfl); (case hr => first | (go_simp; done) | (go_simp; rfl)); intro gb342 hg w27 hbox hb; have n0_ := am_ (blk_below (bk_ BK341) hb); have n1_ := am_ (below_step (bl_ HB) hb); have n2_ := am_ (hbox); have n3_ := am_ (gs_ hg HB); have n4_ := am_ (gs_ hg HB); have n5_ := am_ (nl_ hg BK341); have n6_ := am_ (ng_ hg BK341); clear BK341; clear HB; have BK341 := n0_; have HB := n1_; have BK342 := n2_; have GW342 := n3_; have GE342 := n4_; have NB341_342 := n5_; have NB342_341 := n6_; clear n0_ n1_ n2_ n3_ n4_ n5_ n6_; clear hb hbox hg; have hnb28 := NB341_342.out; have hnc28 := NB342_341.out; have hcz29_0 : w27.cell? ⟨gb341, 0, none⟩ = some (.int .i64 a0_0) := (blk_cell BK341.out 0).trans rfl; have hcz29_1 : w27.cell? ⟨gb341, 1, none⟩ = some (.slice A0_1 l0_1.length c0_1) := (blk_cell BK341.out 1).trans rfl; have hcz29_2 : w27.cell? ⟨gb341, 2, none⟩ = some (.int .i64 a0_2) := (blk_cell BK341.out 2).trans rfl; have hfz29_0 := blk_frozen BK341.out 0; have hfz29_1 := blk_frozen BK341.out 1; have hfz29_2 := blk_frozen BK341.out 2) | ((with_reducible refine gate_callee (f := 11) rfl ?_); refine goesL_ (some 14) rfl rfl Tryd.func11 (by kernel_rfl) rfl #[.agg #[.int .i64 a0_0, .slice A0_1 l0_1.length c0_1, .int .i64 a0_2], .int .i64 1048576] rfl ma_ ?_; (with_reducible refine (laws_szDyadic.calls a0_0 _ _ l0_1 a0_2 1048576 t343 _ ?side1 ?side2 A3.out).mono ?_); (case side1 => repeat (first | exact (Kd.C_below HR0_1.out HB.out) | (with_reducible refine Kd.C_alloc ?_ _) | (with_reducible refine Kd.C_drewN ?_ _) | (with_reducible refine Kd.C_drew ?_))); (case side2 => exact HC0_1.out); rintro e w30 ⟨rfl, hb⟩; refine ⟨_, rfl, ?_⟩; have n0_ := am_ (blk_below (bk_ BK341) hb); have n1_ := am_ (blk_below (bk_ BK342) hb); have n2_ := am_ (below_step (bl_ HB) hb); clear BK341; clear BK342; clear HB; have BK341 := n0_; have BK342 := n1_; have HB := n2_; clear n0_ n1_ n2_; (try clear hb); (try clear hb2); (try clear hk); (try clear hi); have hcz31_0 : w30.cell? ⟨gb342, 0, none⟩ = some (.int .i64 a1_0) := (blk_cell BK342.out 0).trans rfl; have hcz31_1 : w30.cell? ⟨gb342, 1, none⟩ = some (.slice A1_1 l1_1.length c1_1) := (blk_cell BK342.out 1).trans rfl; have hcz31_2 : w30.cell? ⟨gb342, 2, none⟩ = some (.int .i64 a1_2) := (blk_cell BK342.out 2).trans rfl; have hfz31_0 := blk_frozen BK342.out 0; have hfz31_1 := blk_frozen BK342.out 1; have hfz31_2 := blk_frozen BK342.out 2) | ((with_reducible refine gate_callee (f := 11) rfl ?_); refine goesL_ (some 19) rfl rfl Tryd.func11 (by kernel_rfl) rfl #[.agg #[.int .i64 a1_0, .slice A1_1 l1_1.length c1_1, .int .i64 a1_2], .int .i64 t343] rfl ma_ ?_; (with_reducible refine (laws_szDyadic.calls a1_0 _ _ l1_1 a1_2 t343 t344 _ ?side1 ?side2 A10.out).mono ?_); (case side1 => repeat (first | exact (Kd.C_below HR1_1.out HB.out) | (with_reducible refine Kd.C_alloc ?_ _) | (with_reducible refine Kd.C_drewN ?_ _) | (with_reducible refine Kd.C_drew ?_))); (case side2 => exact HC1_1.out); rintro e w32 ⟨rfl, hb⟩; refine ⟨_, rfl, ?_⟩; have n0_ := am_ (blk_below (bk_ BK341) hb); have n1_ := am_ (blk_below (bk_ BK342) hb); have n2_ := am_ (below_step (bl_ HB) hb); clear BK341; clear BK342; clear HB; have BK341 := n0_; have BK342 := n1_; have HB := n2_; clear n0_ n1_ n2_; (try clear hb); (try clear hb2); (try clear hk); (try clear hi)))
   have n0_ := am_ (blk_drew BK341.out); have n1_ := am_ (blk_drew BK342.out); have n2_ := am_ (below_drew1 HB.out); clear BK341 BK342 HB; have BK341 := n0_; have BK342 := n1_; have HB := n2_; clear n0_ n1_ n2_
   refine start_ (n := 10) (S := fun w' => w'.cell? ⟨gb341, 0, none⟩ = some (.int .i64 a0_0) ∧ w'.cell? ⟨gb341, 1, none⟩ = some (.slice A0_1 l0_1.length c0_1) ∧ w'.cell? ⟨gb341, 2, none⟩ = some (.int .i64 a0_2) ∧ w'.cell? ⟨gb342, 0, none⟩ = some (.int .i64 a1_0) ∧ w'.cell? ⟨gb342, 1, none⟩ = some (.slice A1_1 l1_1.length c1_1) ∧ w'.cell? ⟨gb342, 2, none⟩ = some (.int .i64 a1_2)) (ds := []) #[false, false, false, false, false, false, false, false, false, false] (by kernel_rfl) rfl rfl ⟨(blk_cell BK341.out 0).trans rfl, (blk_cell BK341.out 1).trans rfl, (blk_cell BK341.out 2).trans rfl, (blk_cell BK342.out 0).trans rfl, (blk_cell BK342.out 1).trans rfl, (blk_cell BK342.out 2).trans rfl⟩ (fun hHeld => ?_); refine with_tabW laws_FnExactCompareDyadics.tab8 laws_FnExactCompareDyadics.bits8 (fun HT_ HW_ => ?_)
   generalize w32.drew = w33 at BK341 BK342 HB hHeld ⊢
   refine take_ (i := 0) (N := some 23) (v := ?_) (a' := ?_) #[true, false, false, false, false, false, false, false, false, false] rfl rfl (take_ofW HT_.out HW_.out (by kernel_rfl)) (fun _ _ _ h => h) (Or.inl ⟨by rfl, ?_⟩) hHeld ?_ ?_
   rotate_left
   ·rintro w' ⟨s0, s1, s2, s3, s4, s5⟩
    go_simp
    with_reducible rfl
   rotate_left
   ·exact nm_
   refine take_ (i := 2) (N := some 25) (v := ?_) (a' := ?_) #[true, false, true, false, false, false, false, false, false, false] rfl rfl (take_ofW HT_.out HW_.out (by kernel_rfl)) (fun _ _ _ h => h) (Or.inl ⟨by rfl, ?_⟩) hHeld ?_ ?_
   rotate_left
   ·rintro w' ⟨s0, s1, s2, s3, s4, s5⟩
    go_simp
    with_reducible rfl
   rotate_left
   ·exact nm_
   refine one_ (i := 1) (N := some 24) #[true, true, true, false, false, false, false, false, false, false] rfl rfl (one_of HT_.out (by kernel_rfl)) (by decide) (fun K hK => ?_)
   refine goes_ Tryd.func13 (by kernel_rfl) rfl #[.agg #[.int .i64 a0_0, .slice A0_1 l0_1.length c0_1, .int .i64 a0_2]] (by rfl) rfl rfl ma_ ?_
   with_reducible refine (laws_toDyadic.calls k a0_0 _ _ l0_1 a0_2 t345 t346 t349 _ ?side1 ?side2 A19.out).mono ?_
   (case side1 => repeat (first | exact (Kd.C_below HR0_1.out HB.out) | (with_reducible refine Kd.C_alloc ?_ _) | (with_reducible refine Kd.C_drewN ?_ _) | (with_reducible refine Kd.C_drew ?_)))
   (case side2 => exact HC0_1.out)
   rintro e w34 ⟨v347, rfl, ho0, hb⟩
   refine ⟨_, rfl, ?_⟩
   have n0_ := am_ (Kd.R_lower ho0 (below_size (bl_ HB))); have n1_ := am_ (blk_below (bk_ BK341) hb); have n2_ := am_ (blk_below (bk_ BK342) hb); have n3_ := am_ (below_step (bl_ HB) hb); clear BK341 BK342 HB; have HO348 := n0_; have BK341 := n1_; have BK342 := n2_; have HB := n3_; clear n0_ n1_ n2_ n3_; (try clear hb); (try clear hb2); (try clear hk); (try clear hi); (try clear ho0)
   refine hK.out _ _ ⟨(blk_cell BK341.out 0).trans rfl, (blk_cell BK341.out 1).trans rfl, (blk_cell BK341.out 2).trans rfl, (blk_cell BK342.out 0).trans rfl, (blk_cell BK342.out 1).trans rfl, (blk_cell BK342.out 2).trans rfl⟩ (fun hHeld => ?_)
   clear hK K
   refine norm_ (a' := ?_) ?_ ?_
   rotate_left
   ·show Act.put _ (some 24) _ = _
    exact nm_
   refine one_ (i := 3) (N := some 26) #[true, true, true, true, false, false, false, false, false, false] rfl rfl (one_of HT_.out (by kernel_rfl)) (by decide) (fun K hK => ?_)
   refine goes_ Tryd.func13 (by kernel_rfl) rfl #[.agg #[.int .i64 a1_0, .slice A1_1 l1_1.length c1_1, .int .i64 a1_2]] (by rfl) rfl rfl ma_ ?_
   with_reducible refine (laws_toDyadic.calls k a1_0 _ _ l1_1 a1_2 t350 t351 t354 _ ?side1 ?side2 A20.out).mono ?_
   (case side1 => repeat (first | exact (Kd.C_below HR1_1.out HB.out) | (with_reducible refine Kd.C_alloc ?_ _) | (with_reducible refine Kd.C_drewN ?_ _) | (with_reducible refine Kd.C_drew ?_)))
   (case side2 => exact HC1_1.out)
   rintro e w35 ⟨v352, rfl, ho0, hb⟩
   refine ⟨_, rfl, ?_⟩
   have n0_ := am_ (Kd.R_elder' (kr_ HO348) (Kd.R_base ho0) hb); have n1_ := am_ (Kd.R_lower (Kd.R_new' ho0 (Kd.R_lt (kr_ HO348))) (below_size (bl_ HB))); have n2_ := am_ (blk_below (bk_ BK341) hb); have n3_ := am_ (blk_below (bk_ BK342) hb); have n4_ := am_ (below_step (bl_ HB) hb); clear HO348 BK341 BK342 HB; have HO348 := n0_; have HO353 := n1_; have BK341 := n2_; have BK342 := n3_; have HB := n4_; clear n0_ n1_ n2_ n3_ n4_; (try clear hb); (try clear hb2); (try clear hk); (try clear hi); (try clear ho0)
   obtain ⟨Ao36, co36, eo36⟩ := Kd.R_slice HO348.out
   (first | subst eo36 | (injection eo36 with f1_ f2_ f3_; have f4_ := f1_.symm; have f5_ := f3_.symm; clear f1_ f2_ f3_; subst f4_; subst f5_))
   obtain ⟨Ao37, co37, eo37⟩ := Kd.R_slice HO353.out
   (first | subst eo37 | (injection eo37 with f1_ f2_ f3_; have f4_ := f1_.symm; have f5_ := f3_.symm; clear f1_ f2_ f3_; subst f4_; subst f5_))
   refine hK.out _ _ ⟨(blk_cell BK341.out 0).trans rfl, (blk_cell BK341.out 1).trans rfl, (blk_cell BK341.out 2).trans rfl, (blk_cell BK342.out 0).trans rfl, (blk_cell BK342.out 1).trans rfl, (blk_cell BK342.out 2).trans rfl⟩ (fun hHeld => ?_)
   clear hK K
   refine norm_ (a' := ?_) ?_ ?_
   rotate_left
   ·show Act.put _ (some 26) _ = _
    exact nm_
   refine one_ (i := 4) (N := some 27) #[true, true, true, true, true, false, false, false, false, false] rfl rfl (one_of HT_.out (by kernel_rfl)) (by decide) (fun K hK => ?_)
   refine goes_ Tryd.func20 (by kernel_rfl) rfl #[.agg #[.int .i64 t345, .slice Ao36 t346.length co36, .int .i64 t349], .agg #[.int .i64 t350, .slice Ao37 t351.length co37, .int .i64 t354]] (by rfl) rfl rfl ma_ ?_
   with_reducible refine (spec_CompareDyadics.calls k t345 _ _ t346 t349 t350 _ _ t351 t354 t355 t356 _ ?side1 ?side2 ?side3 ?side4 A21.out).mono ?_
   (case side1 => repeat (first | exact (Kd.R_reads' HO348.out).2.2 | (with_reducible refine Kd.C_alloc ?_ _) | (with_reducible refine Kd.C_drewN ?_ _) | (with_reducible refine Kd.C_drew ?_)))
   (case side2 => exact (Kd.R_reads' HO348.out).2.1)
   (case side3 => repeat (first | exact (Kd.R_reads' HO353.out).2.2 | (with_reducible refine Kd.C_alloc ?_ _) | (with_reducible refine Kd.C_drewN ?_ _) | (with_reducible refine Kd.C_drew ?_)))
   (case side4 => exact (Kd.R_reads' HO353.out).2.1)
   rintro e w38 ⟨rfl, hb⟩
   refine ⟨_, rfl, ?_⟩
   have n0_ := am_ (Kd.R_below (kr_ HO348) hb); have n1_ := am_ (Kd.R_below (kr_ HO353) hb); have n2_ := am_ (blk_below (bk_ BK341) hb); have n3_ := am_ (blk_below (bk_ BK342) hb); have n4_ := am_ (below_step (bl_ HB) hb); clear HO348 HO353 BK341 BK342 HB; have HO348 := n0_; have HO353 := n1_; have BK341 := n2_; have BK342 := n3_; have HB := n4_; clear n0_ n1_ n2_ n3_ n4_; (try clear hb); (try clear hb2); (try clear hk); (try clear hi)
   refine hK.out _ _ ⟨(blk_cell BK341.out 0).trans rfl, (blk_cell BK341.out 1).trans rfl, (blk_cell BK341.out 2).trans rfl, (blk_cell BK342.out 0).trans rfl, (blk_cell BK342.out 1).trans rfl, (blk_cell BK342.out 2).trans rfl⟩ (fun hHeld => ?_)
   clear hK K
   refine norm_ (a' := ?_) ?_ ?_
   rotate_left
   ·show Act.put _ (some 27) _ = _
    exact nm_
   refine pure_ (i := 5) (N := some 22) (v := ?_) (a' := ?_) #[true, true, true, true, true, true, false, false, false, false] rfl rfl (any_of HT_.out (by kernel_rfl)) (fun _ _ _ h => h) (Or.inl ⟨by rfl, ?_⟩) ?_ ?_
   rotate_left
   ·intro w'
    go_simp
    with_reducible rfl
   rotate_left
   ·exact nm_
   refine pure_ (i := 6) (N := some 28) (v := ?_) (a' := ?_) #[true, true, true, true, true, true, true, false, false, false] rfl rfl (any_of HT_.out (by kernel_rfl)) (fun _ _ _ h => h) (Or.inl ⟨by rfl, ?_⟩) ?_ ?_
   rotate_left
   ·intro w'
    go_simp
    with_reducible rfl
   rotate_left
   ·exact nm_
   refine pure_ (i := 7) (N := some 29) (v := ?_) (a' := ?_) #[true, true, true, true, true, true, true, true, false, false] rfl rfl (any_of HT_.out (by kernel_rfl)) (fun _ _ _ h => h) (Or.inl ⟨by rfl, ?_⟩) ?_ ?_
   rotate_left
   ·intro w'
    go_simp
    with_reducible rfl
   rotate_left
   ·exact nm_
   refine pure_ (i := 8) (N := some 6) (v := ?_) (a' := ?_) #[true, true, true, true, true, true, true, true, true, false] rfl rfl (any_of HT_.out (by kernel_rfl)) (fun _ _ _ h => h) (Or.inl ⟨by rfl, ?_⟩) ?_ ?_
   rotate_left
   ·intro w'
    go_simp
    with_reducible rfl
   rotate_left
   ·exact nm_
   refine pure_ (i := 9) (N := some 7) (v := ?_) (a' := ?_) #[true, true, true, true, true, true, true, true, true, true] rfl rfl (any_of HT_.out (by kernel_rfl)) (fun _ _ _ h => h) (Or.inl ⟨by rfl, ?_⟩) ?_ ?_
   rotate_left
   ·intro w'
    go_simp
    with_reducible rfl
   rotate_left
   ·exact nm_
   refine done_ (done_of HT_.out (by kernel_rfl)) ?_
   have hcz39_0 : w38.cell? ⟨gb341, 0, none⟩ = some (.int .i64 a0_0) := (blk_cell BK341.out 0).trans rfl
   have hcz39_1 : w38.cell? ⟨gb341, 1, none⟩ = some (.slice A0_1 l0_1.length c0_1) := (blk_cell BK341.out 1).trans rfl
   have hcz39_2 : w38.cell? ⟨gb341, 2, none⟩ = some (.int .i64 a0_2) := (blk_cell BK341.out 2).trans rfl
   have hfz39_0 := blk_frozen BK341.out 0; have hfz39_1 := blk_frozen BK341.out 1; have hfz39_2 := blk_frozen BK341.out 2
   go_upto_region 12 with (first | ((with_reducible refine gate_callee (f := 13) rfl ?_); refine goesL_ (some 31) rfl rfl Tryd.func13 (by kernel_rfl) rfl #[.agg #[.int .i64 a0_0, .slice A0_1 l0_1.length c0_1, .int .i64 a0_2]] rfl ma_ ?_; (with_reducible refine (laws_toDyadic.calls k a0_0 _ _ l0_1 a0_2 t357 t358 t361 _ ?side1 ?side2 A22.out).mono ?_); (case side1 => repeat (first | exact (Kd.C_below HR0_1.out HB.out) | (with_reducible refine Kd.C_alloc ?_ _) | (with_reducible refine Kd.C_drewN ?_ _) | (with_reducible refine Kd.C_drew ?_))); (case side2 => exact HC0_1.out); rintro e w40 ⟨v359, rfl, ho0, hb⟩; refine ⟨_, rfl, ?_⟩; have n0_ := am_ (Kd.R_elder' (kr_ HO348) (Kd.R_base ho0) hb); have n1_ := am_ (Kd.R_elder' (kr_ HO353) (Kd.R_base ho0) hb); have n2_ := am_ (Kd.R_lower (Kd.R_new' (Kd.R_new' ho0 (Kd.R_lt (kr_ HO348))) (Kd.R_lt (kr_ HO353))) (below_size (bl_ HB))); have n3_ := am_ (blk_below (bk_ BK341) hb); have n4_ := am_ (blk_below (bk_ BK342) hb); have n5_ := am_ (below_step (bl_ HB) hb); clear HO348; clear HO353; clear BK341; clear BK342; clear HB; have HO348 := n0_; have HO353 := n1_; have HO360 := n2_; have BK341 := n3_; have BK342 := n4_; have HB := n5_; clear n0_ n1_ n2_ n3_ n4_ n5_; (try clear hb); (try clear hb2); (try clear hk); (try clear hi); (try clear ho0)) | ((with_reducible refine gate_dst (N := 8) rfl ?_); refine box_event ?hg (N := 8) ?hd (cs := #[.int .i64 0, .slice none 0 0, .int .i64 0]) (t := 30) ?hr ?_; (case hd => rfl); (case hg => rfl); (case hr => first | (go_simp; done) | (go_simp; rfl)); intro gb362 hg w41 hbox hb; have n0_ := am_ (Kd.R_below (kr_ HO348) hb); have n1_ := am_ (Kd.R_below (kr_ HO353) hb); have n2_ := am_ (Kd.R_below (kr_ HO360) hb); have n3_ := am_ (blk_below (bk_ BK341) hb); have n4_ := am_ (blk_below (bk_ BK342) hb); have n5_ := am_ (below_step (bl_ HB) hb); have n6_ := am_ (hbox); have n7_ := am_ (gs_ hg HB); have n8_ := am_ (gs_ hg HB); have n9_ := am_ (nl_ hg BK341); have n10_ := am_ (ng_ hg BK341); have n11_ := am_ (nl_ hg BK342); have n12_ := am_ (ng_ hg BK342); clear HO348; clear HO353; clear HO360; clear BK341; clear BK342; clear HB; have HO348 := n0_; have HO353 := n1_; have HO360 := n2_; have BK341 := n3_; have BK342 := n4_; have HB := n5_; have BK362 := n6_; have GW362 := n7_; have GE362 := n8_; have NB341_362 := n9_; have NB362_341 := n10_; have NB342_362 := n11_; have NB362_342 := n12_; clear n0_ n1_ n2_ n3_ n4_ n5_ n6_ n7_ n8_ n9_ n10_ n11_ n12_; clear hb hbox hg; have hnb42 := NB362_341.out; have hnc42 := NB341_362.out; have hnb43 := NB362_342.out; have hnc43 := NB342_362.out; have hcz44_0 : w41.cell? ⟨gb362, 0, none⟩ = some (.int .i64 0) := (blk_cell BK362.out 0).trans rfl; have hcz44_1 : w41.cell? ⟨gb362, 1, none⟩ = some (.slice none 0 0) := (blk_cell BK362.out 1).trans rfl; have hcz44_2 : w41.cell? ⟨gb362, 2, none⟩ = some (.int .i64 0) := (blk_cell BK362.out 2).trans rfl; have hfz44_0 := blk_frozen BK362.out 0; have hfz44_1 := blk_frozen BK362.out 1; have hfz44_2 := blk_frozen BK362.out 2; obtain ⟨Ao45, co45, eo45⟩ := Kd.R_slice HO360.out; subst eo45; have hcz46_0 : w41.cell? ⟨gb342, 0, none⟩ = some (.int .i64 a1_0) := (blk_cell BK342.out 0).trans rfl; have hcz46_1 : w41.cell? ⟨gb342, 1, none⟩ = some (.slice A1_1 l1_1.length c1_1) := (blk_cell BK342.out 1).trans rfl; have hcz46_2 : w41.cell? ⟨gb342, 2, none⟩ = some (.int .i64 a1_2) := (blk_cell BK342.out 2).trans rfl; have hfz46_0 := blk_frozen BK342.out 0; have hfz46_1 := blk_frozen BK342.out 1; have hfz46_2 := blk_frozen BK342.out 2) | ((with_reducible refine gate_callee (f := 13) rfl ?_); refine goesL_ (some 33) rfl rfl Tryd.func13 (by kernel_rfl) rfl #[.agg #[.int .i64 a1_0, .slice A1_1 l1_1.length c1_1, .int .i64 a1_2]] rfl ma_ ?_; (with_reducible refine (laws_toDyadic.calls k a1_0 _ _ l1_1 a1_2 t363 t364 t367 _ ?side1 ?side2 A23.out).mono ?_); (case side1 => exact Kd.C_below HR1_1.out (bl_ HB)); (case side2 => exact HC1_1.out); rintro e w47 ⟨v365, rfl, ho0, hb⟩; refine ⟨_, rfl, ?_⟩; have n0_ := am_ (Kd.R_elder' (by (with_reducible repeat (first | apply Kd.R_alloc | apply Kd.R_drewN | apply Kd.R_drew)); exact (Kd.R_mono (Kd.R_far (p := ⟨gb362, 2, none⟩) (Kd.R_far (p := ⟨gb362, 1, none⟩) (Kd.R_far (p := ⟨gb362, 0, none⟩) (Kd.R_types HO348.out BK362.out (by decide)) (fun _ hk => hk.2) (.int .i64 t357)) (fun _ hk => hk.2) (.slice Ao45 t358.length co45)) (fun _ hk => hk.2) (.int .i64 t361)) (fun _ h_ => h_.1))) (Kd.R_base ho0) hb); have n1_ := am_ (Kd.R_elder' (by (with_reducible repeat (first | apply Kd.R_alloc | apply Kd.R_drewN | apply Kd.R_drew)); exact (Kd.R_mono (Kd.R_far (p := ⟨gb362, 2, none⟩) (Kd.R_far (p := ⟨gb362, 1, none⟩) (Kd.R_far (p := ⟨gb362, 0, none⟩) (Kd.R_types HO353.out BK362.out (by decide)) (fun _ hk => hk.2) (.int .i64 t357)) (fun _ hk => hk.2) (.slice Ao45 t358.length co45)) (fun _ hk => hk.2) (.int .i64 t361)) (fun _ h_ => h_.1))) (Kd.R_base ho0) hb); have n2_ := am_ (Kd.R_elder' (by (with_reducible repeat (first | apply Kd.R_alloc | apply Kd.R_drewN | apply Kd.R_drew)); exact (Kd.R_mono (Kd.R_far (p := ⟨gb362, 2, none⟩) (Kd.R_far (p := ⟨gb362, 1, none⟩) (Kd.R_far (p := ⟨gb362, 0, none⟩) (Kd.R_types HO360.out BK362.out (by decide)) (fun _ hk => hk.2) (.int .i64 t357)) (fun _ hk => hk.2) (.slice Ao45 t358.length co45)) (fun _ hk => hk.2) (.int .i64 t361)) (fun _ h_ => h_.1))) (Kd.R_base ho0) hb); have n3_ := am_ (Kd.R_lower (Kd.R_new' (Kd.R_new' (Kd.R_new' ho0 (Kd.R_lt (by (with_reducible repeat (first | apply Kd.R_alloc | apply Kd.R_drewN | apply Kd.R_drew)); exact (Kd.R_mono (Kd.R_far (p := ⟨gb362, 2, none⟩) (Kd.R_far (p := ⟨gb362, 1, none⟩) (Kd.R_far (p := ⟨gb362, 0, none⟩) (Kd.R_types HO348.out BK362.out (by decide)) (fun _ hk => hk.2) (.int .i64 t357)) (fun _ hk => hk.2) (.slice Ao45 t358.length co45)) (fun _ hk => hk.2) (.int .i64 t361)) (fun _ h_ => h_.1))))) (Kd.R_lt (by (with_reducible repeat (first | apply Kd.R_alloc | apply Kd.R_drewN | apply Kd.R_drew)); exact (Kd.R_mono (Kd.R_far (p := ⟨gb362, 2, none⟩) (Kd.R_far (p := ⟨gb362, 1, none⟩) (Kd.R_far (p := ⟨gb362, 0, none⟩) (Kd.R_types HO353.out BK362.out (by decide)) (fun _ hk => hk.2) (.int .i64 t357)) (fun _ hk => hk.2) (.slice Ao45 t358.length co45)) (fun _ hk => hk.2) (.int .i64 t361)) (fun _ h_ => h_.1))))) (Kd.R_lt (by (with_reducible repeat (first | apply Kd.R_alloc | apply Kd.R_drewN | apply Kd.R_drew)); exact (Kd.R_mono (Kd.R_far (p := ⟨gb362, 2, none⟩) (Kd.R_far (p := ⟨gb362, 1, none⟩) (Kd.R_far (p := ⟨gb362, 0, none⟩) (Kd.R_types HO360.out BK362.out (by decide)) (fun _ hk => hk.2) (.int .i64 t357)) (fun _ hk => hk.2) (.slice Ao45 t358.length co45)) (fun _ hk => hk.2) (.int .i64 t361)) (fun _ h_ => h_.1))))) (below_size (bl_ HB))); have n4_ := am_ (blk_below (bk_ BK341) hb); have n5_ := am_ (blk_below (bk_ BK342) hb); have n6_ := am_ (blk_below (g := gb362) (o := .cells #[.int .i64 t357, .slice Ao45 t358.length co45, .int .i64 t361] 30 (0, 0)) (by (with_reducible repeat (first | refine blk_drewN ?_ _ | refine blk_drew ?_ | refine blk_alloc ?_ _)); refine blk_put (cs := #[.int .i64 t357, .slice Ao45 t358.length co45, .int .i64 0]) ?_ 2 _ rfl; (with_reducible repeat (first | refine blk_drewN ?_ _ | refine blk_drew ?_ | refine blk_alloc ?_ _)); refine blk_put (cs := #[.int .i64 t357, .slice none 0 0, .int .i64 0]) ?_ 1 _ rfl; (with_reducible repeat (first | refine blk_drewN ?_ _ | refine blk_drew ?_ | refine blk_alloc ?_ _)); refine blk_put (cs := #[.int .i64 0, .slice none 0 0, .int .i64 0]) ?_ 0 _ rfl; (with_reducible repeat (first | refine blk_drewN ?_ _ | refine blk_drew ?_ | refine blk_alloc ?_ _)); exact BK362.out) hb); have n7_ := am_ (below_step (bl_ HB) hb); clear HO348; clear HO353; clear HO360; clear BK341; clear BK342; clear BK362; clear HB; have HO348 := n0_; have HO353 := n1_; have HO360 := n2_; have HO366 := n3_; have BK341 := n4_; have BK342 := n5_; have BK362 := n6_; have HB := n7_; clear n0_ n1_ n2_ n3_ n4_ n5_ n6_ n7_; (try clear hb); (try clear hb2); (try clear hk); (try clear hi); (try clear ho0)) | ((with_reducible refine gate_dst (N := 9) rfl ?_); refine box_event ?hg (N := 9) ?hd (cs := #[.int .i64 0, .slice none 0 0, .int .i64 0]) (t := 30) ?hr ?_; (case hd => rfl); (case hg => rfl); (case hr => first | (go_simp; done) | (go_simp; rfl)); intro gb368 hg w48 hbox hb; have n0_ := am_ (Kd.R_below (kr_ HO348) hb); have n1_ := am_ (Kd.R_below (kr_ HO353) hb); have n2_ := am_ (Kd.R_below (kr_ HO360) hb); have n3_ := am_ (Kd.R_below (kr_ HO366) hb); have n4_ := am_ (blk_below (bk_ BK341) hb); have n5_ := am_ (blk_below (bk_ BK342) hb); have n6_ := am_ (blk_below (bk_ BK362) hb); have n7_ := am_ (below_step (bl_ HB) hb); have n8_ := am_ (hbox); have n9_ := am_ (gs_ hg HB); have n10_ := am_ (gs_ hg HB); have n11_ := am_ (nl_ hg BK341); have n12_ := am_ (ng_ hg BK341); have n13_ := am_ (nl_ hg BK342); have n14_ := am_ (ng_ hg BK342); have n15_ := am_ (nl_ hg BK362); have n16_ := am_ (ng_ hg BK362); clear HO348; clear HO353; clear HO360; clear HO366; clear BK341; clear BK342; clear BK362; clear HB; have HO348 := n0_; have HO353 := n1_; have HO360 := n2_; have HO366 := n3_; have BK341 := n4_; have BK342 := n5_; have BK362 := n6_; have HB := n7_; have BK368 := n8_; have GW368 := n9_; have GE368 := n10_; have NB341_368 := n11_; have NB368_341 := n12_; have NB342_368 := n13_; have NB368_342 := n14_; have NB362_368 := n15_; have NB368_362 := n16_; clear n0_ n1_ n2_ n3_ n4_ n5_ n6_ n7_ n8_ n9_ n10_ n11_ n12_ n13_ n14_ n15_ n16_; clear hb hbox hg; have hnb49 := NB368_341.out; have hnc49 := NB341_368.out; have hnb50 := NB368_342.out; have hnc50 := NB342_368.out; have hnb51 := NB368_362.out; have hnc51 := NB362_368.out; have hcz52_0 : w48.cell? ⟨gb368, 0, none⟩ = some (.int .i64 0) := (blk_cell BK368.out 0).trans rfl; have hcz52_1 : w48.cell? ⟨gb368, 1, none⟩ = some (.slice none 0 0) := (blk_cell BK368.out 1).trans rfl; have hcz52_2 : w48.cell? ⟨gb368, 2, none⟩ = some (.int .i64 0) := (blk_cell BK368.out 2).trans rfl; have hfz52_0 := blk_frozen BK368.out 0; have hfz52_1 := blk_frozen BK368.out 1; have hfz52_2 := blk_frozen BK368.out 2; obtain ⟨Ao53, co53, eo53⟩ := Kd.R_slice HO366.out; subst eo53; have hcz54_0 : w48.cell? ⟨gb362, 0, none⟩ = some (.int .i64 t357) := (blk_cell BK362.out 0).trans rfl; have hcz54_1 : w48.cell? ⟨gb362, 1, none⟩ = some (.slice Ao45 t358.length co45) := (blk_cell BK362.out 1).trans rfl; have hcz54_2 : w48.cell? ⟨gb362, 2, none⟩ = some (.int .i64 t361) := (blk_cell BK362.out 2).trans rfl; have hfz54_0 := blk_frozen BK362.out 0; have hfz54_1 := blk_frozen BK362.out 1; have hfz54_2 := blk_frozen BK362.out 2) | ((with_reducible refine gate_callee (f := 21) rfl ?_); refine goesL_ (some 37) rfl rfl Tryd.func21 (by kernel_rfl) rfl #[.agg #[.int .i64 t357, .slice Ao45 t358.length co45, .int .i64 t361], .agg #[.int .i64 t363, .slice Ao53 t364.length co53, .int .i64 t367]] rfl ma_ ?_; (with_reducible refine (impl_CompareDyadics.calls t357 _ _ t358 t361 t363 _ _ t364 t367 t369 t370 _ ?side1 ?side2 ?side3 ?side4 ?sideT A24.out).mono ?_); (case sideT => exact Go.Proofs.YthddlechoibdkaaDoor.Big.Tab.below HTab.out (bl_ HB)); (case side1 => refine (Kd.R_reads' (e := 2) (base := w.heap.size) (ok := fun k_ => (((True ∧ some k_ ≠ (.slice Ao36 t346.length co36 : Value).ownBlock) ∧ some k_ ≠ (.slice Ao37 t351.length co37 : Value).ownBlock) ∧ some k_ ≠ (.slice Ao53 t364.length co53 : Value).ownBlock)) (n := t358.length) (c := co45) ?_).2.2; exact (by (with_reducible repeat (first | apply Kd.R_alloc | apply Kd.R_drewN | apply Kd.R_drew)); exact (Kd.R_mono (Kd.R_far (p := ⟨gb368, 2, none⟩) (Kd.R_far (p := ⟨gb368, 1, none⟩) (Kd.R_far (p := ⟨gb368, 0, none⟩) (Kd.R_types HO360.out BK368.out (by decide)) (fun _ hk => hk.2) (.int .i64 t363)) (fun _ hk => hk.2) (.slice Ao53 t364.length co53)) (fun _ hk => hk.2) (.int .i64 t367)) (fun _ h_ => h_.1)))); (case side2 => exact (Kd.R_reads' HO360.out).2.1); (case side3 => refine (Kd.R_reads' (e := 2) (base := w.heap.size) (ok := fun k_ => (((True ∧ some k_ ≠ (.slice Ao36 t346.length co36 : Value).ownBlock) ∧ some k_ ≠ (.slice Ao37 t351.length co37 : Value).ownBlock) ∧ some k_ ≠ (.slice Ao45 t358.length co45 : Value).ownBlock)) (n := t364.length) (c := co53) ?_).2.2; exact (by (with_reducible repeat (first | apply Kd.R_alloc | apply Kd.R_drewN | apply Kd.R_drew)); exact (Kd.R_mono (Kd.R_far (p := ⟨gb368, 2, none⟩) (Kd.R_far (p := ⟨gb368, 1, none⟩) (Kd.R_far (p := ⟨gb368, 0, none⟩) (Kd.R_types HO366.out BK368.out (by decide)) (fun _ hk => hk.2) (.int .i64 t363)) (fun _ hk => hk.2) (.slice Ao53 t364.length co53)) (fun _ hk => hk.2) (.int .i64 t367)) (fun _ h_ => h_.1)))); (case side4 => exact (Kd.R_reads' HO366.out).2.1); rintro e w55 ⟨rfl, hb⟩; refine ⟨_, rfl, ?_⟩; have n0_ := am_ (Kd.R_below (by (with_reducible repeat (first | apply Kd.R_alloc | apply Kd.R_drewN | apply Kd.R_drew)); exact (Kd.R_mono (Kd.R_far (p := ⟨gb368, 2, none⟩) (Kd.R_far (p := ⟨gb368, 1, none⟩) (Kd.R_far (p := ⟨gb368, 0, none⟩) (Kd.R_types HO348.out BK368.out (by decide)) (fun _ hk => hk.2) (.int .i64 t363)) (fun _ hk => hk.2) (.slice Ao53 t364.length co53)) (fun _ hk => hk.2) (.int .i64 t367)) (fun _ h_ => h_.1))) hb); have n1_ := am_ (Kd.R_below (by (with_reducible repeat (first | apply Kd.R_alloc | apply Kd.R_drewN | apply Kd.R_drew)); exact (Kd.R_mono (Kd.R_far (p := ⟨gb368, 2, none⟩) (Kd.R_far (p := ⟨gb368, 1, none⟩) (Kd.R_far (p := ⟨gb368, 0, none⟩) (Kd.R_types HO353.out BK368.out (by decide)) (fun _ hk => hk.2) (.int .i64 t363)) (fun _ hk => hk.2) (.slice Ao53 t364.length co53)) (fun _ hk => hk.2) (.int .i64 t367)) (fun _ h_ => h_.1))) hb); have n2_ := am_ (Kd.R_below (by (with_reducible repeat (first | apply Kd.R_alloc | apply Kd.R_drewN | apply Kd.R_drew)); exact (Kd.R_mono (Kd.R_far (p := ⟨gb368, 2, none⟩) (Kd.R_far (p := ⟨gb368, 1, none⟩) (Kd.R_far (p := ⟨gb368, 0, none⟩) (Kd.R_types HO360.out BK368.out (by decide)) (fun _ hk => hk.2) (.int .i64 t363)) (fun _ hk => hk.2) (.slice Ao53 t364.length co53)) (fun _ hk => hk.2) (.int .i64 t367)) (fun _ h_ => h_.1))) hb); have n3_ := am_ (Kd.R_below (by (with_reducible repeat (first | apply Kd.R_alloc | apply Kd.R_drewN | apply Kd.R_drew)); exact (Kd.R_mono (Kd.R_far (p := ⟨gb368, 2, none⟩) (Kd.R_far (p := ⟨gb368, 1, none⟩) (Kd.R_far (p := ⟨gb368, 0, none⟩) (Kd.R_types HO366.out BK368.out (by decide)) (fun _ hk => hk.2) (.int .i64 t363)) (fun _ hk => hk.2) (.slice Ao53 t364.length co53)) (fun _ hk => hk.2) (.int .i64 t367)) (fun _ h_ => h_.1))) hb); have n4_ := am_ (blk_below (bk_ BK341) hb); have n5_ := am_ (blk_below (bk_ BK342) hb); have n6_ := am_ (blk_below (bk_ BK362) hb); have n7_ := am_ (blk_below (g := gb368) (o := .cells #[.int .i64 t363, .slice Ao53 t364.length co53, .int .i64 t367] 30 (0, 0)) (by (with_reducible repeat (first | refine blk_drewN ?_ _ | refine blk_drew ?_ | refine blk_alloc ?_ _)); refine blk_put (cs := #[.int .i64 t363, .slice Ao53 t364.length co53, .int .i64 0]) ?_ 2 _ rfl; (with_reducible repeat (first | refine blk_drewN ?_ _ | refine blk_drew ?_ | refine blk_alloc ?_ _)); refine blk_put (cs := #[.int .i64 t363, .slice none 0 0, .int .i64 0]) ?_ 1 _ rfl; (with_reducible repeat (first | refine blk_drewN ?_ _ | refine blk_drew ?_ | refine blk_alloc ?_ _)); refine blk_put (cs := #[.int .i64 0, .slice none 0 0, .int .i64 0]) ?_ 0 _ rfl; (with_reducible repeat (first | refine blk_drewN ?_ _ | refine blk_drew ?_ | refine blk_alloc ?_ _)); exact BK368.out) hb); have n8_ := am_ (below_step (bl_ HB) hb); clear HO348; clear HO353; clear HO360; clear HO366; clear BK341; clear BK342; clear BK362; clear BK368; clear HB; have HO348 := n0_; have HO353 := n1_; have HO360 := n2_; have HO366 := n3_; have BK341 := n4_; have BK342 := n5_; have BK362 := n6_; have BK368 := n7_; have HB := n8_; clear n0_ n1_ n2_ n3_ n4_ n5_ n6_ n7_ n8_; (try clear hb); (try clear hb2); (try clear hk); (try clear hi)))
   (try simp only [Act.put, List.setIfInBounds_toArray, List.set_cons_zero, List.set_cons_succ])
   go_cut [47] (fun v47 wc => ∃ (kq : Nat) (x47_24 : Bool), v47 = .bool x47_24 ∧ Aside0 (laws_FnExactCompareDyadics.j0 kq x47_24 a0_0 l0_1 a0_2 a1_0 l1_1 a1_2 t357 t358 t361 t363 t364 t367 = some r) ∧ Aside0 (kq ≤ k) ∧ Aside0 (Kd.R (Kd.int .i64) 2 wc w.heap.size (fun k_ => some k_ ≠ ((.slice Ao53 t364.length co53) : Value).ownBlock) (.slice Ao45 t358.length co45) t358) ∧ Aside0 (Kd.R (Kd.int .i64) 2 wc w.heap.size (fun k_ => some k_ ≠ ((.slice Ao45 t358.length co45) : Value).ownBlock) (.slice Ao53 t364.length co53) t364) ∧ Aside0 (wc.heap[gb341]? = some (.cells #[.int .i64 a0_0, (.slice A0_1 l0_1.length c0_1), .int .i64 a0_2] 26 (0, 0))) ∧ Aside0 (wc.heap[gb342]? = some (.cells #[.int .i64 a1_0, (.slice A1_1 l1_1.length c1_1), .int .i64 a1_2] 26 (0, 0))) ∧ Aside0 (wc.heap[gb362]? = some (.cells #[.int .i64 t357, (.slice Ao45 t358.length co45), .int .i64 t361] 30 (0, 0))) ∧ Aside0 (wc.heap[gb368]? = some (.cells #[.int .i64 t363, (.slice Ao53 t364.length co53), .int .i64 t367] 30 (0, 0))) ∧ Aside0 (Below w.heap.size w wc))
   case first =>
    have H := HC25.out; clear HC25
    by_cases c56 : t369 = t355
    ·rw [if_pos c56] at H
     have c56b0 : (t369 == t355) = true := beq_iff_eq.mpr c56
     have c56b1 : (t369 != t355) = false := bne_eq_false_iff_eq.mpr c56
     clear c56
     (first | rw [c56b0] | (simp only [i64_w, i32_w]; rw [c56b0]) | skip)
     have H' := Aside0.mk H
     clear H
     go_wp2
     go_meet
     case rel => exact ⟨_, ((t370 != t356)), (by first | rfl | (simp; done) | (simp [*]; done)), H', ⟨by first | omega | exact Nat.le_refl _⟩, ⟨km_ HO360 (fun _ hk => hk.2)⟩, ⟨km_ HO366 (fun _ hk => hk.2)⟩, ⟨bk_ BK341⟩, ⟨bk_ BK342⟩, ⟨bk_ BK362⟩, ⟨bk_ BK368⟩, ⟨bl_ HB⟩⟩
    ·rw [if_neg c56] at H
     have c56b0 : (t369 == t355) = false := beq_eq_false_iff_ne.mpr c56
     have c56b1 : (t369 != t355) = true := bne_iff_ne.mpr c56
     (first | rw [c56b0] | (simp only [i64_w, i32_w]; rw [c56b0]) | skip)
     have H' := Aside0.mk H
     clear H
     go_wp2
     go_meet
     case rel => exact ⟨_, (true), (by first | rfl | (simp; done) | (simp [*]; done)), H', ⟨by first | omega | exact Nat.le_refl _⟩, ⟨km_ HO360 (fun _ hk => hk.2)⟩, ⟨km_ HO366 (fun _ hk => hk.2)⟩, ⟨bk_ BK341⟩, ⟨bk_ BK342⟩, ⟨bk_ BK362⟩, ⟨bk_ BK368⟩, ⟨bl_ HB⟩⟩
   case rest =>
    clear HC25; try clear c1; try clear c2; try clear p2; try clear c4; try clear c4b0; try clear c5; try clear c7; try clear c11; try clear c11b0; try clear c13; try clear c14; try clear c20; try clear c21; try clear c28; try clear c42; try clear c43; try clear c49; try clear c50; try clear c51; try clear c56; try clear c56b0; try clear c56b1; try clear hcz15_0; try clear hcz15_1; try clear hcz15_2; try clear hcz17_0; try clear hcz17_1; try clear hcz17_2; try clear hcz29_0; try clear hcz29_1; try clear hcz29_2; try clear hcz31_0; try clear hcz31_1; try clear hcz31_2; try clear hcz39_0; try clear hcz39_1; try clear hcz39_2; try clear hcz44_0; try clear hcz44_1; try clear hcz44_2; try clear hcz46_0; try clear hcz46_1; try clear hcz46_2; try clear hcz52_0; try clear hcz52_1; try clear hcz52_2; try clear hcz54_0; try clear hcz54_1; try clear hcz54_2; try clear hcz8_0; try clear hcz8_1; try clear hcz8_2; try clear hfz15_0; try clear hfz15_1; try clear hfz15_2; try clear hfz17_0; try clear hfz17_1; try clear hfz17_2; try clear hfz29_0; try clear hfz29_1; try clear hfz29_2; try clear hfz31_0; try clear hfz31_1; try clear hfz31_2; try clear hfz39_0; try clear hfz39_1; try clear hfz39_2; try clear hfz44_0; try clear hfz44_1; try clear hfz44_2; try clear hfz46_0; try clear hfz46_1; try clear hfz46_2; try clear hfz52_0; try clear hfz52_1; try clear hfz52_2; try clear hfz54_0; try clear hfz54_1; try clear hfz54_2; try clear hfz8_0; try clear hfz8_1; try clear hfz8_2
    obtain ⟨kq, x47_24, rfl, HA, HJ24, HO_363001, HO_369001, BK341, BK342, BK362, BK368, HB⟩ := hcut
    cases kq with
    | zero => exact absurd HA.out (by simp [laws_FnExactCompareDyadics.j0])
    | succ kj24 =>
     have H := HA.out; clear HA
     simp only [laws_FnExactCompareDyadics.j0] at H
     by_cases c57 : x47_24 = true
     ·subst c57
      have H1 : (some false) = some r := by rw [if_pos rfl] at H; exact H
      clear H; have H := H1; clear H1; obtain rfl := Option.some.inj H
      go_wp2
      go_ret
      exact ⟨by first | rfl | (simp [errW_none, errW_some] <;> rfl) | (simp [*, errW_none, errW_some] <;> rfl), bl_ HB⟩
     ·replace c57 := Bool.eq_false_iff.mpr c57
      subst c57
      have H1 : ((laws_toDyadic.f kj24 a0_0 l0_1 a0_2).bind fun bt371 => ((laws_eqDyadic.f kj24 t357 t358 t361 bt371.1 bt371.2.1 bt371.2.2).bind fun t376 => (if t376 = true then ((laws_toDyadic.f kj24 a1_0 l1_1 a1_2).bind fun bt377 => ((laws_eqDyadic.f kj24 t363 t364 t367 bt377.1 bt377.2.1 bt377.2.2).bind fun t382 => (if t382 = true then (some true) else (some false)))) else (some false)))) = some r := by rw [if_neg (show ¬ (false = true) by decide)] at H; exact H
      clear H; have H := H1; clear H1
      replace H := Option.bind_eq_some_iff.mp H
      obtain ⟨⟨t371, t372, t375⟩, A580, H⟩ := H
      replace H : ((laws_eqDyadic.f kj24 t357 t358 t361 t371 t372 t375).bind fun t376 => (if t376 = true then ((laws_toDyadic.f kj24 a1_0 l1_1 a1_2).bind fun bt377 => ((laws_eqDyadic.f kj24 t363 t364 t367 bt377.1 bt377.2.1 bt377.2.2).bind fun t382 => (if t382 = true then (some true) else (some false)))) else (some false))) = some r := H
      have A58 := Aside0.mk A580; clear A580
      replace H := Option.bind_eq_some_iff.mp H
      obtain ⟨t376, A590, H⟩ := H
      replace H : (if t376 = true then ((laws_toDyadic.f kj24 a1_0 l1_1 a1_2).bind fun bt377 => ((laws_eqDyadic.f kj24 t363 t364 t367 bt377.1 bt377.2.1 bt377.2.2).bind fun t382 => (if t382 = true then (some true) else (some false)))) else (some false)) = some r := H
      have A59 := Aside0.mk A590; clear A590
      by_cases c60 : t376 = true
      ·subst c60
       have H1 : ((laws_toDyadic.f kj24 a1_0 l1_1 a1_2).bind fun bt377 => ((laws_eqDyadic.f kj24 t363 t364 t367 bt377.1 bt377.2.1 bt377.2.2).bind fun t382 => (if t382 = true then (some true) else (some false)))) = some r := by rw [if_pos rfl] at H; exact H
       clear H; have H := H1; clear H1
       replace H := Option.bind_eq_some_iff.mp H
       obtain ⟨⟨t377, t378, t381⟩, A610, H⟩ := H
       replace H : ((laws_eqDyadic.f kj24 t363 t364 t367 t377 t378 t381).bind fun t382 => (if t382 = true then (some true) else (some false))) = some r := H
       have A61 := Aside0.mk A610; clear A610
       replace H := Option.bind_eq_some_iff.mp H
       obtain ⟨t382, A620, H⟩ := H
       replace H : (if t382 = true then (some true) else (some false)) = some r := H
       have A62 := Aside0.mk A620; clear A620
       by_cases c63 : t382 = true
       ·subst c63
        have H1 : (some true) = some r := by rw [if_pos rfl] at H; exact H
        clear H; have H := H1; clear H1; obtain rfl := Option.some.inj H
        try go_wp2
        have n0_ := am_ (Kd.R_drew HO_363001.out); have n1_ := am_ (Kd.R_drew HO_369001.out); have n2_ := am_ (blk_drew BK341.out); have n3_ := am_ (blk_drew BK342.out); have n4_ := am_ (blk_drew BK362.out); have n5_ := am_ (blk_drew BK368.out); have n6_ := am_ (below_drew1 HB.out); clear HO_363001 HO_369001 BK341 BK342 BK362 BK368 HB; have HO_363001 := n0_; have HO_369001 := n1_; have BK341 := n2_; have BK342 := n3_; have BK362 := n4_; have BK368 := n5_; have HB := n6_; clear n0_ n1_ n2_ n3_ n4_ n5_ n6_
        refine start_ (n := 5) (S := fun w' => w'.cell? ⟨gb362, 0, none⟩ = some (.int .i64 t357) ∧ w'.cell? ⟨gb362, 1, none⟩ = some (.slice Ao45 t358.length co45) ∧ w'.cell? ⟨gb362, 2, none⟩ = some (.int .i64 t361) ∧ w'.cell? ⟨gb341, 0, none⟩ = some (.int .i64 a0_0) ∧ w'.cell? ⟨gb341, 1, none⟩ = some (.slice A0_1 l0_1.length c0_1) ∧ w'.cell? ⟨gb341, 2, none⟩ = some (.int .i64 a0_2)) (ds := []) #[false, false, false, false, false] (by kernel_rfl) rfl rfl ⟨(blk_cell BK362.out 0).trans rfl, (blk_cell BK362.out 1).trans rfl, (blk_cell BK362.out 2).trans rfl, (blk_cell BK341.out 0).trans rfl, (blk_cell BK341.out 1).trans rfl, (blk_cell BK341.out 2).trans rfl⟩ (fun hHeld => ?_)
        generalize wc.drew = w64 at HO_363001 HO_369001 BK341 BK342 BK362 BK368 HB hHeld ⊢
        refine take_ (i := 0) (N := some 48) (v := ?_) (a' := ?_) #[true, false, false, false, false] rfl rfl (by kernel_rfl) (fun _ _ _ h => h) (Or.inl ⟨by rfl, ?_⟩) hHeld ?_ ?_
        rotate_left
        ·rintro w' ⟨s0, s1, s2, s3, s4, s5⟩
         go_simp
         with_reducible rfl
        rotate_left
        ·exact nm_
        refine take_ (i := 1) (N := some 49) (v := ?_) (a' := ?_) #[true, true, false, false, false] rfl rfl (by kernel_rfl) (fun _ _ _ h => h) (Or.inl ⟨by rfl, ?_⟩) hHeld ?_ ?_
        rotate_left
        ·rintro w' ⟨s0, s1, s2, s3, s4, s5⟩
         go_simp
         with_reducible rfl
        rotate_left
        ·exact nm_
        refine one_ (i := 2) (N := some 50) #[true, true, true, false, false] rfl rfl (by kernel_rfl) (by decide) (fun K hK => ?_)
        refine goes_ Tryd.func13 (by kernel_rfl) rfl #[.agg #[.int .i64 a0_0, .slice A0_1 l0_1.length c0_1, .int .i64 a0_2]] (by rfl) rfl rfl ma_ ?_
        with_reducible refine (laws_toDyadic.calls kj24 a0_0 _ _ l0_1 a0_2 t371 t372 t375 _ ?side1 ?side2 A58.out).mono ?_
        (case side1 => repeat (first | exact (Kd.C_below HR0_1.out HB.out) | (with_reducible refine Kd.C_alloc ?_ _) | (with_reducible refine Kd.C_drewN ?_ _) | (with_reducible refine Kd.C_drew ?_)))
        (case side2 => exact HC0_1.out)
        rintro e w65 ⟨v373, rfl, ho0, hb⟩
        refine ⟨_, rfl, ?_⟩
        have n0_ := am_ (Kd.R_elder' (kr_ HO_363001) (Kd.R_base ho0) hb); have n1_ := am_ (Kd.R_elder' (kr_ HO_369001) (Kd.R_base ho0) hb); have n2_ := am_ (Kd.R_lower (Kd.R_new' (Kd.R_new' ho0 (Kd.R_lt (kr_ HO_363001))) (Kd.R_lt (kr_ HO_369001))) (below_size (bl_ HB))); have n3_ := am_ (blk_below (bk_ BK341) hb); have n4_ := am_ (blk_below (bk_ BK342) hb); have n5_ := am_ (blk_below (bk_ BK362) hb); have n6_ := am_ (blk_below (bk_ BK368) hb); have n7_ := am_ (below_step (bl_ HB) hb); clear HO_363001 HO_369001 BK341 BK342 BK362 BK368 HB; have HO_363001 := n0_; have HO_369001 := n1_; have HO374 := n2_; have BK341 := n3_; have BK342 := n4_; have BK362 := n5_; have BK368 := n6_; have HB := n7_; clear n0_ n1_ n2_ n3_ n4_ n5_ n6_ n7_; (try clear hb); (try clear hb2); (try clear hk); (try clear hi); (try clear ho0)
        obtain ⟨Ao66, co66, eo66⟩ := Kd.R_slice HO374.out
        (first | subst eo66 | (injection eo66 with f1_ f2_ f3_; have f4_ := f1_.symm; have f5_ := f3_.symm; clear f1_ f2_ f3_; subst f4_; subst f5_))
        refine hK.out _ _ ⟨(blk_cell BK362.out 0).trans rfl, (blk_cell BK362.out 1).trans rfl, (blk_cell BK362.out 2).trans rfl, (blk_cell BK341.out 0).trans rfl, (blk_cell BK341.out 1).trans rfl, (blk_cell BK341.out 2).trans rfl⟩ (fun hHeld => ?_)
        clear hK K
        refine norm_ (a' := ?_) ?_ ?_
        rotate_left
        ·show Act.put _ (some 50) _ = _
         exact nm_
        refine one_ (i := 3) (N := some 51) #[true, true, true, true, false] rfl rfl (by kernel_rfl) (by decide) (fun K hK => ?_)
        refine goes_ Tryd.func15 (by kernel_rfl) rfl #[.agg #[.int .i64 t357, .slice Ao45 t358.length co45, .int .i64 t361], .agg #[.int .i64 t371, .slice Ao66 t372.length co66, .int .i64 t375]] (by rfl) rfl rfl ma_ ?_
        with_reducible refine (laws_eqDyadic.calls kj24 t357 _ _ t358 t361 t371 _ _ t372 t375 true _ ?side1 ?side2 ?side3 ?side4 A59.out).mono ?_
        (case side1 => repeat (first | exact (Kd.R_reads' HO_363001.out).2.2 | (with_reducible refine Kd.C_alloc ?_ _) | (with_reducible refine Kd.C_drewN ?_ _) | (with_reducible refine Kd.C_drew ?_)))
        (case side2 => exact (Kd.R_reads' HO_363001.out).2.1)
        (case side3 => repeat (first | exact (Kd.R_reads' HO374.out).2.2 | (with_reducible refine Kd.C_alloc ?_ _) | (with_reducible refine Kd.C_drewN ?_ _) | (with_reducible refine Kd.C_drew ?_)))
        (case side4 => exact (Kd.R_reads' HO374.out).2.1)
        rintro e w67 ⟨rfl, hb⟩
        refine ⟨_, rfl, ?_⟩
        have n0_ := am_ (Kd.R_below (kr_ HO_363001) hb); have n1_ := am_ (Kd.R_below (kr_ HO_369001) hb); have n2_ := am_ (Kd.R_below (kr_ HO374) hb); have n3_ := am_ (blk_below (bk_ BK341) hb); have n4_ := am_ (blk_below (bk_ BK342) hb); have n5_ := am_ (blk_below (bk_ BK362) hb); have n6_ := am_ (blk_below (bk_ BK368) hb); have n7_ := am_ (below_step (bl_ HB) hb); clear HO_363001 HO_369001 HO374 BK341 BK342 BK362 BK368 HB; have HO_363001 := n0_; have HO_369001 := n1_; have HO374 := n2_; have BK341 := n3_; have BK342 := n4_; have BK362 := n5_; have BK368 := n6_; have HB := n7_; clear n0_ n1_ n2_ n3_ n4_ n5_ n6_ n7_; (try clear hb); (try clear hb2); (try clear hk); (try clear hi)
        refine hK.out _ _ ⟨(blk_cell BK362.out 0).trans rfl, (blk_cell BK362.out 1).trans rfl, (blk_cell BK362.out 2).trans rfl, (blk_cell BK341.out 0).trans rfl, (blk_cell BK341.out 1).trans rfl, (blk_cell BK341.out 2).trans rfl⟩ (fun hHeld => ?_)
        clear hK K
        refine norm_ (a' := ?_) ?_ ?_
        rotate_left
        ·show Act.put _ (some 51) _ = _
         exact nm_
        refine pure_ (i := 4) (N := some 52) (v := ?_) (a' := ?_) #[true, true, true, true, true] rfl rfl (by kernel_rfl) (fun _ _ _ h => h) (Or.inl ⟨by rfl, ?_⟩) ?_ ?_
        rotate_left
        ·intro w'
         go_simp
         with_reducible rfl
        rotate_left
        ·exact nm_
        refine done_ (by kernel_rfl) ?_
        try go_wp2
        have n0_ := am_ (Kd.R_drew HO_363001.out); have n1_ := am_ (Kd.R_drew HO_369001.out); have n2_ := am_ (Kd.R_drew HO374.out); have n3_ := am_ (blk_drew BK341.out); have n4_ := am_ (blk_drew BK342.out); have n5_ := am_ (blk_drew BK362.out); have n6_ := am_ (blk_drew BK368.out); have n7_ := am_ (below_drew1 HB.out); clear HO_363001 HO_369001 HO374 BK341 BK342 BK362 BK368 HB; have HO_363001 := n0_; have HO_369001 := n1_; have HO374 := n2_; have BK341 := n3_; have BK342 := n4_; have BK362 := n5_; have BK368 := n6_; have HB := n7_; clear n0_ n1_ n2_ n3_ n4_ n5_ n6_ n7_
        refine start_ (n := 5) (S := fun w' => w'.cell? ⟨gb368, 0, none⟩ = some (.int .i64 t363) ∧ w'.cell? ⟨gb368, 1, none⟩ = some (.slice Ao53 t364.length co53) ∧ w'.cell? ⟨gb368, 2, none⟩ = some (.int .i64 t367) ∧ w'.cell? ⟨gb342, 0, none⟩ = some (.int .i64 a1_0) ∧ w'.cell? ⟨gb342, 1, none⟩ = some (.slice A1_1 l1_1.length c1_1) ∧ w'.cell? ⟨gb342, 2, none⟩ = some (.int .i64 a1_2)) (ds := []) #[false, false, false, false, false] (by kernel_rfl) rfl rfl ⟨(blk_cell BK368.out 0).trans rfl, (blk_cell BK368.out 1).trans rfl, (blk_cell BK368.out 2).trans rfl, (blk_cell BK342.out 0).trans rfl, (blk_cell BK342.out 1).trans rfl, (blk_cell BK342.out 2).trans rfl⟩ (fun hHeld => ?_)
        generalize w67.drew = w68 at HO_363001 HO_369001 HO374 BK341 BK342 BK362 BK368 HB hHeld ⊢
        refine take_ (i := 0) (N := some 53) (v := ?_) (a' := ?_) #[true, false, false, false, false] rfl rfl (by kernel_rfl) (fun _ _ _ h => h) (Or.inl ⟨by rfl, ?_⟩) hHeld ?_ ?_
        rotate_left
        ·rintro w' ⟨s0, s1, s2, s3, s4, s5⟩
         go_simp
         with_reducible rfl
        rotate_left
        ·exact nm_
        refine take_ (i := 1) (N := some 54) (v := ?_) (a' := ?_) #[true, true, false, false, false] rfl rfl (by kernel_rfl) (fun _ _ _ h => h) (Or.inl ⟨by rfl, ?_⟩) hHeld ?_ ?_
        rotate_left
        ·rintro w' ⟨s0, s1, s2, s3, s4, s5⟩
         go_simp
         with_reducible rfl
        rotate_left
        ·exact nm_
        refine one_ (i := 2) (N := some 55) #[true, true, true, false, false] rfl rfl (by kernel_rfl) (by decide) (fun K hK => ?_)
        refine goes_ Tryd.func13 (by kernel_rfl) rfl #[.agg #[.int .i64 a1_0, .slice A1_1 l1_1.length c1_1, .int .i64 a1_2]] (by rfl) rfl rfl ma_ ?_
        with_reducible refine (laws_toDyadic.calls kj24 a1_0 _ _ l1_1 a1_2 t377 t378 t381 _ ?side1 ?side2 A61.out).mono ?_
        (case side1 => repeat (first | exact (Kd.C_below HR1_1.out HB.out) | (with_reducible refine Kd.C_alloc ?_ _) | (with_reducible refine Kd.C_drewN ?_ _) | (with_reducible refine Kd.C_drew ?_)))
        (case side2 => exact HC1_1.out)
        rintro e w69 ⟨v379, rfl, ho0, hb⟩
        refine ⟨_, rfl, ?_⟩
        have n0_ := am_ (Kd.R_elder' (kr_ HO_363001) (Kd.R_base ho0) hb); have n1_ := am_ (Kd.R_elder' (kr_ HO_369001) (Kd.R_base ho0) hb); have n2_ := am_ (Kd.R_elder' (kr_ HO374) (Kd.R_base ho0) hb); have n3_ := am_ (Kd.R_lower (Kd.R_new' (Kd.R_new' (Kd.R_new' ho0 (Kd.R_lt (kr_ HO_363001))) (Kd.R_lt (kr_ HO_369001))) (Kd.R_lt (kr_ HO374))) (below_size (bl_ HB))); have n4_ := am_ (blk_below (bk_ BK341) hb); have n5_ := am_ (blk_below (bk_ BK342) hb); have n6_ := am_ (blk_below (bk_ BK362) hb); have n7_ := am_ (blk_below (bk_ BK368) hb); have n8_ := am_ (below_step (bl_ HB) hb); clear HO_363001 HO_369001 HO374 BK341 BK342 BK362 BK368 HB; have HO_363001 := n0_; have HO_369001 := n1_; have HO374 := n2_; have HO380 := n3_; have BK341 := n4_; have BK342 := n5_; have BK362 := n6_; have BK368 := n7_; have HB := n8_; clear n0_ n1_ n2_ n3_ n4_ n5_ n6_ n7_ n8_; (try clear hb); (try clear hb2); (try clear hk); (try clear hi); (try clear ho0)
        obtain ⟨Ao70, co70, eo70⟩ := Kd.R_slice HO380.out
        (first | subst eo70 | (injection eo70 with f1_ f2_ f3_; have f4_ := f1_.symm; have f5_ := f3_.symm; clear f1_ f2_ f3_; subst f4_; subst f5_))
        refine hK.out _ _ ⟨(blk_cell BK368.out 0).trans rfl, (blk_cell BK368.out 1).trans rfl, (blk_cell BK368.out 2).trans rfl, (blk_cell BK342.out 0).trans rfl, (blk_cell BK342.out 1).trans rfl, (blk_cell BK342.out 2).trans rfl⟩ (fun hHeld => ?_)
        clear hK K
        refine norm_ (a' := ?_) ?_ ?_
        rotate_left
        ·show Act.put _ (some 55) _ = _
         exact nm_
        refine one_ (i := 3) (N := some 56) #[true, true, true, true, false] rfl rfl (by kernel_rfl) (by decide) (fun K hK => ?_)
        refine goes_ Tryd.func15 (by kernel_rfl) rfl #[.agg #[.int .i64 t363, .slice Ao53 t364.length co53, .int .i64 t367], .agg #[.int .i64 t377, .slice Ao70 t378.length co70, .int .i64 t381]] (by rfl) rfl rfl ma_ ?_
        with_reducible refine (laws_eqDyadic.calls kj24 t363 _ _ t364 t367 t377 _ _ t378 t381 true _ ?side1 ?side2 ?side3 ?side4 A62.out).mono ?_
        (case side1 => repeat (first | exact (Kd.R_reads' HO_369001.out).2.2 | (with_reducible refine Kd.C_alloc ?_ _) | (with_reducible refine Kd.C_drewN ?_ _) | (with_reducible refine Kd.C_drew ?_)))
        (case side2 => exact (Kd.R_reads' HO_369001.out).2.1)
        (case side3 => repeat (first | exact (Kd.R_reads' HO380.out).2.2 | (with_reducible refine Kd.C_alloc ?_ _) | (with_reducible refine Kd.C_drewN ?_ _) | (with_reducible refine Kd.C_drew ?_)))
        (case side4 => exact (Kd.R_reads' HO380.out).2.1)
        rintro e w71 ⟨rfl, hb⟩
        refine ⟨_, rfl, ?_⟩
        have n0_ := am_ (Kd.R_below (kr_ HO_363001) hb); have n1_ := am_ (Kd.R_below (kr_ HO_369001) hb); have n2_ := am_ (Kd.R_below (kr_ HO374) hb); have n3_ := am_ (Kd.R_below (kr_ HO380) hb); have n4_ := am_ (blk_below (bk_ BK341) hb); have n5_ := am_ (blk_below (bk_ BK342) hb); have n6_ := am_ (blk_below (bk_ BK362) hb); have n7_ := am_ (blk_below (bk_ BK368) hb); have n8_ := am_ (below_step (bl_ HB) hb); clear HO_363001 HO_369001 HO374 HO380 BK341 BK342 BK362 BK368 HB; have HO_363001 := n0_; have HO_369001 := n1_; have HO374 := n2_; have HO380 := n3_; have BK341 := n4_; have BK342 := n5_; have BK362 := n6_; have BK368 := n7_; have HB := n8_; clear n0_ n1_ n2_ n3_ n4_ n5_ n6_ n7_ n8_; (try clear hb); (try clear hb2); (try clear hk); (try clear hi)
        refine hK.out _ _ ⟨(blk_cell BK368.out 0).trans rfl, (blk_cell BK368.out 1).trans rfl, (blk_cell BK368.out 2).trans rfl, (blk_cell BK342.out 0).trans rfl, (blk_cell BK342.out 1).trans rfl, (blk_cell BK342.out 2).trans rfl⟩ (fun hHeld => ?_)
        clear hK K
        refine norm_ (a' := ?_) ?_ ?_
        rotate_left
        ·show Act.put _ (some 56) _ = _
         exact nm_
        refine pure_ (i := 4) (N := some 57) (v := ?_) (a' := ?_) #[true, true, true, true, true] rfl rfl (by kernel_rfl) (fun _ _ _ h => h) (Or.inl ⟨by rfl, ?_⟩) ?_ ?_
        rotate_left
        ·intro w'
         go_simp
         with_reducible rfl
        rotate_left
        ·exact nm_
        refine done_ (by kernel_rfl) ?_
        try go_wp2
        go_ret
        exact ⟨by first | rfl | (simp [errW_none, errW_some] <;> rfl) | (simp [*, errW_none, errW_some] <;> rfl), bl_ HB⟩
       ·replace c63 := Bool.eq_false_iff.mpr c63
        subst c63
        have H1 : (some false) = some r := by rw [if_neg (show ¬ (false = true) by decide)] at H; exact H
        clear H; have H := H1; clear H1; obtain rfl := Option.some.inj H
        try go_wp2
        have n0_ := am_ (Kd.R_drew HO_363001.out); have n1_ := am_ (Kd.R_drew HO_369001.out); have n2_ := am_ (blk_drew BK341.out); have n3_ := am_ (blk_drew BK342.out); have n4_ := am_ (blk_drew BK362.out); have n5_ := am_ (blk_drew BK368.out); have n6_ := am_ (below_drew1 HB.out); clear HO_363001 HO_369001 BK341 BK342 BK362 BK368 HB; have HO_363001 := n0_; have HO_369001 := n1_; have BK341 := n2_; have BK342 := n3_; have BK362 := n4_; have BK368 := n5_; have HB := n6_; clear n0_ n1_ n2_ n3_ n4_ n5_ n6_
        refine start_ (n := 5) (S := fun w' => w'.cell? ⟨gb362, 0, none⟩ = some (.int .i64 t357) ∧ w'.cell? ⟨gb362, 1, none⟩ = some (.slice Ao45 t358.length co45) ∧ w'.cell? ⟨gb362, 2, none⟩ = some (.int .i64 t361) ∧ w'.cell? ⟨gb341, 0, none⟩ = some (.int .i64 a0_0) ∧ w'.cell? ⟨gb341, 1, none⟩ = some (.slice A0_1 l0_1.length c0_1) ∧ w'.cell? ⟨gb341, 2, none⟩ = some (.int .i64 a0_2)) (ds := []) #[false, false, false, false, false] (by kernel_rfl) rfl rfl ⟨(blk_cell BK362.out 0).trans rfl, (blk_cell BK362.out 1).trans rfl, (blk_cell BK362.out 2).trans rfl, (blk_cell BK341.out 0).trans rfl, (blk_cell BK341.out 1).trans rfl, (blk_cell BK341.out 2).trans rfl⟩ (fun hHeld => ?_)
        generalize wc.drew = w72 at HO_363001 HO_369001 BK341 BK342 BK362 BK368 HB hHeld ⊢
        refine take_ (i := 0) (N := some 48) (v := ?_) (a' := ?_) #[true, false, false, false, false] rfl rfl (by kernel_rfl) (fun _ _ _ h => h) (Or.inl ⟨by rfl, ?_⟩) hHeld ?_ ?_
        rotate_left
        ·rintro w' ⟨s0, s1, s2, s3, s4, s5⟩
         go_simp
         with_reducible rfl
        rotate_left
        ·exact nm_
        refine take_ (i := 1) (N := some 49) (v := ?_) (a' := ?_) #[true, true, false, false, false] rfl rfl (by kernel_rfl) (fun _ _ _ h => h) (Or.inl ⟨by rfl, ?_⟩) hHeld ?_ ?_
        rotate_left
        ·rintro w' ⟨s0, s1, s2, s3, s4, s5⟩
         go_simp
         with_reducible rfl
        rotate_left
        ·exact nm_
        refine one_ (i := 2) (N := some 50) #[true, true, true, false, false] rfl rfl (by kernel_rfl) (by decide) (fun K hK => ?_)
        refine goes_ Tryd.func13 (by kernel_rfl) rfl #[.agg #[.int .i64 a0_0, .slice A0_1 l0_1.length c0_1, .int .i64 a0_2]] (by rfl) rfl rfl ma_ ?_
        with_reducible refine (laws_toDyadic.calls kj24 a0_0 _ _ l0_1 a0_2 t371 t372 t375 _ ?side1 ?side2 A58.out).mono ?_
        (case side1 => repeat (first | exact (Kd.C_below HR0_1.out HB.out) | (with_reducible refine Kd.C_alloc ?_ _) | (with_reducible refine Kd.C_drewN ?_ _) | (with_reducible refine Kd.C_drew ?_)))
        (case side2 => exact HC0_1.out)
        rintro e w73 ⟨v373, rfl, ho0, hb⟩
        refine ⟨_, rfl, ?_⟩
        have n0_ := am_ (Kd.R_elder' (kr_ HO_363001) (Kd.R_base ho0) hb); have n1_ := am_ (Kd.R_elder' (kr_ HO_369001) (Kd.R_base ho0) hb); have n2_ := am_ (Kd.R_lower (Kd.R_new' (Kd.R_new' ho0 (Kd.R_lt (kr_ HO_363001))) (Kd.R_lt (kr_ HO_369001))) (below_size (bl_ HB))); have n3_ := am_ (blk_below (bk_ BK341) hb); have n4_ := am_ (blk_below (bk_ BK342) hb); have n5_ := am_ (blk_below (bk_ BK362) hb); have n6_ := am_ (blk_below (bk_ BK368) hb); have n7_ := am_ (below_step (bl_ HB) hb); clear HO_363001 HO_369001 BK341 BK342 BK362 BK368 HB; have HO_363001 := n0_; have HO_369001 := n1_; have HO374 := n2_; have BK341 := n3_; have BK342 := n4_; have BK362 := n5_; have BK368 := n6_; have HB := n7_; clear n0_ n1_ n2_ n3_ n4_ n5_ n6_ n7_; (try clear hb); (try clear hb2); (try clear hk); (try clear hi); (try clear ho0)
        obtain ⟨Ao74, co74, eo74⟩ := Kd.R_slice HO374.out
        (first | subst eo74 | (injection eo74 with f1_ f2_ f3_; have f4_ := f1_.symm; have f5_ := f3_.symm; clear f1_ f2_ f3_; subst f4_; subst f5_))
        refine hK.out _ _ ⟨(blk_cell BK362.out 0).trans rfl, (blk_cell BK362.out 1).trans rfl, (blk_cell BK362.out 2).trans rfl, (blk_cell BK341.out 0).trans rfl, (blk_cell BK341.out 1).trans rfl, (blk_cell BK341.out 2).trans rfl⟩ (fun hHeld => ?_)
        clear hK K
        refine norm_ (a' := ?_) ?_ ?_
        rotate_left
        ·show Act.put _ (some 50) _ = _
         exact nm_
        refine one_ (i := 3) (N := some 51) #[true, true, true, true, false] rfl rfl (by kernel_rfl) (by decide) (fun K hK => ?_)
        refine goes_ Tryd.func15 (by kernel_rfl) rfl #[.agg #[.int .i64 t357, .slice Ao45 t358.length co45, .int .i64 t361], .agg #[.int .i64 t371, .slice Ao74 t372.length co74, .int .i64 t375]] (by rfl) rfl rfl ma_ ?_
        with_reducible refine (laws_eqDyadic.calls kj24 t357 _ _ t358 t361 t371 _ _ t372 t375 true _ ?side1 ?side2 ?side3 ?side4 A59.out).mono ?_
        (case side1 => repeat (first | exact (Kd.R_reads' HO_363001.out).2.2 | (with_reducible refine Kd.C_alloc ?_ _) | (with_reducible refine Kd.C_drewN ?_ _) | (with_reducible refine Kd.C_drew ?_)))
        (case side2 => exact (Kd.R_reads' HO_363001.out).2.1)
        (case side3 => repeat (first | exact (Kd.R_reads' HO374.out).2.2 | (with_reducible refine Kd.C_alloc ?_ _) | (with_reducible refine Kd.C_drewN ?_ _) | (with_reducible refine Kd.C_drew ?_)))
        (case side4 => exact (Kd.R_reads' HO374.out).2.1)
        rintro e w75 ⟨rfl, hb⟩
        refine ⟨_, rfl, ?_⟩
        have n0_ := am_ (Kd.R_below (kr_ HO_363001) hb); have n1_ := am_ (Kd.R_below (kr_ HO_369001) hb); have n2_ := am_ (Kd.R_below (kr_ HO374) hb); have n3_ := am_ (blk_below (bk_ BK341) hb); have n4_ := am_ (blk_below (bk_ BK342) hb); have n5_ := am_ (blk_below (bk_ BK362) hb); have n6_ := am_ (blk_below (bk_ BK368) hb); have n7_ := am_ (below_step (bl_ HB) hb); clear HO_363001 HO_369001 HO374 BK341 BK342 BK362 BK368 HB; have HO_363001 := n0_; have HO_369001 := n1_; have HO374 := n2_; have BK341 := n3_; have BK342 := n4_; have BK362 := n5_; have BK368 := n6_; have HB := n7_; clear n0_ n1_ n2_ n3_ n4_ n5_ n6_ n7_; (try clear hb); (try clear hb2); (try clear hk); (try clear hi)
        refine hK.out _ _ ⟨(blk_cell BK362.out 0).trans rfl, (blk_cell BK362.out 1).trans rfl, (blk_cell BK362.out 2).trans rfl, (blk_cell BK341.out 0).trans rfl, (blk_cell BK341.out 1).trans rfl, (blk_cell BK341.out 2).trans rfl⟩ (fun hHeld => ?_)
        clear hK K
        refine norm_ (a' := ?_) ?_ ?_
        rotate_left
        ·show Act.put _ (some 51) _ = _
         exact nm_
        refine pure_ (i := 4) (N := some 52) (v := ?_) (a' := ?_) #[true, true, true, true, true] rfl rfl (by kernel_rfl) (fun _ _ _ h => h) (Or.inl ⟨by rfl, ?_⟩) ?_ ?_
        rotate_left
        ·intro w'
         go_simp
         with_reducible rfl
        rotate_left
        ·exact nm_
        refine done_ (by kernel_rfl) ?_
        try go_wp2
        have n0_ := am_ (Kd.R_drew HO_363001.out); have n1_ := am_ (Kd.R_drew HO_369001.out); have n2_ := am_ (Kd.R_drew HO374.out); have n3_ := am_ (blk_drew BK341.out); have n4_ := am_ (blk_drew BK342.out); have n5_ := am_ (blk_drew BK362.out); have n6_ := am_ (blk_drew BK368.out); have n7_ := am_ (below_drew1 HB.out); clear HO_363001 HO_369001 HO374 BK341 BK342 BK362 BK368 HB; have HO_363001 := n0_; have HO_369001 := n1_; have HO374 := n2_; have BK341 := n3_; have BK342 := n4_; have BK362 := n5_; have BK368 := n6_; have HB := n7_; clear n0_ n1_ n2_ n3_ n4_ n5_ n6_ n7_
        refine start_ (n := 5) (S := fun w' => w'.cell? ⟨gb368, 0, none⟩ = some (.int .i64 t363) ∧ w'.cell? ⟨gb368, 1, none⟩ = some (.slice Ao53 t364.length co53) ∧ w'.cell? ⟨gb368, 2, none⟩ = some (.int .i64 t367) ∧ w'.cell? ⟨gb342, 0, none⟩ = some (.int .i64 a1_0) ∧ w'.cell? ⟨gb342, 1, none⟩ = some (.slice A1_1 l1_1.length c1_1) ∧ w'.cell? ⟨gb342, 2, none⟩ = some (.int .i64 a1_2)) (ds := []) #[false, false, false, false, false] (by kernel_rfl) rfl rfl ⟨(blk_cell BK368.out 0).trans rfl, (blk_cell BK368.out 1).trans rfl, (blk_cell BK368.out 2).trans rfl, (blk_cell BK342.out 0).trans rfl, (blk_cell BK342.out 1).trans rfl, (blk_cell BK342.out 2).trans rfl⟩ (fun hHeld => ?_)
        generalize w75.drew = w76 at HO_363001 HO_369001 HO374 BK341 BK342 BK362 BK368 HB hHeld ⊢
        refine take_ (i := 0) (N := some 53) (v := ?_) (a' := ?_) #[true, false, false, false, false] rfl rfl (by kernel_rfl) (fun _ _ _ h => h) (Or.inl ⟨by rfl, ?_⟩) hHeld ?_ ?_
        rotate_left
        ·rintro w' ⟨s0, s1, s2, s3, s4, s5⟩
         go_simp
         with_reducible rfl
        rotate_left
        ·exact nm_
        refine take_ (i := 1) (N := some 54) (v := ?_) (a' := ?_) #[true, true, false, false, false] rfl rfl (by kernel_rfl) (fun _ _ _ h => h) (Or.inl ⟨by rfl, ?_⟩) hHeld ?_ ?_
        rotate_left
        ·rintro w' ⟨s0, s1, s2, s3, s4, s5⟩
         go_simp
         with_reducible rfl
        rotate_left
        ·exact nm_
        refine one_ (i := 2) (N := some 55) #[true, true, true, false, false] rfl rfl (by kernel_rfl) (by decide) (fun K hK => ?_)
        refine goes_ Tryd.func13 (by kernel_rfl) rfl #[.agg #[.int .i64 a1_0, .slice A1_1 l1_1.length c1_1, .int .i64 a1_2]] (by rfl) rfl rfl ma_ ?_
        with_reducible refine (laws_toDyadic.calls kj24 a1_0 _ _ l1_1 a1_2 t377 t378 t381 _ ?side1 ?side2 A61.out).mono ?_
        (case side1 => repeat (first | exact (Kd.C_below HR1_1.out HB.out) | (with_reducible refine Kd.C_alloc ?_ _) | (with_reducible refine Kd.C_drewN ?_ _) | (with_reducible refine Kd.C_drew ?_)))
        (case side2 => exact HC1_1.out)
        rintro e w77 ⟨v379, rfl, ho0, hb⟩
        refine ⟨_, rfl, ?_⟩
        have n0_ := am_ (Kd.R_elder' (kr_ HO_363001) (Kd.R_base ho0) hb); have n1_ := am_ (Kd.R_elder' (kr_ HO_369001) (Kd.R_base ho0) hb); have n2_ := am_ (Kd.R_elder' (kr_ HO374) (Kd.R_base ho0) hb); have n3_ := am_ (Kd.R_lower (Kd.R_new' (Kd.R_new' (Kd.R_new' ho0 (Kd.R_lt (kr_ HO_363001))) (Kd.R_lt (kr_ HO_369001))) (Kd.R_lt (kr_ HO374))) (below_size (bl_ HB))); have n4_ := am_ (blk_below (bk_ BK341) hb); have n5_ := am_ (blk_below (bk_ BK342) hb); have n6_ := am_ (blk_below (bk_ BK362) hb); have n7_ := am_ (blk_below (bk_ BK368) hb); have n8_ := am_ (below_step (bl_ HB) hb); clear HO_363001 HO_369001 HO374 BK341 BK342 BK362 BK368 HB; have HO_363001 := n0_; have HO_369001 := n1_; have HO374 := n2_; have HO380 := n3_; have BK341 := n4_; have BK342 := n5_; have BK362 := n6_; have BK368 := n7_; have HB := n8_; clear n0_ n1_ n2_ n3_ n4_ n5_ n6_ n7_ n8_; (try clear hb); (try clear hb2); (try clear hk); (try clear hi); (try clear ho0)
        obtain ⟨Ao78, co78, eo78⟩ := Kd.R_slice HO380.out
        (first | subst eo78 | (injection eo78 with f1_ f2_ f3_; have f4_ := f1_.symm; have f5_ := f3_.symm; clear f1_ f2_ f3_; subst f4_; subst f5_))
        refine hK.out _ _ ⟨(blk_cell BK368.out 0).trans rfl, (blk_cell BK368.out 1).trans rfl, (blk_cell BK368.out 2).trans rfl, (blk_cell BK342.out 0).trans rfl, (blk_cell BK342.out 1).trans rfl, (blk_cell BK342.out 2).trans rfl⟩ (fun hHeld => ?_)
        clear hK K
        refine norm_ (a' := ?_) ?_ ?_
        rotate_left
        ·show Act.put _ (some 55) _ = _
         exact nm_
        refine one_ (i := 3) (N := some 56) #[true, true, true, true, false] rfl rfl (by kernel_rfl) (by decide) (fun K hK => ?_)
        refine goes_ Tryd.func15 (by kernel_rfl) rfl #[.agg #[.int .i64 t363, .slice Ao53 t364.length co53, .int .i64 t367], .agg #[.int .i64 t377, .slice Ao78 t378.length co78, .int .i64 t381]] (by rfl) rfl rfl ma_ ?_
        with_reducible refine (laws_eqDyadic.calls kj24 t363 _ _ t364 t367 t377 _ _ t378 t381 false _ ?side1 ?side2 ?side3 ?side4 A62.out).mono ?_
        (case side1 => repeat (first | exact (Kd.R_reads' HO_369001.out).2.2 | (with_reducible refine Kd.C_alloc ?_ _) | (with_reducible refine Kd.C_drewN ?_ _) | (with_reducible refine Kd.C_drew ?_)))
        (case side2 => exact (Kd.R_reads' HO_369001.out).2.1)
        (case side3 => repeat (first | exact (Kd.R_reads' HO380.out).2.2 | (with_reducible refine Kd.C_alloc ?_ _) | (with_reducible refine Kd.C_drewN ?_ _) | (with_reducible refine Kd.C_drew ?_)))
        (case side4 => exact (Kd.R_reads' HO380.out).2.1)
        rintro e w79 ⟨rfl, hb⟩
        refine ⟨_, rfl, ?_⟩
        have n0_ := am_ (Kd.R_below (kr_ HO_363001) hb); have n1_ := am_ (Kd.R_below (kr_ HO_369001) hb); have n2_ := am_ (Kd.R_below (kr_ HO374) hb); have n3_ := am_ (Kd.R_below (kr_ HO380) hb); have n4_ := am_ (blk_below (bk_ BK341) hb); have n5_ := am_ (blk_below (bk_ BK342) hb); have n6_ := am_ (blk_below (bk_ BK362) hb); have n7_ := am_ (blk_below (bk_ BK368) hb); have n8_ := am_ (below_step (bl_ HB) hb); clear HO_363001 HO_369001 HO374 HO380 BK341 BK342 BK362 BK368 HB; have HO_363001 := n0_; have HO_369001 := n1_; have HO374 := n2_; have HO380 := n3_; have BK341 := n4_; have BK342 := n5_; have BK362 := n6_; have BK368 := n7_; have HB := n8_; clear n0_ n1_ n2_ n3_ n4_ n5_ n6_ n7_ n8_; (try clear hb); (try clear hb2); (try clear hk); (try clear hi)
        refine hK.out _ _ ⟨(blk_cell BK368.out 0).trans rfl, (blk_cell BK368.out 1).trans rfl, (blk_cell BK368.out 2).trans rfl, (blk_cell BK342.out 0).trans rfl, (blk_cell BK342.out 1).trans rfl, (blk_cell BK342.out 2).trans rfl⟩ (fun hHeld => ?_)
        clear hK K
        refine norm_ (a' := ?_) ?_ ?_
        rotate_left
        ·show Act.put _ (some 56) _ = _
         exact nm_
        refine pure_ (i := 4) (N := some 57) (v := ?_) (a' := ?_) #[true, true, true, true, true] rfl rfl (by kernel_rfl) (fun _ _ _ h => h) (Or.inl ⟨by rfl, ?_⟩) ?_ ?_
        rotate_left
        ·intro w'
         go_simp
         with_reducible rfl
        rotate_left
        ·exact nm_
        refine done_ (by kernel_rfl) ?_
        try go_wp2
        go_ret
        exact ⟨by first | rfl | (simp [errW_none, errW_some] <;> rfl) | (simp [*, errW_none, errW_some] <;> rfl), bl_ HB⟩
      ·replace c60 := Bool.eq_false_iff.mpr c60
       subst c60
       have H1 : (some false) = some r := by rw [if_neg (show ¬ (false = true) by decide)] at H; exact H
       clear H; have H := H1; clear H1; obtain rfl := Option.some.inj H
       try go_wp2
       have n0_ := am_ (Kd.R_drew HO_363001.out); have n1_ := am_ (Kd.R_drew HO_369001.out); have n2_ := am_ (blk_drew BK341.out); have n3_ := am_ (blk_drew BK342.out); have n4_ := am_ (blk_drew BK362.out); have n5_ := am_ (blk_drew BK368.out); have n6_ := am_ (below_drew1 HB.out); clear HO_363001 HO_369001 BK341 BK342 BK362 BK368 HB; have HO_363001 := n0_; have HO_369001 := n1_; have BK341 := n2_; have BK342 := n3_; have BK362 := n4_; have BK368 := n5_; have HB := n6_; clear n0_ n1_ n2_ n3_ n4_ n5_ n6_
       refine start_ (n := 5) (S := fun w' => w'.cell? ⟨gb362, 0, none⟩ = some (.int .i64 t357) ∧ w'.cell? ⟨gb362, 1, none⟩ = some (.slice Ao45 t358.length co45) ∧ w'.cell? ⟨gb362, 2, none⟩ = some (.int .i64 t361) ∧ w'.cell? ⟨gb341, 0, none⟩ = some (.int .i64 a0_0) ∧ w'.cell? ⟨gb341, 1, none⟩ = some (.slice A0_1 l0_1.length c0_1) ∧ w'.cell? ⟨gb341, 2, none⟩ = some (.int .i64 a0_2)) (ds := []) #[false, false, false, false, false] (by kernel_rfl) rfl rfl ⟨(blk_cell BK362.out 0).trans rfl, (blk_cell BK362.out 1).trans rfl, (blk_cell BK362.out 2).trans rfl, (blk_cell BK341.out 0).trans rfl, (blk_cell BK341.out 1).trans rfl, (blk_cell BK341.out 2).trans rfl⟩ (fun hHeld => ?_)
       generalize wc.drew = w80 at HO_363001 HO_369001 BK341 BK342 BK362 BK368 HB hHeld ⊢
       refine take_ (i := 0) (N := some 48) (v := ?_) (a' := ?_) #[true, false, false, false, false] rfl rfl (by kernel_rfl) (fun _ _ _ h => h) (Or.inl ⟨by rfl, ?_⟩) hHeld ?_ ?_
       rotate_left
       ·rintro w' ⟨s0, s1, s2, s3, s4, s5⟩
        go_simp
        with_reducible rfl
       rotate_left
       ·exact nm_
       refine take_ (i := 1) (N := some 49) (v := ?_) (a' := ?_) #[true, true, false, false, false] rfl rfl (by kernel_rfl) (fun _ _ _ h => h) (Or.inl ⟨by rfl, ?_⟩) hHeld ?_ ?_
       rotate_left
       ·rintro w' ⟨s0, s1, s2, s3, s4, s5⟩
        go_simp
        with_reducible rfl
       rotate_left
       ·exact nm_
       refine one_ (i := 2) (N := some 50) #[true, true, true, false, false] rfl rfl (by kernel_rfl) (by decide) (fun K hK => ?_)
       refine goes_ Tryd.func13 (by kernel_rfl) rfl #[.agg #[.int .i64 a0_0, .slice A0_1 l0_1.length c0_1, .int .i64 a0_2]] (by rfl) rfl rfl ma_ ?_
       with_reducible refine (laws_toDyadic.calls kj24 a0_0 _ _ l0_1 a0_2 t371 t372 t375 _ ?side1 ?side2 A58.out).mono ?_
       (case side1 => repeat (first | exact (Kd.C_below HR0_1.out HB.out) | (with_reducible refine Kd.C_alloc ?_ _) | (with_reducible refine Kd.C_drewN ?_ _) | (with_reducible refine Kd.C_drew ?_)))
       (case side2 => exact HC0_1.out)
       rintro e w81 ⟨v373, rfl, ho0, hb⟩
       refine ⟨_, rfl, ?_⟩
       have n0_ := am_ (Kd.R_elder' (kr_ HO_363001) (Kd.R_base ho0) hb); have n1_ := am_ (Kd.R_elder' (kr_ HO_369001) (Kd.R_base ho0) hb); have n2_ := am_ (Kd.R_lower (Kd.R_new' (Kd.R_new' ho0 (Kd.R_lt (kr_ HO_363001))) (Kd.R_lt (kr_ HO_369001))) (below_size (bl_ HB))); have n3_ := am_ (blk_below (bk_ BK341) hb); have n4_ := am_ (blk_below (bk_ BK342) hb); have n5_ := am_ (blk_below (bk_ BK362) hb); have n6_ := am_ (blk_below (bk_ BK368) hb); have n7_ := am_ (below_step (bl_ HB) hb); clear HO_363001 HO_369001 BK341 BK342 BK362 BK368 HB; have HO_363001 := n0_; have HO_369001 := n1_; have HO374 := n2_; have BK341 := n3_; have BK342 := n4_; have BK362 := n5_; have BK368 := n6_; have HB := n7_; clear n0_ n1_ n2_ n3_ n4_ n5_ n6_ n7_; (try clear hb); (try clear hb2); (try clear hk); (try clear hi); (try clear ho0)
       obtain ⟨Ao82, co82, eo82⟩ := Kd.R_slice HO374.out
       (first | subst eo82 | (injection eo82 with f1_ f2_ f3_; have f4_ := f1_.symm; have f5_ := f3_.symm; clear f1_ f2_ f3_; subst f4_; subst f5_))
       refine hK.out _ _ ⟨(blk_cell BK362.out 0).trans rfl, (blk_cell BK362.out 1).trans rfl, (blk_cell BK362.out 2).trans rfl, (blk_cell BK341.out 0).trans rfl, (blk_cell BK341.out 1).trans rfl, (blk_cell BK341.out 2).trans rfl⟩ (fun hHeld => ?_)
       clear hK K
       refine norm_ (a' := ?_) ?_ ?_
       rotate_left
       ·show Act.put _ (some 50) _ = _
        exact nm_
       refine one_ (i := 3) (N := some 51) #[true, true, true, true, false] rfl rfl (by kernel_rfl) (by decide) (fun K hK => ?_)
       refine goes_ Tryd.func15 (by kernel_rfl) rfl #[.agg #[.int .i64 t357, .slice Ao45 t358.length co45, .int .i64 t361], .agg #[.int .i64 t371, .slice Ao82 t372.length co82, .int .i64 t375]] (by rfl) rfl rfl ma_ ?_
       with_reducible refine (laws_eqDyadic.calls kj24 t357 _ _ t358 t361 t371 _ _ t372 t375 false _ ?side1 ?side2 ?side3 ?side4 A59.out).mono ?_
       (case side1 => repeat (first | exact (Kd.R_reads' HO_363001.out).2.2 | (with_reducible refine Kd.C_alloc ?_ _) | (with_reducible refine Kd.C_drewN ?_ _) | (with_reducible refine Kd.C_drew ?_)))
       (case side2 => exact (Kd.R_reads' HO_363001.out).2.1)
       (case side3 => repeat (first | exact (Kd.R_reads' HO374.out).2.2 | (with_reducible refine Kd.C_alloc ?_ _) | (with_reducible refine Kd.C_drewN ?_ _) | (with_reducible refine Kd.C_drew ?_)))
       (case side4 => exact (Kd.R_reads' HO374.out).2.1)
       rintro e w83 ⟨rfl, hb⟩
       refine ⟨_, rfl, ?_⟩
       have n0_ := am_ (Kd.R_below (kr_ HO_363001) hb); have n1_ := am_ (Kd.R_below (kr_ HO_369001) hb); have n2_ := am_ (Kd.R_below (kr_ HO374) hb); have n3_ := am_ (blk_below (bk_ BK341) hb); have n4_ := am_ (blk_below (bk_ BK342) hb); have n5_ := am_ (blk_below (bk_ BK362) hb); have n6_ := am_ (blk_below (bk_ BK368) hb); have n7_ := am_ (below_step (bl_ HB) hb); clear HO_363001 HO_369001 HO374 BK341 BK342 BK362 BK368 HB; have HO_363001 := n0_; have HO_369001 := n1_; have HO374 := n2_; have BK341 := n3_; have BK342 := n4_; have BK362 := n5_; have BK368 := n6_; have HB := n7_; clear n0_ n1_ n2_ n3_ n4_ n5_ n6_ n7_; (try clear hb); (try clear hb2); (try clear hk); (try clear hi)
       refine hK.out _ _ ⟨(blk_cell BK362.out 0).trans rfl, (blk_cell BK362.out 1).trans rfl, (blk_cell BK362.out 2).trans rfl, (blk_cell BK341.out 0).trans rfl, (blk_cell BK341.out 1).trans rfl, (blk_cell BK341.out 2).trans rfl⟩ (fun hHeld => ?_)
       clear hK K
       refine norm_ (a' := ?_) ?_ ?_
       rotate_left
       ·show Act.put _ (some 51) _ = _
        exact nm_
       refine pure_ (i := 4) (N := some 52) (v := ?_) (a' := ?_) #[true, true, true, true, true] rfl rfl (by kernel_rfl) (fun _ _ _ h => h) (Or.inl ⟨by rfl, ?_⟩) ?_ ?_
       rotate_left
       ·intro w'
        go_simp
        with_reducible rfl
       rotate_left
       ·exact nm_
       refine done_ (by kernel_rfl) ?_
       try go_wp2
       go_ret
       exact ⟨by first | rfl | (simp [errW_none, errW_some] <;> rfl) | (simp [*, errW_none, errW_some] <;> rfl), bl_ HB⟩

end Go.Proofs.YthddlechoibdkaaDoor.X
