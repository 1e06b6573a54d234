/- Functions of the program as plain Lean functions, each with a proof that its call does what that function says. Printed by a program over the kit's print; conditions stand in each contract. -/
import Derived.Test.YtghhphndbbefjaaDoorG10
import Derived.Test.YtghhphndbbefjaaDoorG15
import Derived.Test.YtghhphndbbefjaaDoorX3
import Derived.Test.YtghhphndbbefjaaDoorG16
import Derived.Test.YtghhphndbbefjaaDoorProg
import Derived.Below
import Derived.Deep.Draws
import Derived.Deep.AppendLies
import Derived.Maps.AppendAt
import Derived.OwnWalk
import Derived.Laws.BytesArg
import Derived.Laws.MakeOwn
import Derived.Laws.OwnMore
import Derived.Deep.OwnRows
import Derived.Tactics
import Derived.Lib.ConvBytes
import Derived.Laws.Slices
import Derived.WalkKit
import Derived.KernelRfl
import Derived.RowKit3
import Derived.Deep.LoopGhost
import Derived.Deep.QuietTactic
import Derived.BigQuiet
import Derived.WideLaws
import Derived.Deep.DeepCutAuto
import Derived.Deep.CutBlock
import Derived.Deep.RegionHeld3
import Derived.Laws.Rows
import Derived.Lib.AppendStr
import Derived.ArgAppend
import Derived.Laws.IdiomCopy
import Derived.OrdersHeld
import Derived.Laws.BitsLemmas
import Derived.RowKit
import Derived.Test.YtghhphndbbefjaaDoorWWords
import Derived.Test.YtghhphndbbefjaaDoorWLast
import Derived.Test.YtghhphndbbefjaaDoorG2
import Derived.Test.YtghhphndbbefjaaDoorWArr
import Derived.Test.YtghhphndbbefjaaDoorG4
import Derived.Test.YtghhphndbbefjaaDoorWEqStruct
import Derived.Test.YtghhphndbbefjaaDoorWRepsOne
import Derived.Test.YtghhphndbbefjaaDoorG13
import Derived.Test.YtghhphndbbefjaaDoorWGuard
namespace Go.Proofs.YtghhphndbbefjaaDoor.X
open Go.RowKit Go.Proofs.YtghhphndbbefjaaDoorW.PrintWords Go.Proofs.YtghhphndbbefjaaDoorW.PrintLast Go.Proofs.YtghhphndbbefjaaDoorW.PrintMore Go.Proofs.YtghhphndbbefjaaDoor.Sq
attribute [local go_sem] max2_int min2_int max_two min_two max_three min_three max_four min_four   -- for this text's walks alone
set_option linter.unusedVariables false
set_option linter.unusedSimpArgs false
def spec_l02Add.f (k : Nat) (a0_0 : Int) (l0_1 : List Int) (a1_0 : Int) (l1_1 : List Int) : Option (Int × List Int) := if a0_0 = 0 then ((spec_l02Make.f k a1_0 l1_1).bind fun bt298 => (some (bt298.1, bt298.2))) else (if a1_0 = 0 then ((spec_l02Make.f k a0_0 l0_1).bind fun bt302 => (some (bt302.1, bt302.2))) else (if a0_0 = a1_0 then ((spec_l02Plus.f k l0_1 l1_1).bind fun t306 => ((spec_l02Make.f k a0_0 t306).bind fun bt309 => (some (bt309.1, bt309.2)))) else ((spec_l02CompareLimbs.f k l0_1 l1_1).bind fun t313 => (if t313 ≥ 0 then ((spec_l02Minus.f k l0_1 l1_1).bind fun t314 => ((spec_l02Make.f k a0_0 t314).bind fun bt317 => (some (bt317.1, bt317.2)))) else ((spec_l02Minus.f k l1_1 l0_1).bind fun t321 => ((spec_l02Make.f k a1_0 t321).bind fun bt324 => (some (bt324.1, bt324.2))))))))
theorem spec_l02Add.mono : ∀ a0 a1 a2 a3 k, LeO (spec_l02Add.f k a0 a1 a2 a3) (spec_l02Add.f (k + 1) a0 a1 a2 a3) := by
  intro a0 a1 a2 a3 k
  unfold spec_l02Add.f
  repeat' first
      | (with_reducible exact spec_l02CompareLimbs.mono _ _ _)
      | (with_reducible exact spec_l02Make.mono _ _ _)
      | (with_reducible exact spec_l02Minus.mono _ _ _)
      | (with_reducible exact spec_l02Plus.mono _ _ _)
      | (with_reducible exact LeO.refl _)
      | (with_reducible exact LeO.none _)
      | (with_reducible refine LeO.ite ?_ ?_)
      | (with_reducible refine LeO.bind ?_ (fun _ => ?_))
      | exact spec_l02CompareLimbs.mono _ _ _
      | exact spec_l02Make.mono _ _ _
      | exact spec_l02Minus.mono _ _ _
      | exact spec_l02Plus.mono _ _ _
      | exact LeO.none _
      | refine LeO.ite ?_ ?_
      | refine LeO.bind ?_ (fun _ => ?_)
def spec_l02Add.T6 : Bool × List (List Nat × List Nat) := (true, [([], []), ([0], [0]), ([], []), ([2], [2]), ([], []), ([4], [4]), ([3, 5], [3, 5]), ([1, 6, 6], [1, 6]), ([7, 7, 0, 1, 2, 3, 4, 5, 6, 7], [7])])
def spec_l02Add.B6 : List Nat := [0, 1, 0, 4, 0, 16, 60, 127, 255]
theorem spec_l02Add.tab6 : rtab .any (opsOf Tryd.f105 6) = spec_l02Add.T6 := by kernel_rfl
theorem spec_l02Add.bits6 : waitsOk spec_l02Add.T6.2 spec_l02Add.B6 = true := by kernel_rfl
def spec_l02Add.T8 : Bool × List (List Nat × List Nat) := (true, [([], []), ([0], [0]), ([], []), ([2], [2]), ([], []), ([4], [4]), ([3, 5], [3, 5]), ([1, 6, 6], [1, 6]), ([7, 7, 0, 1, 2, 3, 4, 5, 6, 7], [7])])
def spec_l02Add.B8 : List Nat := [0, 1, 0, 4, 0, 16, 60, 127, 255]
theorem spec_l02Add.tab8 : rtab .any (opsOf Tryd.f105 8) = spec_l02Add.T8 := by kernel_rfl
theorem spec_l02Add.bits8 : waitsOk spec_l02Add.T8.2 spec_l02Add.B8 = true := by kernel_rfl
def spec_l02Add.T9 : Bool × List (List Nat × List Nat) := (true, [([], []), ([0], [0]), ([], []), ([2], [2]), ([], []), ([4], [4]), ([3, 5], [3, 5]), ([1, 6, 6], [1, 6]), ([7, 7, 0, 1, 2, 3, 4, 5, 6, 7], [7])])
def spec_l02Add.B9 : List Nat := [0, 1, 0, 4, 0, 16, 60, 127, 255]
theorem spec_l02Add.tab9 : rtab .any (opsOf Tryd.f105 9) = spec_l02Add.T9 := by kernel_rfl
theorem spec_l02Add.bits9 : waitsOk spec_l02Add.T9.2 spec_l02Add.B9 = true := by kernel_rfl
set_option maxHeartbeats 8000000 in
set_option maxRecDepth 100000 in
theorem spec_l02Add.calls (k : Nat) (a0_0 : Int) (A0_1 : Option Addr) (c0_1 : Nat) (l0_1 : List Int) (a1_0 : Int) (A1_1 : Option Addr) (c1_1 : Nat) (l1_1 : List Int) (r1 : Int) (r2 : List Int) (w : World) (hr0_1 : Kd.C (Kd.int .i64) w A0_1 l0_1.length l0_1) (hc0_1 : l0_1.length ≤ c0_1) (hr1_1 : Kd.C (Kd.int .i64) w A1_1 l1_1.length l1_1) (hc1_1 : l1_1.length ≤ c1_1) (h : spec_l02Add.f k a0_0 l0_1 a1_0 l1_1 = some (r1, r2)) :
  Calls Tryd.prog 105 #[.agg #[.int .i64 a0_0, .slice A0_1 l0_1.length c0_1], .agg #[.int .i64 a1_0, .slice A1_1 l1_1.length c1_1]] w fun e w' => ∃ v1_ : Value, e = .returned (.agg #[.int .i64 r1, v1_]) ∧ Kd.R (Kd.int .i64) 2 w' w.heap.size (fun _ => True) v1_ r2 ∧ Below w.heap.size w w' := by
 have hu26 := Tryd.underlying26; have HR0_1 := am_ hr0_1; have HC0_1 := am_ hc0_1; clear hr0_1 hc0_1; have HR1_1 := am_ hr1_1; have HC1_1 := am_ hc1_1; clear hr1_1 hc1_1; have HB := am_ (Below.refl w.heap.size w)
 have H : (if a0_0 = 0 then ((spec_l02Make.f k a1_0 l1_1).bind fun bt298 => (some (bt298.1, bt298.2))) else (if a1_0 = 0 then ((spec_l02Make.f k a0_0 l0_1).bind fun bt302 => (some (bt302.1, bt302.2))) else (if a0_0 = a1_0 then ((spec_l02Plus.f k l0_1 l1_1).bind fun t306 => ((spec_l02Make.f k a0_0 t306).bind fun bt309 => (some (bt309.1, bt309.2)))) else ((spec_l02CompareLimbs.f k l0_1 l1_1).bind fun t313 => (if t313 ≥ 0 then ((spec_l02Minus.f k l0_1 l1_1).bind fun t314 => ((spec_l02Make.f k a0_0 t314).bind fun bt317 => (some (bt317.1, bt317.2)))) else ((spec_l02Minus.f k l1_1 l0_1).bind fun t321 => ((spec_l02Make.f k a1_0 t321).bind fun bt324 => (some (bt324.1, bt324.2))))))))) = some (r1, r2) := h
 clear h
 by_cases c3 : a0_0 = 0
 ·rw [if_pos c3] at H
  have c3b0 : (a0_0 == 0) = true := beq_iff_eq.mpr c3
  have c3b1 : (a0_0 != 0) = false := bne_eq_false_iff_eq.mpr c3
  clear c3
  replace H := Option.bind_eq_some_iff.mp H
  obtain ⟨⟨t298, t299⟩, A40, H⟩ := H
  replace H : (some (t298, t299)) = some (r1, r2) := H
  have A4 := am_ A40; clear A40
  simp only [Option.some.injEq, Prod.mk.injEq] at H
  obtain ⟨rfl, rfl⟩ := H
  go_enter Tryd.func105, Tryd.ntmps105
  go_wp2_with (first | ((with_reducible refine gate_dst (N := 2) rfl ?_); refine bx_ 2 #[.int .i64 a0_0, .slice A0_1 l0_1.length c0_1] 26 ?_; intro gb295 hg w5 hbox hb; obtain ⟨BK295, GW295, GE295⟩ := nb_ hbox hg HB; replace HB := bs_ HB hb; clear hb hbox hg) | ((with_reducible refine gate_dst (N := 3) rfl ?_); refine bx_ 3 #[.int .i64 a1_0, .slice A1_1 l1_1.length c1_1] 26 ?_; intro gb296 hg w6 hbox hb; obtain ⟨BK296, GW296, GE296⟩ := nb_ hbox hg HB; obtain ⟨NB295_296, NB296_295⟩ := nn_ hg BK295; replace BK295 := bb_ BK295 hb; replace HB := bs_ HB hb; clear hb hbox hg) | ((with_reducible refine gate_dst (N := 4) rfl ?_); refine bx_ 4 #[.int .i64 0, .slice none 0 0] 26 ?_; intro gb297 hg w7 hbox hb; obtain ⟨BK297, GW297, GE297⟩ := nb_ hbox hg HB; obtain ⟨NB295_297, NB297_295⟩ := nn_ hg BK295; obtain ⟨NB296_297, NB297_296⟩ := nn_ hg BK296; replace BK295 := bb_ BK295 hb; replace BK296 := bb_ BK296 hb; replace HB := bs_ HB hb; clear hb hbox hg; have hnb8 := NB295_296.out; have hnc8 := NB296_295.out; have hnb9 := NB295_297.out; have hnc9 := NB297_295.out; obtain ⟨hcz10_0, hcz10_1, hfz10_0, hfz10_1⟩ := ck2_ BK295; have hnb11 := NB296_297.out; have hnc11 := NB297_296.out; obtain ⟨hcz12_0, hcz12_1, hfz12_0, hfz12_1⟩ := ck2_ BK296) | ((with_reducible refine gate_callee (f := 87) rfl ?_); refine goesL_ (some 13) rfl rfl Tryd.func87 (by kernel_rfl) rfl #[.int .i64 a1_0, .slice A1_1 l1_1.length c1_1] rfl ma_ ?_; (with_reducible refine (spec_l02Make.calls k a1_0 _ _ l1_1 t298 t299 _ ?side1 ?side2 A4.out).mono ?_); (case side1 => exact cb_ HR1_1 HB); (case side2 => exact HC1_1.out); rintro e w13 ⟨v300, rfl, ho0, hb⟩; refine ⟨_, rfl, ?_⟩; have HO301 := am_ (Kd.R_lower ho0 (below_size (bl_ HB))); replace BK295 := bb_ BK295 hb; replace BK296 := bb_ BK296 hb; replace BK297 := bb_ BK297 hb; replace HB := bs_ HB hb; (try clear hb); (try clear ho0); obtain ⟨hcz14_0, hcz14_1, hfz14_0, hfz14_1⟩ := ck2_ BK297; obtain ⟨Ao15, co15, eo15⟩ := Kd.R_slice HO301.out; subst eo15))
  refine bodyPost_ret (results_cell_row rfl _ _ gb297 26 #[.int .i64 t298, .slice Ao15 t299.length co15] (0, 0) _ rfl (bp2_ BK297) Tryd.underlying26 rfl (by kernel_rfl)) rfl ?_
  exact ⟨_, by first | rfl | (simp [errW_none, errW_some] <;> rfl) | (simp [*, errW_none, errW_some] <;> rfl), rt_ HO301 BK297, bl_ HB⟩
 ·rw [if_neg c3] at H
  have c3b0 : (a0_0 == 0) = false := beq_eq_false_iff_ne.mpr c3
  have c3b1 : (a0_0 != 0) = true := bne_iff_ne.mpr c3
  by_cases c16 : a1_0 = 0
  ·rw [if_pos c16] at H
   have c16b0 : (a1_0 == 0) = true := beq_iff_eq.mpr c16
   have c16b1 : (a1_0 != 0) = false := bne_eq_false_iff_eq.mpr c16
   clear c16
   replace H := Option.bind_eq_some_iff.mp H
   obtain ⟨⟨t302, t303⟩, A170, H⟩ := H
   replace H : (some (t302, t303)) = some (r1, r2) := H
   have A17 := am_ A170; clear A170
   simp only [Option.some.injEq, Prod.mk.injEq] at H
   obtain ⟨rfl, rfl⟩ := H
   go_enter Tryd.func105, Tryd.ntmps105
   go_wp2_with (first | ((with_reducible refine gate_dst (N := 2) rfl ?_); refine bx_ 2 #[.int .i64 a0_0, .slice A0_1 l0_1.length c0_1] 26 ?_; intro gb295 hg w18 hbox hb; obtain ⟨BK295, GW295, GE295⟩ := nb_ hbox hg HB; replace HB := bs_ HB hb; clear hb hbox hg) | ((with_reducible refine gate_dst (N := 3) rfl ?_); refine bx_ 3 #[.int .i64 a1_0, .slice A1_1 l1_1.length c1_1] 26 ?_; intro gb296 hg w19 hbox hb; obtain ⟨BK296, GW296, GE296⟩ := nb_ hbox hg HB; obtain ⟨NB295_296, NB296_295⟩ := nn_ hg BK295; replace BK295 := bb_ BK295 hb; replace HB := bs_ HB hb; clear hb hbox hg) | ((with_reducible refine gate_dst (N := 4) rfl ?_); refine bx_ 4 #[.int .i64 0, .slice none 0 0] 26 ?_; intro gb297 hg w20 hbox hb; obtain ⟨BK297, GW297, GE297⟩ := nb_ hbox hg HB; obtain ⟨NB295_297, NB297_295⟩ := nn_ hg BK295; obtain ⟨NB296_297, NB297_296⟩ := nn_ hg BK296; replace BK295 := bb_ BK295 hb; replace BK296 := bb_ BK296 hb; replace HB := bs_ HB hb; clear hb hbox hg; have hnb21 := NB295_296.out; have hnc21 := NB296_295.out; have hnb22 := NB295_297.out; have hnc22 := NB297_295.out; obtain ⟨hcz23_0, hcz23_1, hfz23_0, hfz23_1⟩ := ck2_ BK295; have hnb24 := NB296_297.out; have hnc24 := NB297_296.out; obtain ⟨hcz25_0, hcz25_1, hfz25_0, hfz25_1⟩ := ck2_ BK296) | ((with_reducible refine gate_callee (f := 87) rfl ?_); refine goesL_ (some 22) rfl rfl Tryd.func87 (by kernel_rfl) rfl #[.int .i64 a0_0, .slice A0_1 l0_1.length c0_1] rfl ma_ ?_; (with_reducible refine (spec_l02Make.calls k a0_0 _ _ l0_1 t302 t303 _ ?side1 ?side2 A17.out).mono ?_); (case side1 => exact cb_ HR0_1 HB); (case side2 => exact HC0_1.out); rintro e w26 ⟨v304, rfl, ho0, hb⟩; refine ⟨_, rfl, ?_⟩; have HO305 := am_ (Kd.R_lower ho0 (below_size (bl_ HB))); replace BK295 := bb_ BK295 hb; replace BK296 := bb_ BK296 hb; replace BK297 := bb_ BK297 hb; replace HB := bs_ HB hb; (try clear hb); (try clear ho0); obtain ⟨hcz27_0, hcz27_1, hfz27_0, hfz27_1⟩ := ck2_ BK297; obtain ⟨Ao28, co28, eo28⟩ := Kd.R_slice HO305.out; subst eo28))
   refine bodyPost_ret (results_cell_row rfl _ _ gb297 26 #[.int .i64 t302, .slice Ao28 t303.length co28] (0, 0) _ rfl (bp2_ BK297) Tryd.underlying26 rfl (by kernel_rfl)) rfl ?_
   exact ⟨_, by first | rfl | (simp [errW_none, errW_some] <;> rfl) | (simp [*, errW_none, errW_some] <;> rfl), rt_ HO305 BK297, bl_ HB⟩
  ·rw [if_neg c16] at H
   have c16b0 : (a1_0 == 0) = false := beq_eq_false_iff_ne.mpr c16
   have c16b1 : (a1_0 != 0) = true := bne_iff_ne.mpr c16
   by_cases c29 : a0_0 = a1_0
   ·rw [if_pos c29] at H
    have c29b0 : (a0_0 == a1_0) = true := beq_iff_eq.mpr c29
    have c29b1 : (a0_0 != a1_0) = false := bne_eq_false_iff_eq.mpr c29
    clear c29
    replace H := Option.bind_eq_some_iff.mp H
    obtain ⟨t306, A300, H⟩ := H
    replace H : ((spec_l02Make.f k a0_0 t306).bind fun bt309 => (some (bt309.1, bt309.2))) = some (r1, r2) := H
    have A30 := am_ A300; clear A300
    replace H := Option.bind_eq_some_iff.mp H
    obtain ⟨⟨t309, t310⟩, A310, H⟩ := H
    replace H : (some (t309, t310)) = some (r1, r2) := H
    have A31 := am_ A310; clear A310
    simp only [Option.some.injEq, Prod.mk.injEq] at H
    obtain ⟨rfl, rfl⟩ := H
    go_enter Tryd.func105, Tryd.ntmps105
    try go_wp2_with (first | ((with_reducible refine gate_dst (N := 2) rfl ?_); refine bx_ 2 #[.int .i64 a0_0, .slice A0_1 l0_1.length c0_1] 26 ?_; intro gb295 hg w32 hbox hb; obtain ⟨BK295, GW295, GE295⟩ := nb_ hbox hg HB; replace HB := bs_ HB hb; clear hb hbox hg) | ((with_reducible refine gate_dst (N := 3) rfl ?_); refine bx_ 3 #[.int .i64 a1_0, .slice A1_1 l1_1.length c1_1] 26 ?_; intro gb296 hg w33 hbox hb; obtain ⟨BK296, GW296, GE296⟩ := nb_ hbox hg HB; obtain ⟨NB295_296, NB296_295⟩ := nn_ hg BK295; replace BK295 := bb_ BK295 hb; replace HB := bs_ HB hb; clear hb hbox hg) | ((with_reducible refine gate_dst (N := 4) rfl ?_); refine bx_ 4 #[.int .i64 0, .slice none 0 0] 26 ?_; intro gb297 hg w34 hbox hb; obtain ⟨BK297, GW297, GE297⟩ := nb_ hbox hg HB; obtain ⟨NB295_297, NB297_295⟩ := nn_ hg BK295; obtain ⟨NB296_297, NB297_296⟩ := nn_ hg BK296; replace BK295 := bb_ BK295 hb; replace BK296 := bb_ BK296 hb; replace HB := bs_ HB hb; clear hb hbox hg; have hnb35 := NB295_296.out; have hnc35 := NB296_295.out; have hnb36 := NB295_297.out; have hnc36 := NB297_295.out; obtain ⟨hcz37_0, hcz37_1, hfz37_0, hfz37_1⟩ := ck2_ BK295; have hnb38 := NB296_297.out; have hnc38 := NB297_296.out; obtain ⟨hcz39_0, hcz39_1, hfz39_0, hfz39_1⟩ := ck2_ BK296))
    replace BK295 := am_ (blk_drew BK295.out); replace BK296 := am_ (blk_drew BK296.out); replace BK297 := am_ (blk_drew BK297.out); replace HB := am_ (below_drew1 HB.out)
    refine start_ (n := 9) (S := fun w' => w'.cell? ⟨gb295, 0, none⟩ = some (.int .i64 a0_0) ∧ w'.cell? ⟨gb295, 1, none⟩ = some (.slice A0_1 l0_1.length c0_1) ∧ w'.cell? ⟨gb296, 0, none⟩ = some (.int .i64 a1_0) ∧ w'.cell? ⟨gb296, 1, none⟩ = some (.slice A1_1 l1_1.length c1_1)) (ds := []) #[false, false, false, false, false, false, false, false, false] (by kernel_rfl) rfl rfl ⟨bc_ BK295 0, bc_ BK295 1, bc_ BK296 0, bc_ BK296 1⟩ (fun hHeld => ?_); refine with_tabW spec_l02Add.tab6 spec_l02Add.bits6 (fun HT_ HW_ => ?_)
    generalize w34.drew = w40 at BK295 BK296 BK297 HB hHeld ⊢
    refine pu_ #[true, false, false, false, false, false, false, false, false] 0 29 (any_of HT_.out (by kernel_rfl)) ?_
    refine pu_ #[true, false, true, false, false, false, false, false, false] 2 31 (any_of HT_.out (by kernel_rfl)) ?_
    refine pu_ #[true, false, true, false, true, false, false, false, false] 4 33 (any_of HT_.out (by kernel_rfl)) ?_
    refine tk_ #[true, true, true, false, true, false, false, false, false] 1 30 (take_ofW HT_.out HW_.out (by kernel_rfl)) hHeld ?_
    refine tk_ #[true, true, true, true, true, false, false, false, false] 3 32 (take_ofW HT_.out HW_.out (by kernel_rfl)) hHeld ?_
    refine tk_ #[true, true, true, true, true, true, false, false, false] 5 34 (take_ofW HT_.out HW_.out (by kernel_rfl)) hHeld ?_
    refine one_ (i := 6) (N := some 35) #[true, true, true, true, true, true, true, false, false] rfl rfl (one_of HT_.out (by kernel_rfl)) (by decide) (fun K hK => ?_)
    refine goes_ Tryd.func130 (by kernel_rfl) rfl #[.slice A0_1 l0_1.length c0_1, .slice A1_1 l1_1.length c1_1] (by rfl) rfl rfl ma_ ?_
    with_reducible refine (spec_l02Plus.calls k _ _ l0_1 _ _ l1_1 t306 _ ?side1 ?side2 ?side3 ?side4 A30.out).mono ?_
    (case side1 => exact cb_ HR0_1 HB)
    (case side2 => exact HC0_1.out)
    (case side3 => exact cb_ HR1_1 HB)
    (case side4 => exact HC1_1.out)
    rintro e w41 ⟨v307, rfl, ho0, hb⟩
    refine ⟨_, rfl, ?_⟩
    have HO308 := am_ (Kd.R_lower ho0 (below_size (bl_ HB))); replace BK295 := am_ (blk_below (bk_ BK295) hb); replace BK296 := am_ (blk_below (bk_ BK296) hb); replace BK297 := am_ (blk_below (bk_ BK297) hb); replace HB := am_ (below_step (bl_ HB) hb); (try clear hb); (try clear hb2); (try clear hk); (try clear hi); (try clear ho0)
    obtain ⟨Ao42, co42, eo42⟩ := Kd.R_slice HO308.out
    (first | subst eo42 | (injection eo42 with f1_ f2_ f3_; have f4_ := f1_.symm; have f5_ := f3_.symm; clear f1_ f2_ f3_; subst f4_; subst f5_))
    refine hK.out _ _ ⟨bc_ BK295 0, bc_ BK295 1, bc_ BK296 0, bc_ BK296 1⟩ (fun hHeld => ?_)
    clear hK K
    refine nr_ ?_
    refine one_ (i := 7) (N := some 36) #[true, true, true, true, true, true, true, true, false] rfl rfl (one_of HT_.out (by kernel_rfl)) (by decide) (fun K hK => ?_)
    refine goes_ Tryd.func87 (by kernel_rfl) rfl #[.int .i64 a0_0, .slice Ao42 t306.length co42] (by rfl) rfl rfl ma_ ?_
    with_reducible refine (spec_l02Make.calls k a0_0 _ _ t306 t309 t310 _ ?side1 ?side2 A31.out).mono ?_
    (case side1 => exact cr_ HO308)
    (case side2 => exact (Kd.R_reads' HO308.out).2.1)
    rintro e w43 ⟨v311, rfl, ho0, hb⟩
    refine ⟨_, rfl, ?_⟩
    have HO312 := am_ (Kd.R_lower (Kd.R_new' ho0 (Kd.R_lt (kr_ HO308))) (below_size (bl_ HB))); replace HO308 := am_ (Kd.R_elder' (kr_ HO308) (Kd.R_base ho0) hb); replace BK295 := am_ (blk_below (bk_ BK295) hb); replace BK296 := am_ (blk_below (bk_ BK296) hb); replace BK297 := am_ (blk_below (bk_ BK297) hb); replace HB := am_ (below_step (bl_ HB) hb); (try clear hb); (try clear hb2); (try clear hk); (try clear hi); (try clear ho0)
    obtain ⟨Ao45, co45, eo45⟩ := Kd.R_slice HO312.out
    (first | subst eo45 | (injection eo45 with f1_ f2_ f3_; have f4_ := f1_.symm; have f5_ := f3_.symm; clear f1_ f2_ f3_; subst f4_; subst f5_))
    refine hK.out _ _ ⟨bc_ BK295 0, bc_ BK295 1, bc_ BK296 0, bc_ BK296 1⟩ (fun hHeld => ?_)
    clear hK K
    refine nr_ ?_
    refine one_ (i := 8) (N := none) #[true, true, true, true, true, true, true, true, true] rfl rfl (one_of HT_.out (by kernel_rfl)) (by decide) (fun K hK => ?_)
    have hs44 : w43.cell? ⟨gb297, 0, none⟩ = some (.int .i64 0) := bc_ BK297 0
    have hfs44 := blk_frozen BK297.out 0; have hns44_0 := NB295_297.out; have hns44_1 := NB296_297.out; have hms44_0 := NB297_295.out; have hms44_1 := NB297_296.out
    have hs46 : w43.cell? ⟨gb297, 1, none⟩ = some (.slice none 0 0) := bc_ BK297 1
    have hfs46 := blk_frozen BK297.out 1; have hns46_0 := NB295_297.out; have hns46_1 := NB296_297.out; have hms46_0 := NB297_295.out; have hms46_1 := NB297_296.out
    refine skip_ (w1 := ?_) (by rfl) rfl ?_ ?_
    rotate_left
    ·go_simp
     rfl
    refine hK.out _ _ ⟨((cell_far (p := ⟨gb297, _, none⟩) NB295_297.out _).trans (((cell_far (p := ⟨gb297, _, none⟩) NB295_297.out _).trans (hHeld.1)))), ((cell_far (p := ⟨gb297, _, none⟩) NB295_297.out _).trans (((cell_far (p := ⟨gb297, _, none⟩) NB295_297.out _).trans (hHeld.2.1)))), ((cell_far (p := ⟨gb297, _, none⟩) NB296_297.out _).trans (((cell_far (p := ⟨gb297, _, none⟩) NB296_297.out _).trans (hHeld.2.2.1)))), ((cell_far (p := ⟨gb297, _, none⟩) NB296_297.out _).trans (((cell_far (p := ⟨gb297, _, none⟩) NB296_297.out _).trans (hHeld.2.2.2))))⟩ (fun hHeld => ?_)
    clear hK K
    refine done_ (done_of HT_.out (by kernel_rfl)) ?_
    try go_wp2
    refine bodyPost_ret (results_cell_row rfl _ _ gb297 26 #[.int .i64 t309, .slice Ao45 t310.length co45] (0, 0) _ rfl (bp2_ BK297) Tryd.underlying26 rfl (by kernel_rfl)) rfl ?_
    exact ⟨_, by first | rfl | (simp [errW_none, errW_some] <;> rfl) | (simp [*, errW_none, errW_some] <;> rfl), rt_ HO312 BK297, bl_ HB⟩
   ·rw [if_neg c29] at H
    have c29b0 : (a0_0 == a1_0) = false := beq_eq_false_iff_ne.mpr c29
    have c29b1 : (a0_0 != a1_0) = true := bne_iff_ne.mpr c29
    replace H := Option.bind_eq_some_iff.mp H
    obtain ⟨t313, A470, H⟩ := H
    replace H : (if t313 ≥ 0 then ((spec_l02Minus.f k l0_1 l1_1).bind fun t314 => ((spec_l02Make.f k a0_0 t314).bind fun bt317 => (some (bt317.1, bt317.2)))) else ((spec_l02Minus.f k l1_1 l0_1).bind fun t321 => ((spec_l02Make.f k a1_0 t321).bind fun bt324 => (some (bt324.1, bt324.2))))) = some (r1, r2) := H
    have A47 := am_ A470; clear A470
    by_cases c48 : t313 ≥ 0
    ·rw [if_pos c48] at H
     have c48b0 : decide (0 ≤ t313) = true := decide_eq_true c48
     clear c48
     replace H := Option.bind_eq_some_iff.mp H
     obtain ⟨t314, A490, H⟩ := H
     replace H : ((spec_l02Make.f k a0_0 t314).bind fun bt317 => (some (bt317.1, bt317.2))) = some (r1, r2) := H
     have A49 := am_ A490; clear A490
     replace H := Option.bind_eq_some_iff.mp H
     obtain ⟨⟨t317, t318⟩, A500, H⟩ := H
     replace H : (some (t317, t318)) = some (r1, r2) := H
     have A50 := am_ A500; clear A500
     simp only [Option.some.injEq, Prod.mk.injEq] at H
     obtain ⟨rfl, rfl⟩ := H
     go_enter Tryd.func105, Tryd.ntmps105
     try go_wp2_with (first | ((with_reducible refine gate_dst (N := 2) rfl ?_); refine bx_ 2 #[.int .i64 a0_0, .slice A0_1 l0_1.length c0_1] 26 ?_; intro gb295 hg w51 hbox hb; obtain ⟨BK295, GW295, GE295⟩ := nb_ hbox hg HB; replace HB := bs_ HB hb; clear hb hbox hg) | ((with_reducible refine gate_dst (N := 3) rfl ?_); refine bx_ 3 #[.int .i64 a1_0, .slice A1_1 l1_1.length c1_1] 26 ?_; intro gb296 hg w52 hbox hb; obtain ⟨BK296, GW296, GE296⟩ := nb_ hbox hg HB; obtain ⟨NB295_296, NB296_295⟩ := nn_ hg BK295; replace BK295 := bb_ BK295 hb; replace HB := bs_ HB hb; clear hb hbox hg) | ((with_reducible refine gate_dst (N := 4) rfl ?_); refine bx_ 4 #[.int .i64 0, .slice none 0 0] 26 ?_; intro gb297 hg w53 hbox hb; obtain ⟨BK297, GW297, GE297⟩ := nb_ hbox hg HB; obtain ⟨NB295_297, NB297_295⟩ := nn_ hg BK295; obtain ⟨NB296_297, NB297_296⟩ := nn_ hg BK296; replace BK295 := bb_ BK295 hb; replace BK296 := bb_ BK296 hb; replace HB := bs_ HB hb; clear hb hbox hg; have hnb54 := NB295_296.out; have hnc54 := NB296_295.out; have hnb55 := NB295_297.out; have hnc55 := NB297_295.out; obtain ⟨hcz56_0, hcz56_1, hfz56_0, hfz56_1⟩ := ck2_ BK295; have hnb57 := NB296_297.out; have hnc57 := NB297_296.out; obtain ⟨hcz58_0, hcz58_1, hfz58_0, hfz58_1⟩ := ck2_ BK296) | ((with_reducible refine gate_callee (f := 131) rfl ?_); refine goesL_ (some 42) rfl rfl Tryd.func131 (by kernel_rfl) rfl #[.slice A0_1 l0_1.length c0_1, .slice A1_1 l1_1.length c1_1] rfl ma_ ?_; (with_reducible refine (spec_l02CompareLimbs.calls k _ _ l0_1 _ _ l1_1 t313 _ ?side1 ?side2 ?side3 ?side4 A47.out).mono ?_); (case side1 => exact cb_ HR0_1 HB); (case side2 => exact HC0_1.out); (case side3 => exact cb_ HR1_1 HB); (case side4 => exact HC1_1.out); rintro e w' ⟨rfl, ⟨nd, rfl⟩⟩; refine ⟨_, rfl, ?_⟩; (try (rw [drewN_self w53]; generalize hq_ : World.drewN w53 _ = w53; have n0_ : Aside0 (w53.heap[gb295]? = some (.cells #[.int .i64 a0_0, .slice A0_1 l0_1.length c0_1] 26 (0, 0))) := ⟨by rw [← hq_]; exact (bk_ BK295)⟩; have n1_ : Aside0 (w53.heap[gb296]? = some (.cells #[.int .i64 a1_0, .slice A1_1 l1_1.length c1_1] 26 (0, 0))) := ⟨by rw [← hq_]; exact (bk_ BK296)⟩; have n2_ : Aside0 (w53.heap[gb297]? = some (.cells #[.int .i64 0, .slice none 0 0] 26 (0, 0))) := ⟨by rw [← hq_]; exact (bk_ BK297)⟩; have n3_ : Aside0 (Below w.heap.size w w53) := ⟨by rw [← hq_]; exact (bl_ HB)⟩; clear BK295 BK296 BK297 HB hq_; have BK295 := n0_; have BK296 := n1_; have BK297 := n2_; have HB := n3_; clear n0_ n1_ n2_ n3_))))
     replace BK295 := am_ (blk_drew BK295.out); replace BK296 := am_ (blk_drew BK296.out); replace BK297 := am_ (blk_drew BK297.out); replace HB := am_ (below_drew1 HB.out)
     refine start_ (n := 9) (S := fun w' => w'.cell? ⟨gb295, 0, none⟩ = some (.int .i64 a0_0) ∧ w'.cell? ⟨gb295, 1, none⟩ = some (.slice A0_1 l0_1.length c0_1) ∧ w'.cell? ⟨gb296, 0, none⟩ = some (.int .i64 a1_0) ∧ w'.cell? ⟨gb296, 1, none⟩ = some (.slice A1_1 l1_1.length c1_1)) (ds := []) #[false, false, false, false, false, false, false, false, false] (by kernel_rfl) rfl rfl ⟨bc_ BK295 0, bc_ BK295 1, bc_ BK296 0, bc_ BK296 1⟩ (fun hHeld => ?_); refine with_tabW spec_l02Add.tab8 spec_l02Add.bits8 (fun HT_ HW_ => ?_)
     generalize w53.drew = w59 at BK295 BK296 BK297 HB hHeld ⊢
     refine pu_ #[true, false, false, false, false, false, false, false, false] 0 44 (any_of HT_.out (by kernel_rfl)) ?_
     refine pu_ #[true, false, true, false, false, false, false, false, false] 2 46 (any_of HT_.out (by kernel_rfl)) ?_
     refine pu_ #[true, false, true, false, true, false, false, false, false] 4 48 (any_of HT_.out (by kernel_rfl)) ?_
     refine tk_ #[true, true, true, false, true, false, false, false, false] 1 45 (take_ofW HT_.out HW_.out (by kernel_rfl)) hHeld ?_
     refine tk_ #[true, true, true, true, true, false, false, false, false] 3 47 (take_ofW HT_.out HW_.out (by kernel_rfl)) hHeld ?_
     refine tk_ #[true, true, true, true, true, true, false, false, false] 5 49 (take_ofW HT_.out HW_.out (by kernel_rfl)) hHeld ?_
     refine one_ (i := 6) (N := some 50) #[true, true, true, true, true, true, true, false, false] rfl rfl (one_of HT_.out (by kernel_rfl)) (by decide) (fun K hK => ?_)
     refine goes_ Tryd.func132 (by kernel_rfl) rfl #[.slice A0_1 l0_1.length c0_1, .slice A1_1 l1_1.length c1_1] (by rfl) rfl rfl ma_ ?_
     with_reducible refine (spec_l02Minus.calls k _ _ l0_1 _ _ l1_1 t314 _ ?side1 ?side2 ?side3 ?side4 A49.out).mono ?_
     (case side1 => exact cb_ HR0_1 HB)
     (case side2 => exact HC0_1.out)
     (case side3 => exact cb_ HR1_1 HB)
     (case side4 => exact HC1_1.out)
     rintro e w60 ⟨v315, rfl, ho0, hb⟩
     refine ⟨_, rfl, ?_⟩
     have HO316 := am_ (Kd.R_lower ho0 (below_size (bl_ HB))); replace BK295 := am_ (blk_below (bk_ BK295) hb); replace BK296 := am_ (blk_below (bk_ BK296) hb); replace BK297 := am_ (blk_below (bk_ BK297) hb); replace HB := am_ (below_step (bl_ HB) hb); (try clear hb); (try clear hb2); (try clear hk); (try clear hi); (try clear ho0)
     obtain ⟨Ao61, co61, eo61⟩ := Kd.R_slice HO316.out
     (first | subst eo61 | (injection eo61 with f1_ f2_ f3_; have f4_ := f1_.symm; have f5_ := f3_.symm; clear f1_ f2_ f3_; subst f4_; subst f5_))
     refine hK.out _ _ ⟨bc_ BK295 0, bc_ BK295 1, bc_ BK296 0, bc_ BK296 1⟩ (fun hHeld => ?_)
     clear hK K
     refine nr_ ?_
     refine one_ (i := 7) (N := some 51) #[true, true, true, true, true, true, true, true, false] rfl rfl (one_of HT_.out (by kernel_rfl)) (by decide) (fun K hK => ?_)
     refine goes_ Tryd.func87 (by kernel_rfl) rfl #[.int .i64 a0_0, .slice Ao61 t314.length co61] (by rfl) rfl rfl ma_ ?_
     with_reducible refine (spec_l02Make.calls k a0_0 _ _ t314 t317 t318 _ ?side1 ?side2 A50.out).mono ?_
     (case side1 => exact cr_ HO316)
     (case side2 => exact (Kd.R_reads' HO316.out).2.1)
     rintro e w62 ⟨v319, rfl, ho0, hb⟩
     refine ⟨_, rfl, ?_⟩
     have HO320 := am_ (Kd.R_lower (Kd.R_new' ho0 (Kd.R_lt (kr_ HO316))) (below_size (bl_ HB))); replace HO316 := am_ (Kd.R_elder' (kr_ HO316) (Kd.R_base ho0) hb); replace BK295 := am_ (blk_below (bk_ BK295) hb); replace BK296 := am_ (blk_below (bk_ BK296) hb); replace BK297 := am_ (blk_below (bk_ BK297) hb); replace HB := am_ (below_step (bl_ HB) hb); (try clear hb); (try clear hb2); (try clear hk); (try clear hi); (try clear ho0)
     obtain ⟨Ao64, co64, eo64⟩ := Kd.R_slice HO320.out
     (first | subst eo64 | (injection eo64 with f1_ f2_ f3_; have f4_ := f1_.symm; have f5_ := f3_.symm; clear f1_ f2_ f3_; subst f4_; subst f5_))
     refine hK.out _ _ ⟨bc_ BK295 0, bc_ BK295 1, bc_ BK296 0, bc_ BK296 1⟩ (fun hHeld => ?_)
     clear hK K
     refine nr_ ?_
     refine one_ (i := 8) (N := none) #[true, true, true, true, true, true, true, true, true] rfl rfl (one_of HT_.out (by kernel_rfl)) (by decide) (fun K hK => ?_)
     have hs63 : w62.cell? ⟨gb297, 0, none⟩ = some (.int .i64 0) := bc_ BK297 0
     have hfs63 := blk_frozen BK297.out 0; have hns63_0 := NB295_297.out; have hns63_1 := NB296_297.out; have hms63_0 := NB297_295.out; have hms63_1 := NB297_296.out
     have hs65 : w62.cell? ⟨gb297, 1, none⟩ = some (.slice none 0 0) := bc_ BK297 1
     have hfs65 := blk_frozen BK297.out 1; have hns65_0 := NB295_297.out; have hns65_1 := NB296_297.out; have hms65_0 := NB297_295.out; have hms65_1 := NB297_296.out
     refine skip_ (w1 := ?_) (by rfl) rfl ?_ ?_
     rotate_left
     ·go_simp
      rfl
     refine hK.out _ _ ⟨((cell_far (p := ⟨gb297, _, none⟩) NB295_297.out _).trans (((cell_far (p := ⟨gb297, _, none⟩) NB295_297.out _).trans (hHeld.1)))), ((cell_far (p := ⟨gb297, _, none⟩) NB295_297.out _).trans (((cell_far (p := ⟨gb297, _, none⟩) NB295_297.out _).trans (hHeld.2.1)))), ((cell_far (p := ⟨gb297, _, none⟩) NB296_297.out _).trans (((cell_far (p := ⟨gb297, _, none⟩) NB296_297.out _).trans (hHeld.2.2.1)))), ((cell_far (p := ⟨gb297, _, none⟩) NB296_297.out _).trans (((cell_far (p := ⟨gb297, _, none⟩) NB296_297.out _).trans (hHeld.2.2.2))))⟩ (fun hHeld => ?_)
     clear hK K
     refine done_ (done_of HT_.out (by kernel_rfl)) ?_
     try go_wp2
     refine bodyPost_ret (results_cell_row rfl _ _ gb297 26 #[.int .i64 t317, .slice Ao64 t318.length co64] (0, 0) _ rfl (bp2_ BK297) Tryd.underlying26 rfl (by kernel_rfl)) rfl ?_
     exact ⟨_, by first | rfl | (simp [errW_none, errW_some] <;> rfl) | (simp [*, errW_none, errW_some] <;> rfl), rt_ HO320 BK297, bl_ HB⟩
    ·rw [if_neg c48] at H
     have c48b0 : decide (0 ≤ t313) = false := decide_eq_false c48
     clear c48
     replace H := Option.bind_eq_some_iff.mp H
     obtain ⟨t321, A660, H⟩ := H
     replace H : ((spec_l02Make.f k a1_0 t321).bind fun bt324 => (some (bt324.1, bt324.2))) = some (r1, r2) := H
     have A66 := am_ A660; clear A660
     replace H := Option.bind_eq_some_iff.mp H
     obtain ⟨⟨t324, t325⟩, A670, H⟩ := H
     replace H : (some (t324, t325)) = some (r1, r2) := H
     have A67 := am_ A670; clear A670
     simp only [Option.some.injEq, Prod.mk.injEq] at H
     obtain ⟨rfl, rfl⟩ := H
     go_enter Tryd.func105, Tryd.ntmps105
     try go_wp2_with (first | ((with_reducible refine gate_dst (N := 2) rfl ?_); refine bx_ 2 #[.int .i64 a0_0, .slice A0_1 l0_1.length c0_1] 26 ?_; intro gb295 hg w68 hbox hb; obtain ⟨BK295, GW295, GE295⟩ := nb_ hbox hg HB; replace HB := bs_ HB hb; clear hb hbox hg) | ((with_reducible refine gate_dst (N := 3) rfl ?_); refine bx_ 3 #[.int .i64 a1_0, .slice A1_1 l1_1.length c1_1] 26 ?_; intro gb296 hg w69 hbox hb; obtain ⟨BK296, GW296, GE296⟩ := nb_ hbox hg HB; obtain ⟨NB295_296, NB296_295⟩ := nn_ hg BK295; replace BK295 := bb_ BK295 hb; replace HB := bs_ HB hb; clear hb hbox hg) | ((with_reducible refine gate_dst (N := 4) rfl ?_); refine bx_ 4 #[.int .i64 0, .slice none 0 0] 26 ?_; intro gb297 hg w70 hbox hb; obtain ⟨BK297, GW297, GE297⟩ := nb_ hbox hg HB; obtain ⟨NB295_297, NB297_295⟩ := nn_ hg BK295; obtain ⟨NB296_297, NB297_296⟩ := nn_ hg BK296; replace BK295 := bb_ BK295 hb; replace BK296 := bb_ BK296 hb; replace HB := bs_ HB hb; clear hb hbox hg; have hnb71 := NB295_296.out; have hnc71 := NB296_295.out; have hnb72 := NB295_297.out; have hnc72 := NB297_295.out; obtain ⟨hcz73_0, hcz73_1, hfz73_0, hfz73_1⟩ := ck2_ BK295; have hnb74 := NB296_297.out; have hnc74 := NB297_296.out; obtain ⟨hcz75_0, hcz75_1, hfz75_0, hfz75_1⟩ := ck2_ BK296) | ((with_reducible refine gate_callee (f := 131) rfl ?_); refine goesL_ (some 42) rfl rfl Tryd.func131 (by kernel_rfl) rfl #[.slice A0_1 l0_1.length c0_1, .slice A1_1 l1_1.length c1_1] rfl ma_ ?_; (with_reducible refine (spec_l02CompareLimbs.calls k _ _ l0_1 _ _ l1_1 t313 _ ?side1 ?side2 ?side3 ?side4 A47.out).mono ?_); (case side1 => exact cb_ HR0_1 HB); (case side2 => exact HC0_1.out); (case side3 => exact cb_ HR1_1 HB); (case side4 => exact HC1_1.out); rintro e w' ⟨rfl, ⟨nd, rfl⟩⟩; refine ⟨_, rfl, ?_⟩; (try (rw [drewN_self w70]; generalize hq_ : World.drewN w70 _ = w70; have n0_ : Aside0 (w70.heap[gb295]? = some (.cells #[.int .i64 a0_0, .slice A0_1 l0_1.length c0_1] 26 (0, 0))) := ⟨by rw [← hq_]; exact (bk_ BK295)⟩; have n1_ : Aside0 (w70.heap[gb296]? = some (.cells #[.int .i64 a1_0, .slice A1_1 l1_1.length c1_1] 26 (0, 0))) := ⟨by rw [← hq_]; exact (bk_ BK296)⟩; have n2_ : Aside0 (w70.heap[gb297]? = some (.cells #[.int .i64 0, .slice none 0 0] 26 (0, 0))) := ⟨by rw [← hq_]; exact (bk_ BK297)⟩; have n3_ : Aside0 (Below w.heap.size w w70) := ⟨by rw [← hq_]; exact (bl_ HB)⟩; clear BK295 BK296 BK297 HB hq_; have BK295 := n0_; have BK296 := n1_; have BK297 := n2_; have HB := n3_; clear n0_ n1_ n2_ n3_))))
     replace BK295 := am_ (blk_drew BK295.out); replace BK296 := am_ (blk_drew BK296.out); replace BK297 := am_ (blk_drew BK297.out); replace HB := am_ (below_drew1 HB.out)
     refine start_ (n := 9) (S := fun w' => w'.cell? ⟨gb296, 0, none⟩ = some (.int .i64 a1_0) ∧ w'.cell? ⟨gb296, 1, none⟩ = some (.slice A1_1 l1_1.length c1_1) ∧ w'.cell? ⟨gb295, 0, none⟩ = some (.int .i64 a0_0) ∧ w'.cell? ⟨gb295, 1, none⟩ = some (.slice A0_1 l0_1.length c0_1)) (ds := []) #[false, false, false, false, false, false, false, false, false] (by kernel_rfl) rfl rfl ⟨bc_ BK296 0, bc_ BK296 1, bc_ BK295 0, bc_ BK295 1⟩ (fun hHeld => ?_); refine with_tabW spec_l02Add.tab9 spec_l02Add.bits9 (fun HT_ HW_ => ?_)
     generalize w70.drew = w76 at BK295 BK296 BK297 HB hHeld ⊢
     refine pu_ #[true, false, false, false, false, false, false, false, false] 0 52 (any_of HT_.out (by kernel_rfl)) ?_
     refine pu_ #[true, false, true, false, false, false, false, false, false] 2 54 (any_of HT_.out (by kernel_rfl)) ?_
     refine pu_ #[true, false, true, false, true, false, false, false, false] 4 56 (any_of HT_.out (by kernel_rfl)) ?_
     refine tk_ #[true, true, true, false, true, false, false, false, false] 1 53 (take_ofW HT_.out HW_.out (by kernel_rfl)) hHeld ?_
     refine tk_ #[true, true, true, true, true, false, false, false, false] 3 55 (take_ofW HT_.out HW_.out (by kernel_rfl)) hHeld ?_
     refine tk_ #[true, true, true, true, true, true, false, false, false] 5 57 (take_ofW HT_.out HW_.out (by kernel_rfl)) hHeld ?_
     refine one_ (i := 6) (N := some 58) #[true, true, true, true, true, true, true, false, false] rfl rfl (one_of HT_.out (by kernel_rfl)) (by decide) (fun K hK => ?_)
     refine goes_ Tryd.func132 (by kernel_rfl) rfl #[.slice A1_1 l1_1.length c1_1, .slice A0_1 l0_1.length c0_1] (by rfl) rfl rfl ma_ ?_
     with_reducible refine (spec_l02Minus.calls k _ _ l1_1 _ _ l0_1 t321 _ ?side1 ?side2 ?side3 ?side4 A66.out).mono ?_
     (case side1 => exact cb_ HR1_1 HB)
     (case side2 => exact HC1_1.out)
     (case side3 => exact cb_ HR0_1 HB)
     (case side4 => exact HC0_1.out)
     rintro e w77 ⟨v322, rfl, ho0, hb⟩
     refine ⟨_, rfl, ?_⟩
     have HO323 := am_ (Kd.R_lower ho0 (below_size (bl_ HB))); replace BK295 := am_ (blk_below (bk_ BK295) hb); replace BK296 := am_ (blk_below (bk_ BK296) hb); replace BK297 := am_ (blk_below (bk_ BK297) hb); replace HB := am_ (below_step (bl_ HB) hb); (try clear hb); (try clear hb2); (try clear hk); (try clear hi); (try clear ho0)
     obtain ⟨Ao78, co78, eo78⟩ := Kd.R_slice HO323.out
     (first | subst eo78 | (injection eo78 with f1_ f2_ f3_; have f4_ := f1_.symm; have f5_ := f3_.symm; clear f1_ f2_ f3_; subst f4_; subst f5_))
     refine hK.out _ _ ⟨bc_ BK296 0, bc_ BK296 1, bc_ BK295 0, bc_ BK295 1⟩ (fun hHeld => ?_)
     clear hK K
     refine nr_ ?_
     refine one_ (i := 7) (N := some 59) #[true, true, true, true, true, true, true, true, false] rfl rfl (one_of HT_.out (by kernel_rfl)) (by decide) (fun K hK => ?_)
     refine goes_ Tryd.func87 (by kernel_rfl) rfl #[.int .i64 a1_0, .slice Ao78 t321.length co78] (by rfl) rfl rfl ma_ ?_
     with_reducible refine (spec_l02Make.calls k a1_0 _ _ t321 t324 t325 _ ?side1 ?side2 A67.out).mono ?_
     (case side1 => exact cr_ HO323)
     (case side2 => exact (Kd.R_reads' HO323.out).2.1)
     rintro e w79 ⟨v326, rfl, ho0, hb⟩
     refine ⟨_, rfl, ?_⟩
     have HO327 := am_ (Kd.R_lower (Kd.R_new' ho0 (Kd.R_lt (kr_ HO323))) (below_size (bl_ HB))); replace HO323 := am_ (Kd.R_elder' (kr_ HO323) (Kd.R_base ho0) hb); replace BK295 := am_ (blk_below (bk_ BK295) hb); replace BK296 := am_ (blk_below (bk_ BK296) hb); replace BK297 := am_ (blk_below (bk_ BK297) hb); replace HB := am_ (below_step (bl_ HB) hb); (try clear hb); (try clear hb2); (try clear hk); (try clear hi); (try clear ho0)
     obtain ⟨Ao81, co81, eo81⟩ := Kd.R_slice HO327.out
     (first | subst eo81 | (injection eo81 with f1_ f2_ f3_; have f4_ := f1_.symm; have f5_ := f3_.symm; clear f1_ f2_ f3_; subst f4_; subst f5_))
     refine hK.out _ _ ⟨bc_ BK296 0, bc_ BK296 1, bc_ BK295 0, bc_ BK295 1⟩ (fun hHeld => ?_)
     clear hK K
     refine nr_ ?_
     refine one_ (i := 8) (N := none) #[true, true, true, true, true, true, true, true, true] rfl rfl (one_of HT_.out (by kernel_rfl)) (by decide) (fun K hK => ?_)
     have hs80 : w79.cell? ⟨gb297, 0, none⟩ = some (.int .i64 0) := bc_ BK297 0
     have hfs80 := blk_frozen BK297.out 0; have hns80_0 := NB295_297.out; have hns80_1 := NB296_297.out; have hms80_0 := NB297_295.out; have hms80_1 := NB297_296.out
     have hs82 : w79.cell? ⟨gb297, 1, none⟩ = some (.slice none 0 0) := bc_ BK297 1
     have hfs82 := blk_frozen BK297.out 1; have hns82_0 := NB295_297.out; have hns82_1 := NB296_297.out; have hms82_0 := NB297_295.out; have hms82_1 := NB297_296.out
     refine skip_ (w1 := ?_) (by rfl) rfl ?_ ?_
     rotate_left
     ·go_simp
      rfl
     refine hK.out _ _ ⟨((cell_far (p := ⟨gb297, _, none⟩) NB296_297.out _).trans (((cell_far (p := ⟨gb297, _, none⟩) NB296_297.out _).trans (hHeld.1)))), ((cell_far (p := ⟨gb297, _, none⟩) NB296_297.out _).trans (((cell_far (p := ⟨gb297, _, none⟩) NB296_297.out _).trans (hHeld.2.1)))), ((cell_far (p := ⟨gb297, _, none⟩) NB295_297.out _).trans (((cell_far (p := ⟨gb297, _, none⟩) NB295_297.out _).trans (hHeld.2.2.1)))), ((cell_far (p := ⟨gb297, _, none⟩) NB295_297.out _).trans (((cell_far (p := ⟨gb297, _, none⟩) NB295_297.out _).trans (hHeld.2.2.2))))⟩ (fun hHeld => ?_)
     clear hK K
     refine done_ (done_of HT_.out (by kernel_rfl)) ?_
     try go_wp2
     refine bodyPost_ret (results_cell_row rfl _ _ gb297 26 #[.int .i64 t324, .slice Ao81 t325.length co81] (0, 0) _ rfl (bp2_ BK297) Tryd.underlying26 rfl (by kernel_rfl)) rfl ?_
     exact ⟨_, by first | rfl | (simp [errW_none, errW_some] <;> rfl) | (simp [*, errW_none, errW_some] <;> rfl), rt_ HO327 BK297, bl_ HB⟩
def spec_l02Left.l0 : Nat → Int → List Int → Int → Int → Int → List Int → Option (Int × List Int)
  | 0, _, _, _, _, _, _ => none
  | k + 1, x1, x5, x6, x7, x329000, x329001 => if x7 < (x329001.length : Int) then (if 0 ≤ x7 then (if 0 ≤ (IntKind.u64.wrap (Int.tmod x1 24)) then (if x5.length < 17592186044416 then (spec_l02Left.l0 k x1 (x5 ++ [Int.tmod (wrap64 (x6 + (shl .i64 (rd x329001 x7) (IntKind.u64.wrap (Int.tmod x1 24))))) 16777216]) (wrap64 (Int.tdiv (wrap64 (x6 + (shl .i64 (rd x329001 x7) (IntKind.u64.wrap (Int.tmod x1 24))))) 16777216)) (wrap64 (x7 + 1)) x329000 x329001) else (none)) else (none)) else (none)) else (if x5.length < 17592186044416 then ((spec_l02Make.f k x329000 (x5 ++ [x6])).bind fun bt340 => (some (bt340.1, bt340.2))) else (none))
def spec_l02Left.f (k : Nat) (a0_0 : Int) (l0_1 : List Int) (a1 : Int) : Option (Int × List Int) := if 0 ≤ (wrap64 (Int.tdiv a1 24)) then (if (wrap64 (Int.tdiv a1 24) : Int).toNat ≤ 35184372088832 then (spec_l02Left.l0 k a1 (List.replicate (wrap64 (Int.tdiv a1 24) : Int).toNat 0) 0 0 a0_0 l0_1) else (none)) else (none)
theorem spec_l02Left.mono_l : ∀ k, (∀ y0 y1 y2 y3 y4 y5, LeO (spec_l02Left.l0 k y0 y1 y2 y3 y4 y5) (spec_l02Left.l0 (k + 1) y0 y1 y2 y3 y4 y5))
  | 0 => fun _ _ _ _ _ _ r h => by simp [spec_l02Left.l0] at h
  | k + 1 => by
    have ih0 := spec_l02Left.mono_l k
    · intro y0 y1 y2 y3 y4 y5
      unfold spec_l02Left.l0
      repeat' first
      | (with_reducible exact ih0 _ _ _ _ _ _)
      | (with_reducible exact spec_l02Make.mono _ _ _)
      | (with_reducible exact LeO.refl _)
      | (with_reducible exact LeO.none _)
      | (with_reducible refine LeO.ite ?_ ?_)
      | (with_reducible refine LeO.bind ?_ (fun _ => ?_))
      | exact ih0 _ _ _ _ _ _
      | exact spec_l02Make.mono _ _ _
      | exact LeO.none _
      | refine LeO.ite ?_ ?_
      | refine LeO.bind ?_ (fun _ => ?_)
theorem spec_l02Left.mono : ∀ a0 a1 a2 k, LeO (spec_l02Left.f k a0 a1 a2) (spec_l02Left.f (k + 1) a0 a1 a2) := by
  intro a0 a1 a2 k
  have ih0 := spec_l02Left.mono_l k
  unfold spec_l02Left.f
  repeat' first
      | (with_reducible exact ih0 _ _ _ _ _ _)
      | (with_reducible exact spec_l02Make.mono _ _ _)
      | (with_reducible exact LeO.refl _)
      | (with_reducible exact LeO.none _)
      | (with_reducible refine LeO.ite ?_ ?_)
      | (with_reducible refine LeO.bind ?_ (fun _ => ?_))
      | exact ih0 _ _ _ _ _ _
      | exact spec_l02Make.mono _ _ _
      | exact LeO.none _
      | refine LeO.ite ?_ ?_
      | refine LeO.bind ?_ (fun _ => ?_)
def spec_l02Left.T9 : Bool × List (List Nat × List Nat) := (true, [([], []), ([0], [0]), ([], []), ([], []), ([3], [3]), ([2, 4], [2, 4]), ([1, 5, 5], [1, 5]), ([6, 6, 0, 1, 2, 3, 4, 5, 6], [6])])
def spec_l02Left.B9 : List Nat := [0, 1, 0, 0, 8, 28, 63, 127]
theorem spec_l02Left.tab9 : rtab .any (opsOf Tryd.f106 9) = spec_l02Left.T9 := by kernel_rfl
theorem spec_l02Left.bits9 : waitsOk spec_l02Left.T9.2 spec_l02Left.B9 = true := by kernel_rfl
set_option maxHeartbeats 8000000 in
set_option maxRecDepth 100000 in
theorem spec_l02Left.calls (k : Nat) (a0_0 : Int) (A0_1 : Option Addr) (c0_1 : Nat) (l0_1 : List Int) (a1 : Int) (r1 : Int) (r2 : List Int) (w : World) (hr0_1 : Kd.C (Kd.int .i64) w A0_1 l0_1.length l0_1) (hc0_1 : l0_1.length ≤ c0_1) (h : spec_l02Left.f k a0_0 l0_1 a1 = some (r1, r2)) :
  Calls Tryd.prog 106 #[.agg #[.int .i64 a0_0, .slice A0_1 l0_1.length c0_1], .int .i64 a1] w fun e w' => ∃ v1_ : Value, e = .returned (.agg #[.int .i64 r1, v1_]) ∧ Kd.R (Kd.int .i64) 2 w' w.heap.size (fun _ => True) v1_ r2 ∧ Below w.heap.size w w' := by
 have hu26 := Tryd.underlying26; have HR0_1 := am_ hr0_1; have HC0_1 := am_ hc0_1; clear hr0_1 hc0_1; have HB := am_ (Below.refl w.heap.size w)
 have H : (if 0 ≤ (wrap64 (Int.tdiv a1 24)) then (if (wrap64 (Int.tdiv a1 24) : Int).toNat ≤ 35184372088832 then (spec_l02Left.l0 k a1 (List.replicate (wrap64 (Int.tdiv a1 24) : Int).toNat 0) 0 0 a0_0 l0_1) else (none)) else (none)) = some (r1, r2) := h
 clear h
 obtain ⟨ji3, hji3⟩ : ∃ j_ : Int, (wrap64 (Int.tdiv a1 24)) = j_ := ⟨_, rfl⟩
 replace H : (if 0 ≤ (ji3) then (if (ji3 : Int).toNat ≤ 35184372088832 then (spec_l02Left.l0 k a1 (List.replicate (ji3 : Int).toNat 0) 0 0 a0_0 l0_1) else (none)) else (none)) = some (r1, r2) := by first | (rw [hji3] at H; exact H) | (simp only [hji3] at H ⊢; exact H)
 have hji3w : (IntKind.i64.wrap (Int.tdiv a1 24)) = ji3 := (i64_w _).trans hji3
 by_cases c4 : 0 ≤ (ji3)
 ·rw [if_pos c4] at H
  have c4b0 := eq_true c4
  have c4b1 : decide (0 ≤ (ji3)) = true := decide_eq_true c4
  clear c4
  by_cases c5 : (ji3 : Int).toNat ≤ 35184372088832
  ·rw [if_pos c5] at H
   have c5b0 := eq_true c5
   have c5b1 : decide ((ji3 : Int).toNat ≤ 35184372088832) = true := decide_eq_true c5
   clear c5
   obtain ⟨y330, hy330⟩ : ∃ y_ : List Int, y_ = (List.replicate (ji3 : Int).toNat 0) := ⟨_, rfl⟩
   replace H : (spec_l02Left.l0 k a1 y330 0 0 a0_0 l0_1) = some (r1, r2) := by first | (rw [hy330]; with_reducible exact H) | (have H2_ := (Option.bind_some _ _).symm.trans H; rw [hy330]; with_reducible exact H2_) | (have H2_ := (Option.bind_some _ _).symm.trans H; with_reducible exact H2_) | with_reducible exact H | (rw [hy330]; exact H) | exact H
   have Ny330 := am_ hy330; clear hy330
   have H' := am_ H
   clear H
   go_enter Tryd.func106, Tryd.ntmps106
   go_wp2_with (first | ((with_reducible refine gate_dst (N := 2) rfl ?_); refine bx_ 2 #[.int .i64 a0_0, .slice A0_1 l0_1.length c0_1] 26 ?_; intro gb328 hg w6 hbox hb; obtain ⟨BK328, GW328, GE328⟩ := nb_ hbox hg HB; replace HB := bs_ HB hb; clear hb hbox hg) | ((with_reducible refine gate_dst (N := 4) rfl ?_); refine bx_ 4 #[.int .i64 0, .slice none 0 0] 26 ?_; intro gb329 hg w7 hbox hb; obtain ⟨BK329, GW329, GE329⟩ := nb_ hbox hg HB; obtain ⟨NB328_329, NB329_328⟩ := nn_ hg BK328; replace BK328 := bb_ BK328 hb; replace HB := bs_ HB hb; clear hb hbox hg) | ((with_reducible refine gate_dst (N := 10) rfl ?_); refine Kd.R_make (Kd.int .i64) _ 2 rfl (N := 10) rfl 22 _ _ rfl ji3 rfl rfl Tryd.underlying22 (.int .i64 0) 8 info2 rfl (by decide) (by omega) 0 (ok := fun _ => True) (okp := fun _ => True) rfl (fun _ hk => hk) trivial (of_decide_eq_true (by first | (with_reducible assumption) | assumption)) (Nat.le_trans (Nat.mul_le_mul_right _ (of_decide_eq_true (by first | (with_reducible assumption) | assumption) : ji3.toNat ≤ 35184372088832)) (by omega)) (Below.refl _ _) (Nat.le_refl _) ?_; intro v331 w8 ho9 hb hg_ hnew_; clear hg_ hnew_; (first | rw [← Ny330.out] at ho9 | (simp only [Int.reduceToNat] at ho9; rw [← Ny330.out] at ho9)); have HO332 := am_ (Kd.R_lower ho9 (below_size (bl_ HB))); replace BK328 := bb_ BK328 hb; replace BK329 := bb_ BK329 hb; replace HB := bs_ HB hb; clear hb ho9))
   go_loopg [5, 6, 7] k (fun kq v5 v6 v7 w' => ∃ (x5_1 : List Int) (x6_1 : Int) (x7_1 : Int), v6 = .int .i64 x6_1 ∧ v7 = .int .i64 x7_1 ∧ Aside0 (spec_l02Left.l0 kq a1 x5_1 x6_1 x7_1 a0_0 l0_1 = some (r1, r2)) ∧ Aside0 (kq ≤ k) ∧ Aside0 (Kd.R (Kd.int .i64) 2 w' w.heap.size (fun _ => True) v5 x5_1) ∧ Aside0 (w'.heap[gb328]? = some (.cells #[.int .i64 a0_0, (.slice A0_1 l0_1.length c0_1)] 26 (0, 0))) ∧ Aside0 (w'.heap[gb329]? = some (.cells #[.int .i64 0, (.slice none 0 0)] 26 (0, 0))) ∧ Aside0 (Below w.heap.size w w'))
   case atStart => exact ⟨(y330), (0), (0), (by first | rfl | (simp; done) | (simp [*]; done)), (by first | rfl | (simp; done) | (simp [*]; done)), H', ⟨Nat.le_refl _⟩, ⟨kr_ HO332⟩, ⟨bk_ BK328⟩, ⟨bk_ BK329⟩, ⟨bl_ HB⟩⟩
   case round =>
    clear H'; try clear c4; try clear c4b0; try clear c4b1; try clear c5; try clear c5b0; try clear c5b1
    obtain ⟨x5_1, x6_1, x7_1, rfl, rfl, HA, HK1, HO_5, BK328, BK329, HB⟩ := hrel
    cases gk with
    | zero => exact absurd HA.out (by simp [spec_l02Left.l0])
    | succ k1 =>
     have H := HA.out; clear HA
     simp only [spec_l02Left.l0] at H
     by_cases c10 : x7_1 < (l0_1.length : Int)
     ·rw [if_pos c10] at H
      have c10b0 : decide (x7_1 < (l0_1.length : Int)) = true := decide_eq_true c10
      clear c10
      by_cases c11 : 0 ≤ x7_1
      ·rw [if_pos c11] at H
       have c11b0 : decide (0 ≤ x7_1) = true := decide_eq_true c11
       clear c11
       obtain ⟨ji12, hji12⟩ : ∃ j_ : Int, (IntKind.u64.wrap (Int.tmod a1 24)) = j_ := ⟨_, rfl⟩
       replace H : (if 0 ≤ (ji12) then (if x5_1.length < 17592186044416 then (spec_l02Left.l0 k1 a1 (x5_1 ++ [Int.tmod (wrap64 (x6_1 + (shl .i64 (rd l0_1 x7_1) (ji12)))) 16777216]) (wrap64 (Int.tdiv (wrap64 (x6_1 + (shl .i64 (rd l0_1 x7_1) (ji12)))) 16777216)) (wrap64 (x7_1 + 1)) a0_0 l0_1) else (none)) else (none)) = some (r1, r2) := by first | (rw [hji12] at H; exact H) | (simp only [hji12] at H ⊢; exact H)
       by_cases c13 : 0 ≤ (ji12)
       ·rw [if_pos c13] at H
        have c13b0 := eq_true c13
        have c13b1 : decide (0 ≤ (ji12)) = true := decide_eq_true c13
        clear c13
        obtain ⟨ji14, hji14⟩ : ∃ j_ : Int, (shl .i64 (rd l0_1 x7_1) (ji12)) = j_ := ⟨_, rfl⟩
        replace H : (if x5_1.length < 17592186044416 then (spec_l02Left.l0 k1 a1 (x5_1 ++ [Int.tmod (wrap64 (x6_1 + (ji14))) 16777216]) (wrap64 (Int.tdiv (wrap64 (x6_1 + (ji14))) 16777216)) (wrap64 (x7_1 + 1)) a0_0 l0_1) else (none)) = some (r1, r2) := by first | (rw [hji14] at H; exact H) | (simp only [hji14] at H ⊢; exact H)
        have hji14_ : (IntKind.i64.wrap ((rd l0_1 x7_1) * 2 ^ min (ji12).toNat 64)) = ji14 := hji14
        have hji14z : (ji12) ≤ 64 → (IntKind.i64.wrap ((rd l0_1 x7_1) * 2 ^ (ji12).toNat)) = ji14 := shl_small hji14
        have hji14y : (wrap64 ((rd l0_1 x7_1) * 2 ^ min (ji12).toNat 64)) = ji14 := (i64_w _).symm.trans hji14_
        have hji14x : (ji12) ≤ 64 → (wrap64 ((rd l0_1 x7_1) * 2 ^ (ji12).toNat)) = ji14 := fun h_ => (i64_w _).symm.trans (hji14z h_)
        by_cases c15 : x5_1.length < 17592186044416
        ·rw [if_pos c15] at H
         have LMc15 := am_ c15; clear c15
         obtain ⟨y334, hy334⟩ : ∃ y_ : List Int, y_ = (x5_1 ++ [Int.tmod (wrap64 (x6_1 + (ji14))) 16777216]) := ⟨_, rfl⟩
         replace H : (spec_l02Left.l0 k1 a1 y334 (wrap64 (Int.tdiv (wrap64 (x6_1 + (ji14))) 16777216)) (wrap64 (x7_1 + 1)) a0_0 l0_1) = some (r1, r2) := by first | (rw [hy334]; with_reducible exact H) | (have H2_ := (Option.bind_some _ _).symm.trans H; rw [hy334]; with_reducible exact H2_) | (have H2_ := (Option.bind_some _ _).symm.trans H; with_reducible exact H2_) | with_reducible exact H | (rw [hy334]; exact H) | exact H
         have Ny334 := am_ hy334; clear hy334
         have H' := am_ H
         clear H; have hnb16 := NB328_329.out; have hnc16 := NB329_328.out
         obtain ⟨hcz17_0, hcz17_1, hfz17_0, hfz17_1⟩ := ck2_ BK328
         have p333 : 0 ≤ (x7_1 : Int) := of_decide_eq_true (by first | (with_reducible assumption) | assumption)
         have q333 : x7_1 < (l0_1.length : Int) := of_decide_eq_true (by first | (with_reducible assumption) | assumption)
         obtain ⟨ad333, e333, hx333_0⟩ := Kd.at_int HR0_1.out x7_1 p333 q333
         cases e333
         replace hx333_0 := (HB.out.cell (World.block_lt_of_cell? w _ hx333_0)).trans hx333_0
         replace p333 := eq_true p333
         replace q333 := eq_true q333
         go_wp2_with (first | ((with_reducible refine gate_builtin (b := .append) (xs := #[.tmp 29, .tmp 32]) rfl ?_); at_builtin; refine Kd.R_append (Kd.int .i64) (w0 := w) w.heap.size rfl (.tmp 29) (.tmp 32) 22 2 (.int .i64 0) 8 rfl Tryd.underlying22 info2 rfl (by decide) (by omega) u5 x5_1 (Int.tmod (wrap64 (x6_1 + (ji14))) 16777216) [.int .i64 (Int.tmod (wrap64 (x6_1 + (ji14))) 16777216)] (fun _ => True) (fun _ => False) rfl rfl ?aP (fun _ hk => hk.elim) ?aF ?aO ?aB ?aS ?aL ?_; (case aP => exact rfl); (case aB => exact (bl_ HB)); (case aF => exact (fun _ _ => trivial)); (case aO => exact (kr_ HO_5)); (case aS => exact (below_size (bl_ HB))); (case aL => have := LMc15.out; omega); intro v335 w18 ho hb hg hat; rw [← Ny334.out] at ho; have n0_ := am_ (blk_grown (g := gb328) (o := .cells #[.int .i64 a0_0, .slice (some ad333) l0_1.length c0_1] 26 (0, 0)) (bk_ BK328) hg (Kd.R_ne HO_5.out BK328.out (by decide))); have n1_ := am_ (blk_grown (g := gb329) (o := .cells #[.int .i64 0, .slice none 0 0] 26 (0, 0)) (bk_ BK329) hg (Kd.R_ne HO_5.out BK329.out (by decide))); have n2_ := am_ (hb); have n3_ := am_ (ho); clear BK328; clear BK329; clear HB; clear HO_5; have BK328 := n0_; have BK329 := n1_; have HB := n2_; have HO336 := n3_; clear n0_ n1_ n2_ n3_; clear ho hb hg hat))
         go_roundg k1
         case measure => have := HK1.out; omega
         case rel => exact ⟨(y334), (wrap64 (Int.tdiv (wrap64 (x6_1 + (ji14))) 16777216)), (wrap64 (x7_1 + 1)), (by first | rfl | (simp; done) | (simp only [← hji14] <;> (first | rfl | simp)) | (simp [*]; done)), (by first | rfl | (simp; done) | (simp [*]; done)), H', ⟨by have := HK1.out; omega⟩, ⟨kr_ HO336⟩, ⟨bk_ BK328⟩, ⟨bk_ BK329⟩, ⟨bl_ HB⟩⟩
        ·rw [if_neg c15] at H
         exact absurd H (by simp)
       ·rw [if_neg c13] at H
        exact absurd H (by simp)
      ·rw [if_neg c11] at H
       exact absurd H (by simp)
     ·rw [if_neg c10] at H
      have c10b0 : decide (x7_1 < (l0_1.length : Int)) = false := decide_eq_false c10
      clear c10
      by_cases c19 : x5_1.length < 17592186044416
      ·rw [if_pos c19] at H
       have LMc19 := am_ c19; clear c19
       obtain ⟨y337, hy337⟩ : ∃ y_ : List Int, y_ = (x5_1 ++ [x6_1]) := ⟨_, rfl⟩
       replace H : ((spec_l02Make.f k1 a0_0 y337).bind fun bt340 => (some (bt340.1, bt340.2))) = some (r1, r2) := by first | (rw [hy337]; with_reducible exact H) | (have H2_ := (Option.bind_some _ _).symm.trans H; rw [hy337]; with_reducible exact H2_) | (have H2_ := (Option.bind_some _ _).symm.trans H; with_reducible exact H2_) | with_reducible exact H | (rw [hy337]; exact H) | exact H
       have Ny337 := am_ hy337; clear hy337
       replace H := Option.bind_eq_some_iff.mp H
       obtain ⟨⟨t340, t341⟩, A200, H⟩ := H
       replace H : (some (t340, t341)) = some (r1, r2) := H
       have A20 := am_ A200; clear A200
       simp only [Option.some.injEq, Prod.mk.injEq] at H
       obtain ⟨rfl, rfl⟩ := H
       have hnb21 := NB328_329.out; have hnc21 := NB329_328.out
       obtain ⟨hcz22_0, hcz22_1, hfz22_0, hfz22_1⟩ := ck2_ BK328
       try go_wp2
       replace HO_5 := am_ (Kd.R_drew HO_5.out); replace BK328 := am_ (blk_drew BK328.out); replace BK329 := am_ (blk_drew BK329.out); replace HB := am_ (below_drew1 HB.out)
       refine start_ (n := 8) (S := fun w' => w'.cell? ⟨gb328, 0, none⟩ = some (.int .i64 a0_0) ∧ w'.cell? ⟨gb328, 1, none⟩ = some (.slice A0_1 l0_1.length c0_1)) (ds := []) #[false, false, false, false, false, false, false, false] (by kernel_rfl) rfl rfl ⟨bc_ BK328 0, bc_ BK328 1⟩ (fun hHeld => ?_); refine with_tabW spec_l02Left.tab9 spec_l02Left.bits9 (fun HT_ HW_ => ?_)
       generalize wr.drew = w23 at HO_5 BK328 BK329 HB hHeld ⊢
       refine pu_ #[true, false, false, false, false, false, false, false] 0 36 (any_of HT_.out (by kernel_rfl)) ?_
       refine pu_ #[true, false, true, false, false, false, false, false] 2 38 (any_of HT_.out (by kernel_rfl)) ?_
       refine pu_ #[true, false, true, true, false, false, false, false] 3 39 (any_of HT_.out (by kernel_rfl)) ?_
       refine tk_ #[true, true, true, true, false, false, false, false] 1 37 (take_ofW HT_.out HW_.out (by kernel_rfl)) hHeld ?_
       refine one_ (i := 4) (N := some 40) #[true, true, true, true, true, false, false, false] rfl rfl (one_of HT_.out (by kernel_rfl)) (by decide) (fun K hK => ?_)
       refine value_ (w1 := ?_) (v := ?_) (by rfl) rfl ?_ ?_
       rotate_left 2
       ·go_simp
        constructor
        ·rfl
        ·rfl
       refine hK.out _ _ ⟨(blk_cell (blk_alloc BK328.out _) 0).trans rfl, (blk_cell (blk_alloc BK328.out _) 1).trans rfl⟩ (fun hHeld => ?_)
       clear hK K
       refine nr_ ?_
       refine one_ (i := 5) (N := some 41) #[true, true, true, true, true, true, false, false] rfl rfl (one_of HT_.out (by kernel_rfl)) (by decide) (fun K hK => ?_)
       refine Kd.R_append_step (Kd.int .i64) (w0 := w) w.heap.size (by rfl) (.tmp 38) (.tmp 40) 22 2 (.int .i64 0) 8 rfl Tryd.underlying22 info2 rfl (by decide) (by omega) u5 x5_1 x6_1 [.int .i64 x6_1] (fun _ => True) (fun _ => False) rfl rfl ?aP (fun _ hk => hk.elim) ?aF ?aO ?aB ?aS ?aL ?_
       (case aP => exact rfl)
       (case aB => exact (bl_ HB))
       (case aF => exact (fun _ _ => trivial))
       (case aO => exact (kr_ HO_5))
       (case aS => exact (below_size (bl_ HB)))
       (case aL => have := LMc19.out; omega)
       intro v338 w24 ho hb hg hat
       rw [← Ny337.out] at ho
       have n0_ := am_ (blk_grown (g := gb328) (o := .cells #[.int .i64 a0_0, .slice A0_1 l0_1.length c0_1] 26 (0, 0)) (bk_ BK328) hg (Kd.R_ne HO_5.out BK328.out (by decide)))
       have n1_ := am_ (blk_grown (g := gb329) (o := .cells #[.int .i64 0, .slice none 0 0] 26 (0, 0)) (bk_ BK329) hg (Kd.R_ne HO_5.out BK329.out (by decide)))
       have n2_ := am_ (hb); have n3_ := am_ (ho); clear BK328 BK329 HB HO_5; have BK328 := n0_; have BK329 := n1_; have HB := n2_; have HO339 := n3_; clear n0_ n1_ n2_ n3_ ho hb hg hat
       obtain ⟨Ao25, co25, eo25⟩ := Kd.R_slice HO339.out
       (first | subst eo25 | (injection eo25 with f1_ f2_ f3_; have f4_ := f1_.symm; have f5_ := f3_.symm; clear f1_ f2_ f3_; subst f4_; subst f5_))
       refine hK.out _ _ ⟨bc_ BK328 0, bc_ BK328 1⟩ (fun hHeld => ?_)
       clear hK K
       refine nr_ ?_
       refine one_ (i := 6) (N := some 42) #[true, true, true, true, true, true, true, false] rfl rfl (one_of HT_.out (by kernel_rfl)) (by decide) (fun K hK => ?_)
       refine goes_ Tryd.func87 (by kernel_rfl) rfl #[.int .i64 a0_0, .slice Ao25 y337.length co25] (by rfl) rfl rfl ma_ ?_
       with_reducible refine (spec_l02Make.calls k1 a0_0 _ _ y337 t340 t341 _ ?side1 ?side2 A20.out).mono ?_
       (case side1 => exact cr_ HO339)
       (case side2 => exact (Kd.R_reads' HO339.out).2.1)
       rintro e w26 ⟨v342, rfl, ho0, hb⟩
       refine ⟨_, rfl, ?_⟩
       have HO343 := am_ (Kd.R_lower (Kd.R_new' ho0 (Kd.R_lt (kr_ HO339))) (below_size (bl_ HB))); replace HO339 := am_ (Kd.R_elder' (kr_ HO339) (Kd.R_base ho0) hb); replace BK328 := am_ (blk_below (bk_ BK328) hb); replace BK329 := am_ (blk_below (bk_ BK329) hb); replace HB := am_ (below_step (bl_ HB) hb); (try clear hb); (try clear hb2); (try clear hk); (try clear hi); (try clear ho0)
       obtain ⟨Ao28, co28, eo28⟩ := Kd.R_slice HO343.out
       (first | subst eo28 | (injection eo28 with f1_ f2_ f3_; have f4_ := f1_.symm; have f5_ := f3_.symm; clear f1_ f2_ f3_; subst f4_; subst f5_))
       refine hK.out _ _ ⟨bc_ BK328 0, bc_ BK328 1⟩ (fun hHeld => ?_)
       clear hK K
       refine nr_ ?_
       refine one_ (i := 7) (N := none) #[true, true, true, true, true, true, true, true] rfl rfl (one_of HT_.out (by kernel_rfl)) (by decide) (fun K hK => ?_)
       have hs27 : w26.cell? ⟨gb329, 0, none⟩ = some (.int .i64 0) := bc_ BK329 0
       have hfs27 := blk_frozen BK329.out 0; have hns27_0 := NB328_329.out; have hms27_0 := NB329_328.out
       have hs29 : w26.cell? ⟨gb329, 1, none⟩ = some (.slice none 0 0) := bc_ BK329 1
       have hfs29 := blk_frozen BK329.out 1; have hns29_0 := NB328_329.out; have hms29_0 := NB329_328.out
       refine skip_ (w1 := ?_) (by rfl) rfl ?_ ?_
       rotate_left
       ·go_simp
        rfl
       refine hK.out _ _ ⟨((cell_far (p := ⟨gb329, _, none⟩) NB328_329.out _).trans (((cell_far (p := ⟨gb329, _, none⟩) NB328_329.out _).trans (hHeld.1)))), ((cell_far (p := ⟨gb329, _, none⟩) NB328_329.out _).trans (((cell_far (p := ⟨gb329, _, none⟩) NB328_329.out _).trans (hHeld.2))))⟩ (fun hHeld => ?_)
       clear hK K
       refine done_ (done_of HT_.out (by kernel_rfl)) ?_
       try go_wp2
       refine bodyPost_ret (results_cell_row rfl _ _ gb329 26 #[.int .i64 t340, .slice Ao28 t341.length co28] (0, 0) _ rfl (bp2_ BK329) Tryd.underlying26 rfl (by kernel_rfl)) rfl ?_
       exact ⟨_, by first | rfl | (simp [errW_none, errW_some] <;> rfl) | (simp only [← hji3]; first | rfl | (simp [errW_none, errW_some] <;> rfl)) | (simp [*, errW_none, errW_some] <;> rfl), rt_ HO343 BK329, bl_ HB⟩
      ·rw [if_neg c19] at H
       exact absurd H (by simp)
  ·rw [if_neg c5] at H
   exact absurd H (by simp)
 ·rw [if_neg c4] at H
  exact absurd H (by simp)
end Go.Proofs.YtghhphndbbefjaaDoor.X
namespace Go.Proofs.YtghhphndbbefjaaDoor.X
open Go.RowKit Go.Proofs.YtghhphndbbefjaaDoorW.PrintWords Go.Proofs.YtghhphndbbefjaaDoorW.PrintLast Go.Proofs.YtghhphndbbefjaaDoorW.PrintMore Go.Proofs.YtghhphndbbefjaaDoor.Sq
attribute [local go_sem] max2_int min2_int max_two min_two max_three min_three max_four min_four   -- for this text's walks alone
set_option linter.unusedVariables false
set_option linter.unusedSimpArgs false
def spec_l03Add.f (k : Nat) (a0_0 : Int) (l0_1 : List Int) (a0_2 : Int) (a1_0 : Int) (l1_1 : List Int) (a1_2 : Int) : Option (Int × List Int × Int) := if a0_0 = 0 then ((spec_l03Make.f k a1_0 l1_1 a1_2).bind fun bt347 => (some (bt347.1, bt347.2.1, bt347.2.2))) else (if a1_0 = 0 then ((spec_l03Make.f k a0_0 l0_1 a0_2).bind fun bt352 => (some (bt352.1, bt352.2.1, bt352.2.2))) else ((spec_l02Left.f k a0_0 l0_1 (wrap64 (a0_2 - (mn a0_2 a1_2)))).bind fun bt357 => ((spec_l02Left.f k a1_0 l1_1 (wrap64 (a1_2 - (mn a0_2 a1_2)))).bind fun bt361 => ((spec_l02Add.f k bt357.1 bt357.2 bt361.1 bt361.2).bind fun bt365 => ((spec_l03Make.f k bt365.1 bt365.2 (mn a0_2 a1_2)).bind fun bt369 => (some (bt369.1, bt369.2.1, bt369.2.2)))))))
theorem spec_l03Add.mono : ∀ a0 a1 a2 a3 a4 a5 k, LeO (spec_l03Add.f k a0 a1 a2 a3 a4 a5) (spec_l03Add.f (k + 1) a0 a1 a2 a3 a4 a5) := by
  intro a0 a1 a2 a3 a4 a5 k
  unfold spec_l03Add.f
  repeat' first
      | (with_reducible exact spec_l02Add.mono _ _ _ _ _)
      | (with_reducible exact spec_l02Left.mono _ _ _ _)
      | (with_reducible exact spec_l03Make.mono _ _ _ _)
      | (with_reducible exact LeO.refl _)
      | (with_reducible exact LeO.none _)
      | (with_reducible refine LeO.ite ?_ ?_)
      | (with_reducible refine LeO.bind ?_ (fun _ => ?_))
      | exact spec_l02Add.mono _ _ _ _ _
      | exact spec_l02Left.mono _ _ _ _
      | exact spec_l03Make.mono _ _ _ _
      | exact LeO.none _
      | refine LeO.ite ?_ ?_
      | refine LeO.bind ?_ (fun _ => ?_)
def spec_l03Add.T6 : Bool × List (List Nat × List Nat) := (true, [([], []), ([0], [0]), ([], []), ([2], [2]), ([], []), ([3, 4], [3, 4]), ([1, 5], [1, 5]), ([], []), ([7], [7]), ([], []), ([9], [9]), ([], []), ([10, 11], [10, 11]), ([8, 12, 6], [8, 12]), ([6, 13, 13], [6, 13]), ([], []), ([14, 15, 14], [14, 15]), ([16, 16, 0, 1, 2, 3, 4, 5, 6, 7, 8, 9, 10, 11, 12, 13, 14, 15, 16], [16])])
def spec_l03Add.B6 : List Nat := [0, 1, 0, 4, 0, 28, 63, 0, 128, 0, 512, 0, 3584, 8191, 16383, 0, 65535, 131071]
theorem spec_l03Add.tab6 : rtab .any (opsOf Tryd.f115 6) = spec_l03Add.T6 := by kernel_rfl
theorem spec_l03Add.bits6 : waitsOk spec_l03Add.T6.2 spec_l03Add.B6 = true := by kernel_rfl
set_option maxHeartbeats 8000000 in
set_option maxRecDepth 100000 in
theorem spec_l03Add.calls (k : Nat) (a0_0 : Int) (A0_1 : Option Addr) (c0_1 : Nat) (l0_1 : List Int) (a0_2 : Int) (a1_0 : Int) (A1_1 : Option Addr) (c1_1 : Nat) (l1_1 : List Int) (a1_2 : Int) (r1 : Int) (r2 : List Int) (r3 : Int) (w : World) (hr0_1 : Kd.C (Kd.int .i64) w A0_1 l0_1.length l0_1) (hc0_1 : l0_1.length ≤ c0_1) (hr1_1 : Kd.C (Kd.int .i64) w A1_1 l1_1.length l1_1) (hc1_1 : l1_1.length ≤ c1_1) (h : spec_l03Add.f k a0_0 l0_1 a0_2 a1_0 l1_1 a1_2 = some (r1, r2, r3)) :
  Calls Tryd.prog 115 #[.agg #[.int .i64 a0_0, .slice A0_1 l0_1.length c0_1, .int .i64 a0_2], .agg #[.int .i64 a1_0, .slice A1_1 l1_1.length c1_1, .int .i64 a1_2]] w fun e w' => ∃ v1_ : Value, e = .returned (.agg #[.int .i64 r1, v1_, .int .i64 r3]) ∧ Kd.R (Kd.int .i64) 2 w' w.heap.size (fun _ => True) v1_ r2 ∧ Below w.heap.size w w' := by
 have hu45 := Tryd.underlying45; have hu26 := Tryd.underlying26; have HR0_1 := am_ hr0_1; have HC0_1 := am_ hc0_1; clear hr0_1 hc0_1; have HR1_1 := am_ hr1_1; have HC1_1 := am_ hc1_1; clear hr1_1 hc1_1; have HB := am_ (Below.refl w.heap.size w)
 have H : (if a0_0 = 0 then ((spec_l03Make.f k a1_0 l1_1 a1_2).bind fun bt347 => (some (bt347.1, bt347.2.1, bt347.2.2))) else (if a1_0 = 0 then ((spec_l03Make.f k a0_0 l0_1 a0_2).bind fun bt352 => (some (bt352.1, bt352.2.1, bt352.2.2))) else ((spec_l02Left.f k a0_0 l0_1 (wrap64 (a0_2 - (mn a0_2 a1_2)))).bind fun bt357 => ((spec_l02Left.f k a1_0 l1_1 (wrap64 (a1_2 - (mn a0_2 a1_2)))).bind fun bt361 => ((spec_l02Add.f k bt357.1 bt357.2 bt361.1 bt361.2).bind fun bt365 => ((spec_l03Make.f k bt365.1 bt365.2 (mn a0_2 a1_2)).bind fun bt369 => (some (bt369.1, bt369.2.1, bt369.2.2)))))))) = some (r1, r2, r3) := h
 clear h
 by_cases c3 : a0_0 = 0
 ·rw [if_pos c3] at H
  have c3b0 : (a0_0 == 0) = true := beq_iff_eq.mpr c3
  have c3b1 : (a0_0 != 0) = false := bne_eq_false_iff_eq.mpr c3
  clear c3
  replace H := Option.bind_eq_some_iff.mp H
  obtain ⟨⟨t347, t348, t351⟩, A40, H⟩ := H
  replace H : (some (t347, t348, t351)) = some (r1, r2, r3) := H
  have A4 := am_ A40; clear A40
  simp only [Option.some.injEq, Prod.mk.injEq] at H
  obtain ⟨rfl, rfl, rfl⟩ := H
  go_enter Tryd.func115, Tryd.ntmps115
  go_wp2_with (first | ((with_reducible refine gate_dst (N := 2) rfl ?_); refine bx_ 2 #[.int .i64 a0_0, .slice A0_1 l0_1.length c0_1, .int .i64 a0_2] 45 ?_; intro gb344 hg w5 hbox hb; obtain ⟨BK344, GW344, GE344⟩ := nb_ hbox hg HB; replace HB := bs_ HB hb; clear hb hbox hg) | ((with_reducible refine gate_dst (N := 3) rfl ?_); refine bx_ 3 #[.int .i64 a1_0, .slice A1_1 l1_1.length c1_1, .int .i64 a1_2] 45 ?_; intro gb345 hg w6 hbox hb; obtain ⟨BK345, GW345, GE345⟩ := nb_ hbox hg HB; obtain ⟨NB344_345, NB345_344⟩ := nn_ hg BK344; replace BK344 := bb_ BK344 hb; replace HB := bs_ HB hb; clear hb hbox hg) | ((with_reducible refine gate_dst (N := 4) rfl ?_); refine bx_ 4 #[.int .i64 0, .slice none 0 0, .int .i64 0] 45 ?_; intro gb346 hg w7 hbox hb; obtain ⟨BK346, GW346, GE346⟩ := nb_ hbox hg HB; obtain ⟨NB344_346, NB346_344⟩ := nn_ hg BK344; obtain ⟨NB345_346, NB346_345⟩ := nn_ hg BK345; replace BK344 := bb_ BK344 hb; replace BK345 := bb_ BK345 hb; replace HB := bs_ HB hb; clear hb hbox hg; have hnb8 := NB344_345.out; have hnc8 := NB345_344.out; have hnb9 := NB344_346.out; have hnc9 := NB346_344.out; obtain ⟨hcz10_0, hcz10_1, hcz10_2, hfz10_0, hfz10_1, hfz10_2⟩ := ck3_ BK344; have hnb11 := NB345_346.out; have hnc11 := NB346_345.out; obtain ⟨hcz12_0, hcz12_1, hcz12_2, hfz12_0, hfz12_1, hfz12_2⟩ := ck3_ BK345) | ((with_reducible refine gate_callee (f := 118) rfl ?_); refine goesL_ (some 14) rfl rfl Tryd.func118 (by kernel_rfl) rfl #[.agg #[.int .i64 a1_0, .slice A1_1 l1_1.length c1_1], .int .i64 a1_2] rfl ma_ ?_; (with_reducible refine (spec_l03Make.calls k a1_0 _ _ l1_1 a1_2 t347 t348 t351 _ ?side1 ?side2 A4.out).mono ?_); (case side1 => exact cb_ HR1_1 HB); (case side2 => exact HC1_1.out); rintro e w13 ⟨v349, rfl, ho0, hb⟩; refine ⟨_, rfl, ?_⟩; have HO350 := am_ (Kd.R_lower ho0 (below_size (bl_ HB))); replace BK344 := bb_ BK344 hb; replace BK345 := bb_ BK345 hb; replace BK346 := bb_ BK346 hb; replace HB := bs_ HB hb; (try clear hb); (try clear ho0); obtain ⟨hcz14_0, hcz14_1, hcz14_2, hfz14_0, hfz14_1, hfz14_2⟩ := ck3_ BK346; obtain ⟨Ao15, co15, eo15⟩ := Kd.R_slice HO350.out; subst eo15))
  refine bodyPost_ret (results_cell_row rfl _ _ gb346 45 #[.int .i64 t347, .slice Ao15 t348.length co15, .int .i64 t351] (0, 0) _ rfl (bp3_ BK346) Tryd.underlying45 rfl (by kernel_rfl)) rfl ?_
  exact ⟨_, by first | rfl | (simp [errW_none, errW_some] <;> rfl) | (simp [*, errW_none, errW_some] <;> rfl), ru_ HO350 BK346, bl_ HB⟩
 ·rw [if_neg c3] at H
  have c3b0 : (a0_0 == 0) = false := beq_eq_false_iff_ne.mpr c3
  have c3b1 : (a0_0 != 0) = true := bne_iff_ne.mpr c3
  by_cases c16 : a1_0 = 0
  ·rw [if_pos c16] at H
   have c16b0 : (a1_0 == 0) = true := beq_iff_eq.mpr c16
   have c16b1 : (a1_0 != 0) = false := bne_eq_false_iff_eq.mpr c16
   clear c16
   replace H := Option.bind_eq_some_iff.mp H
   obtain ⟨⟨t352, t353, t356⟩, A170, H⟩ := H
   replace H : (some (t352, t353, t356)) = some (r1, r2, r3) := H
   have A17 := am_ A170; clear A170
   simp only [Option.some.injEq, Prod.mk.injEq] at H
   obtain ⟨rfl, rfl, rfl⟩ := H
   go_enter Tryd.func115, Tryd.ntmps115
   go_wp2_with (first | ((with_reducible refine gate_dst (N := 2) rfl ?_); refine bx_ 2 #[.int .i64 a0_0, .slice A0_1 l0_1.length c0_1, .int .i64 a0_2] 45 ?_; intro gb344 hg w18 hbox hb; obtain ⟨BK344, GW344, GE344⟩ := nb_ hbox hg HB; replace HB := bs_ HB hb; clear hb hbox hg) | ((with_reducible refine gate_dst (N := 3) rfl ?_); refine bx_ 3 #[.int .i64 a1_0, .slice A1_1 l1_1.length c1_1, .int .i64 a1_2] 45 ?_; intro gb345 hg w19 hbox hb; obtain ⟨BK345, GW345, GE345⟩ := nb_ hbox hg HB; obtain ⟨NB344_345, NB345_344⟩ := nn_ hg BK344; replace BK344 := bb_ BK344 hb; replace HB := bs_ HB hb; clear hb hbox hg) | ((with_reducible refine gate_dst (N := 4) rfl ?_); refine bx_ 4 #[.int .i64 0, .slice none 0 0, .int .i64 0] 45 ?_; intro gb346 hg w20 hbox hb; obtain ⟨BK346, GW346, GE346⟩ := nb_ hbox hg HB; obtain ⟨NB344_346, NB346_344⟩ := nn_ hg BK344; obtain ⟨NB345_346, NB346_345⟩ := nn_ hg BK345; replace BK344 := bb_ BK344 hb; replace BK345 := bb_ BK345 hb; replace HB := bs_ HB hb; clear hb hbox hg; have hnb21 := NB344_345.out; have hnc21 := NB345_344.out; have hnb22 := NB344_346.out; have hnc22 := NB346_344.out; obtain ⟨hcz23_0, hcz23_1, hcz23_2, hfz23_0, hfz23_1, hfz23_2⟩ := ck3_ BK344; have hnb24 := NB345_346.out; have hnc24 := NB346_345.out; obtain ⟨hcz25_0, hcz25_1, hcz25_2, hfz25_0, hfz25_1, hfz25_2⟩ := ck3_ BK345) | ((with_reducible refine gate_callee (f := 118) rfl ?_); refine goesL_ (some 23) rfl rfl Tryd.func118 (by kernel_rfl) rfl #[.agg #[.int .i64 a0_0, .slice A0_1 l0_1.length c0_1], .int .i64 a0_2] rfl ma_ ?_; (with_reducible refine (spec_l03Make.calls k a0_0 _ _ l0_1 a0_2 t352 t353 t356 _ ?side1 ?side2 A17.out).mono ?_); (case side1 => exact cb_ HR0_1 HB); (case side2 => exact HC0_1.out); rintro e w26 ⟨v354, rfl, ho0, hb⟩; refine ⟨_, rfl, ?_⟩; have HO355 := am_ (Kd.R_lower ho0 (below_size (bl_ HB))); replace BK344 := bb_ BK344 hb; replace BK345 := bb_ BK345 hb; replace BK346 := bb_ BK346 hb; replace HB := bs_ HB hb; (try clear hb); (try clear ho0); obtain ⟨hcz27_0, hcz27_1, hcz27_2, hfz27_0, hfz27_1, hfz27_2⟩ := ck3_ BK346; obtain ⟨Ao28, co28, eo28⟩ := Kd.R_slice HO355.out; subst eo28))
   refine bodyPost_ret (results_cell_row rfl _ _ gb346 45 #[.int .i64 t352, .slice Ao28 t353.length co28, .int .i64 t356] (0, 0) _ rfl (bp3_ BK346) Tryd.underlying45 rfl (by kernel_rfl)) rfl ?_
   exact ⟨_, by first | rfl | (simp [errW_none, errW_some] <;> rfl) | (simp [*, errW_none, errW_some] <;> rfl), ru_ HO355 BK346, bl_ HB⟩
  ·rw [if_neg c16] at H
   have c16b0 : (a1_0 == 0) = false := beq_eq_false_iff_ne.mpr c16
   have c16b1 : (a1_0 != 0) = true := bne_iff_ne.mpr c16
   obtain ⟨ji29, hji29⟩ : ∃ j_ : Int, (mn a0_2 a1_2) = j_ := ⟨_, rfl⟩
   replace H : ((spec_l02Left.f k a0_0 l0_1 (wrap64 (a0_2 - (ji29)))).bind fun bt357 => ((spec_l02Left.f k a1_0 l1_1 (wrap64 (a1_2 - (ji29)))).bind fun bt361 => ((spec_l02Add.f k bt357.1 bt357.2 bt361.1 bt361.2).bind fun bt365 => ((spec_l03Make.f k bt365.1 bt365.2 (ji29)).bind fun bt369 => (some (bt369.1, bt369.2.1, bt369.2.2)))))) = some (r1, r2, r3) := by first | (rw [hji29] at H; exact H) | (simp only [hji29] at H ⊢; exact H)
   have hji29_ : (if a1_2 < a0_2 then a1_2 else a0_2) = ji29 := hji29
   replace H := Option.bind_eq_some_iff.mp H
   obtain ⟨⟨t357, t358⟩, A300, H⟩ := H
   replace H : ((spec_l02Left.f k a1_0 l1_1 (wrap64 (a1_2 - (ji29)))).bind fun bt361 => ((spec_l02Add.f k t357 t358 bt361.1 bt361.2).bind fun bt365 => ((spec_l03Make.f k bt365.1 bt365.2 (ji29)).bind fun bt369 => (some (bt369.1, bt369.2.1, bt369.2.2))))) = some (r1, r2, r3) := H
   have A30 := am_ A300; clear A300
   replace H := Option.bind_eq_some_iff.mp H
   obtain ⟨⟨t361, t362⟩, A310, H⟩ := H
   replace H : ((spec_l02Add.f k t357 t358 t361 t362).bind fun bt365 => ((spec_l03Make.f k bt365.1 bt365.2 (ji29)).bind fun bt369 => (some (bt369.1, bt369.2.1, bt369.2.2)))) = some (r1, r2, r3) := H
   have A31 := am_ A310; clear A310
   replace H := Option.bind_eq_some_iff.mp H
   obtain ⟨⟨t365, t366⟩, A320, H⟩ := H
   replace H : ((spec_l03Make.f k t365 t366 (ji29)).bind fun bt369 => (some (bt369.1, bt369.2.1, bt369.2.2))) = some (r1, r2, r3) := H
   have A32 := am_ A320; clear A320
   replace H := Option.bind_eq_some_iff.mp H
   obtain ⟨⟨t369, t370, t373⟩, A330, H⟩ := H
   replace H : (some (t369, t370, t373)) = some (r1, r2, r3) := H
   have A33 := am_ A330; clear A330
   simp only [Option.some.injEq, Prod.mk.injEq] at H
   obtain ⟨rfl, rfl, rfl⟩ := H
   go_enter Tryd.func115, Tryd.ntmps115
   try go_wp2_with (first | ((with_reducible refine gate_dst (N := 2) rfl ?_); refine bx_ 2 #[.int .i64 a0_0, .slice A0_1 l0_1.length c0_1, .int .i64 a0_2] 45 ?_; intro gb344 hg w34 hbox hb; obtain ⟨BK344, GW344, GE344⟩ := nb_ hbox hg HB; replace HB := bs_ HB hb; clear hb hbox hg) | ((with_reducible refine gate_dst (N := 3) rfl ?_); refine bx_ 3 #[.int .i64 a1_0, .slice A1_1 l1_1.length c1_1, .int .i64 a1_2] 45 ?_; intro gb345 hg w35 hbox hb; obtain ⟨BK345, GW345, GE345⟩ := nb_ hbox hg HB; obtain ⟨NB344_345, NB345_344⟩ := nn_ hg BK344; replace BK344 := bb_ BK344 hb; replace HB := bs_ HB hb; clear hb hbox hg) | ((with_reducible refine gate_dst (N := 4) rfl ?_); refine bx_ 4 #[.int .i64 0, .slice none 0 0, .int .i64 0] 45 ?_; intro gb346 hg w36 hbox hb; obtain ⟨BK346, GW346, GE346⟩ := nb_ hbox hg HB; obtain ⟨NB344_346, NB346_344⟩ := nn_ hg BK344; obtain ⟨NB345_346, NB346_345⟩ := nn_ hg BK345; replace BK344 := bb_ BK344 hb; replace BK345 := bb_ BK345 hb; replace HB := bs_ HB hb; clear hb hbox hg; have hnb37 := NB344_345.out; have hnc37 := NB345_344.out; have hnb38 := NB344_346.out; have hnc38 := NB346_344.out; obtain ⟨hcz39_0, hcz39_1, hcz39_2, hfz39_0, hfz39_1, hfz39_2⟩ := ck3_ BK344; have hnb40 := NB345_346.out; have hnc40 := NB346_345.out; obtain ⟨hcz41_0, hcz41_1, hcz41_2, hfz41_0, hfz41_1, hfz41_2⟩ := ck3_ BK345))
   replace BK344 := am_ (blk_drew BK344.out); replace BK345 := am_ (blk_drew BK345.out); replace BK346 := am_ (blk_drew BK346.out); replace HB := am_ (below_drew1 HB.out)
   refine start_ (n := 18) (S := fun w' => w'.cell? ⟨gb344, 0, none⟩ = some (.int .i64 a0_0) ∧ w'.cell? ⟨gb344, 1, none⟩ = some (.slice A0_1 l0_1.length c0_1) ∧ w'.cell? ⟨gb344, 2, none⟩ = some (.int .i64 a0_2) ∧ w'.cell? ⟨gb345, 0, none⟩ = some (.int .i64 a1_0) ∧ w'.cell? ⟨gb345, 1, none⟩ = some (.slice A1_1 l1_1.length c1_1) ∧ w'.cell? ⟨gb345, 2, none⟩ = some (.int .i64 a1_2)) (ds := []) #[false, false, false, false, false, false, false, false, false, false, false, false, false, false, false, false, false, false] (by kernel_rfl) rfl rfl ⟨bc_ BK344 0, bc_ BK344 1, bc_ BK344 2, bc_ BK345 0, bc_ BK345 1, bc_ BK345 2⟩ (fun hHeld => ?_); refine with_tabW spec_l03Add.tab6 spec_l03Add.bits6 (fun HT_ HW_ => ?_)
   generalize w36.drew = w42 at BK344 BK345 BK346 HB hHeld ⊢
   refine pu_ #[true, false, false, false, false, false, false, false, false, false, false, false, false, false, false, false, false, false] 0 29 (any_of HT_.out (by kernel_rfl)) ?_
   refine pu_ #[true, false, true, false, false, false, false, false, false, false, false, false, false, false, false, false, false, false] 2 31 (any_of HT_.out (by kernel_rfl)) ?_
   refine pu_ #[true, false, true, false, true, false, false, false, false, false, false, false, false, false, false, false, false, false] 4 33 (any_of HT_.out (by kernel_rfl)) ?_
   refine pu_ #[true, false, true, false, true, false, false, true, false, false, false, false, false, false, false, false, false, false] 7 36 (any_of HT_.out (by kernel_rfl)) ?_
   refine pu_ #[true, false, true, false, true, false, false, true, false, true, false, false, false, false, false, false, false, false] 9 38 (any_of HT_.out (by kernel_rfl)) ?_
   refine pu_ #[true, false, true, false, true, false, false, true, false, true, false, true, false, false, false, false, false, false] 11 40 (any_of HT_.out (by kernel_rfl)) ?_
   refine pu_ #[true, false, true, false, true, false, false, true, false, true, false, true, false, false, false, true, false, false] 15 44 (any_of HT_.out (by kernel_rfl)) ?_
   refine tk_ #[true, true, true, false, true, false, false, true, false, true, false, true, false, false, false, true, false, false] 1 30 (take_ofW HT_.out HW_.out (by kernel_rfl)) hHeld ?_
   refine tk_ #[true, true, true, true, true, false, false, true, false, true, false, true, false, false, false, true, false, false] 3 32 (take_ofW HT_.out HW_.out (by kernel_rfl)) hHeld ?_
   refine pu_ #[true, true, true, true, true, true, false, true, false, true, false, true, false, false, false, true, false, false] 5 34 (any_of HT_.out (by kernel_rfl)) ?_
   refine tk_ #[true, true, true, true, true, true, false, true, true, true, false, true, false, false, false, true, false, false] 8 37 (take_ofW HT_.out HW_.out (by kernel_rfl)) hHeld ?_
   refine tk_ #[true, true, true, true, true, true, false, true, true, true, true, true, false, false, false, true, false, false] 10 39 (take_ofW HT_.out HW_.out (by kernel_rfl)) hHeld ?_
   refine pu_ #[true, true, true, true, true, true, false, true, true, true, true, true, true, false, false, true, false, false] 12 41 (any_of HT_.out (by kernel_rfl)) ?_
   refine one_ (i := 6) (N := some 35) #[true, true, true, true, true, true, true, true, true, true, true, true, true, false, false, true, false, false] rfl rfl (one_of HT_.out (by kernel_rfl)) (by decide) (fun K hK => ?_)
   refine goes_ Tryd.func106 (by kernel_rfl) rfl #[.agg #[.int .i64 a0_0, .slice A0_1 l0_1.length c0_1], .int .i64 (wrap64 (a0_2 - (ji29)))] (by rfl) rfl rfl (by (try simp only [List.map_toArray, List.map_cons, List.map_nil]); first | done | (simp only [hji29]; rfl) | rfl | (simp only [List.length_drop, List.length_take]; rfl)) ?_
   with_reducible refine (spec_l02Left.calls k a0_0 _ _ l0_1 (wrap64 (a0_2 - (ji29))) t357 t358 _ ?side1 ?side2 A30.out).mono ?_
   (case side1 => exact cb_ HR0_1 HB)
   (case side2 => exact HC0_1.out)
   rintro e w43 ⟨v359, rfl, ho0, hb⟩
   refine ⟨_, rfl, ?_⟩
   have HO360 := am_ (Kd.R_lower ho0 (below_size (bl_ HB))); replace BK344 := am_ (blk_below (bk_ BK344) hb); replace BK345 := am_ (blk_below (bk_ BK345) hb); replace BK346 := am_ (blk_below (bk_ BK346) hb); replace HB := am_ (below_step (bl_ HB) hb); (try clear hb); (try clear hb2); (try clear hk); (try clear hi); (try clear ho0)
   refine hK.out _ _ ⟨bc_ BK344 0, bc_ BK344 1, bc_ BK344 2, bc_ BK345 0, bc_ BK345 1, bc_ BK345 2⟩ (fun hHeld => ?_)
   clear hK K
   refine nr_ ?_
   refine one_ (i := 13) (N := some 42) #[true, true, true, true, true, true, true, true, true, true, true, true, true, true, false, true, false, false] rfl rfl (one_of HT_.out (by kernel_rfl)) (by decide) (fun K hK => ?_)
   refine goes_ Tryd.func106 (by kernel_rfl) rfl #[.agg #[.int .i64 a1_0, .slice A1_1 l1_1.length c1_1], .int .i64 (wrap64 (a1_2 - (ji29)))] (by rfl) rfl rfl (by (try simp only [List.map_toArray, List.map_cons, List.map_nil]); first | done | (simp only [hji29]; rfl) | rfl | (simp only [List.length_drop, List.length_take]; rfl)) ?_
   with_reducible refine (spec_l02Left.calls k a1_0 _ _ l1_1 (wrap64 (a1_2 - (ji29))) t361 t362 _ ?side1 ?side2 A31.out).mono ?_
   (case side1 => exact cb_ HR1_1 HB)
   (case side2 => exact HC1_1.out)
   rintro e w44 ⟨v363, rfl, ho0, hb⟩
   refine ⟨_, rfl, ?_⟩
   have HO364 := am_ (Kd.R_lower (Kd.R_new' ho0 (Kd.R_lt (kr_ HO360))) (below_size (bl_ HB))); replace HO360 := am_ (Kd.R_elder' (kr_ HO360) (Kd.R_base ho0) hb); replace BK344 := am_ (blk_below (bk_ BK344) hb); replace BK345 := am_ (blk_below (bk_ BK345) hb); replace BK346 := am_ (blk_below (bk_ BK346) hb); replace HB := am_ (below_step (bl_ HB) hb); (try clear hb); (try clear hb2); (try clear hk); (try clear hi); (try clear ho0)
   obtain ⟨Ao45, co45, eo45⟩ := Kd.R_slice HO360.out
   (first | subst eo45 | (injection eo45 with f1_ f2_ f3_; have f4_ := f1_.symm; have f5_ := f3_.symm; clear f1_ f2_ f3_; subst f4_; subst f5_))
   obtain ⟨Ao46, co46, eo46⟩ := Kd.R_slice HO364.out
   (first | subst eo46 | (injection eo46 with f1_ f2_ f3_; have f4_ := f1_.symm; have f5_ := f3_.symm; clear f1_ f2_ f3_; subst f4_; subst f5_))
   refine hK.out _ _ ⟨bc_ BK344 0, bc_ BK344 1, bc_ BK344 2, bc_ BK345 0, bc_ BK345 1, bc_ BK345 2⟩ (fun hHeld => ?_)
   clear hK K
   refine nr_ ?_
   refine one_ (i := 14) (N := some 43) #[true, true, true, true, true, true, true, true, true, true, true, true, true, true, true, true, false, false] rfl rfl (one_of HT_.out (by kernel_rfl)) (by decide) (fun K hK => ?_)
   refine goes_ Tryd.func105 (by kernel_rfl) rfl #[.agg #[.int .i64 t357, .slice Ao45 t358.length co45], .agg #[.int .i64 t361, .slice Ao46 t362.length co46]] (by rfl) rfl rfl ma_ ?_
   with_reducible refine (spec_l02Add.calls k t357 _ _ t358 t361 _ _ t362 t365 t366 _ ?side1 ?side2 ?side3 ?side4 A32.out).mono ?_
   (case side1 => exact cr_ HO360)
   (case side2 => exact (Kd.R_reads' HO360.out).2.1)
   (case side3 => exact cr_ HO364)
   (case side4 => exact (Kd.R_reads' HO364.out).2.1)
   rintro e w47 ⟨v367, rfl, ho0, hb⟩
   refine ⟨_, rfl, ?_⟩
   have HO368 := am_ (Kd.R_lower (Kd.R_new' (Kd.R_new' ho0 (Kd.R_lt (kr_ HO360))) (Kd.R_lt (kr_ HO364))) (below_size (bl_ HB))); replace HO360 := am_ (Kd.R_elder' (kr_ HO360) (Kd.R_base ho0) hb); replace HO364 := am_ (Kd.R_elder' (kr_ HO364) (Kd.R_base ho0) hb); replace BK344 := am_ (blk_below (bk_ BK344) hb); replace BK345 := am_ (blk_below (bk_ BK345) hb); replace BK346 := am_ (blk_below (bk_ BK346) hb); replace HB := am_ (below_step (bl_ HB) hb); (try clear hb); (try clear hb2); (try clear hk); (try clear hi); (try clear ho0)
   obtain ⟨Ao48, co48, eo48⟩ := Kd.R_slice HO368.out
   (first | subst eo48 | (injection eo48 with f1_ f2_ f3_; have f4_ := f1_.symm; have f5_ := f3_.symm; clear f1_ f2_ f3_; subst f4_; subst f5_))
   refine hK.out _ _ ⟨bc_ BK344 0, bc_ BK344 1, bc_ BK344 2, bc_ BK345 0, bc_ BK345 1, bc_ BK345 2⟩ (fun hHeld => ?_)
   clear hK K
   refine nr_ ?_
   refine one_ (i := 16) (N := some 45) #[true, true, true, true, true, true, true, true, true, true, true, true, true, true, true, true, true, false] rfl rfl (one_of HT_.out (by kernel_rfl)) (by decide) (fun K hK => ?_)
   refine goes_ Tryd.func118 (by kernel_rfl) rfl #[.agg #[.int .i64 t365, .slice Ao48 t366.length co48], .int .i64 ji29] (by rfl) rfl rfl (by (try simp only [List.map_toArray, List.map_cons, List.map_nil]); first | done | (simp only [hji29]; rfl) | rfl | (simp only [List.length_drop, List.length_take]; rfl)) ?_
   with_reducible refine (spec_l03Make.calls k t365 _ _ t366 ji29 t369 t370 t373 _ ?side1 ?side2 A33.out).mono ?_
   (case side1 => exact cr_ HO368)
   (case side2 => exact (Kd.R_reads' HO368.out).2.1)
   rintro e w49 ⟨v371, rfl, ho0, hb⟩
   refine ⟨_, rfl, ?_⟩
   have HO372 := am_ (Kd.R_lower (Kd.R_new' (Kd.R_new' (Kd.R_new' ho0 (Kd.R_lt (kr_ HO360))) (Kd.R_lt (kr_ HO364))) (Kd.R_lt (kr_ HO368))) (below_size (bl_ HB))); replace HO360 := am_ (Kd.R_elder' (kr_ HO360) (Kd.R_base ho0) hb); replace HO364 := am_ (Kd.R_elder' (kr_ HO364) (Kd.R_base ho0) hb); replace HO368 := am_ (Kd.R_elder' (kr_ HO368) (Kd.R_base ho0) hb); replace BK344 := am_ (blk_below (bk_ BK344) hb); replace BK345 := am_ (blk_below (bk_ BK345) hb); replace BK346 := am_ (blk_below (bk_ BK346) hb); replace HB := am_ (below_step (bl_ HB) hb); (try clear hb); (try clear hb2); (try clear hk); (try clear hi); (try clear ho0)
   obtain ⟨Ao51, co51, eo51⟩ := Kd.R_slice HO372.out
   (first | subst eo51 | (injection eo51 with f1_ f2_ f3_; have f4_ := f1_.symm; have f5_ := f3_.symm; clear f1_ f2_ f3_; subst f4_; subst f5_))
   refine hK.out _ _ ⟨bc_ BK344 0, bc_ BK344 1, bc_ BK344 2, bc_ BK345 0, bc_ BK345 1, bc_ BK345 2⟩ (fun hHeld => ?_)
   clear hK K
   refine nr_ ?_
   refine one_ (i := 17) (N := none) #[true, true, true, true, true, true, true, true, true, true, true, true, true, true, true, true, true, true] rfl rfl (one_of HT_.out (by kernel_rfl)) (by decide) (fun K hK => ?_)
   have hs50 : w49.cell? ⟨gb346, 0, none⟩ = some (.int .i64 0) := bc_ BK346 0
   have hfs50 := blk_frozen BK346.out 0; have hns50_0 := NB344_346.out; have hns50_1 := NB345_346.out; have hms50_0 := NB346_344.out; have hms50_1 := NB346_345.out
   have hs52 : w49.cell? ⟨gb346, 1, none⟩ = some (.slice none 0 0) := bc_ BK346 1
   have hfs52 := blk_frozen BK346.out 1; have hns52_0 := NB344_346.out; have hns52_1 := NB345_346.out; have hms52_0 := NB346_344.out; have hms52_1 := NB346_345.out
   have hs53 : w49.cell? ⟨gb346, 2, none⟩ = some (.int .i64 0) := bc_ BK346 2
   have hfs53 := blk_frozen BK346.out 2; have hns53_0 := NB344_346.out; have hns53_1 := NB345_346.out; have hms53_0 := NB346_344.out; have hms53_1 := NB346_345.out
   refine skip_ (w1 := ?_) (by rfl) rfl ?_ ?_
   rotate_left
   ·go_simp
    rfl
   refine hK.out _ _ ⟨((cell_far (p := ⟨gb346, _, none⟩) NB344_346.out _).trans (((cell_far (p := ⟨gb346, _, none⟩) NB344_346.out _).trans (((cell_far (p := ⟨gb346, _, none⟩) NB344_346.out _).trans (hHeld.1)))))), ((cell_far (p := ⟨gb346, _, none⟩) NB344_346.out _).trans (((cell_far (p := ⟨gb346, _, none⟩) NB344_346.out _).trans (((cell_far (p := ⟨gb346, _, none⟩) NB344_346.out _).trans (hHeld.2.1)))))), ((cell_far (p := ⟨gb346, _, none⟩) NB344_346.out _).trans (((cell_far (p := ⟨gb346, _, none⟩) NB344_346.out _).trans (((cell_far (p := ⟨gb346, _, none⟩) NB344_346.out _).trans (hHeld.2.2.1)))))), ((cell_far (p := ⟨gb346, _, none⟩) NB345_346.out _).trans (((cell_far (p := ⟨gb346, _, none⟩) NB345_346.out _).trans (((cell_far (p := ⟨gb346, _, none⟩) NB345_346.out _).trans (hHeld.2.2.2.1)))))), ((cell_far (p := ⟨gb346, _, none⟩) NB345_346.out _).trans (((cell_far (p := ⟨gb346, _, none⟩) NB345_346.out _).trans (((cell_far (p := ⟨gb346, _, none⟩) NB345_346.out _).trans (hHeld.2.2.2.2.1)))))), ((cell_far (p := ⟨gb346, _, none⟩) NB345_346.out _).trans (((cell_far (p := ⟨gb346, _, none⟩) NB345_346.out _).trans (((cell_far (p := ⟨gb346, _, none⟩) NB345_346.out _).trans (hHeld.2.2.2.2.2))))))⟩ (fun hHeld => ?_)
   clear hK K
   refine done_ (done_of HT_.out (by kernel_rfl)) ?_
   try go_wp2
   refine bodyPost_ret (results_cell_row rfl _ _ gb346 45 #[.int .i64 t369, .slice Ao51 t370.length co51, .int .i64 t373] (0, 0) _ rfl (bp3_ BK346) Tryd.underlying45 rfl (by kernel_rfl)) rfl ?_
   exact ⟨_, by first | rfl | (simp [errW_none, errW_some] <;> rfl) | (simp only [← hji29]; first | rfl | (simp [errW_none, errW_some] <;> rfl)) | (simp [*, errW_none, errW_some] <;> rfl), ru_ HO372 BK346, bl_ HB⟩
def spec_l02Neg.f (k : Nat) (a0_0 : Int) (l0_1 : List Int) : Option (Int × List Int) := (spec_l02Make.f k (wrap64 (-a0_0)) l0_1).bind fun bt376 => (some (bt376.1, bt376.2))
theorem spec_l02Neg.mono : ∀ a0 a1 k, LeO (spec_l02Neg.f k a0 a1) (spec_l02Neg.f (k + 1) a0 a1) := by
  intro a0 a1 k
  unfold spec_l02Neg.f
  repeat' first
      | (with_reducible exact spec_l02Make.mono _ _ _)
      | (with_reducible exact LeO.refl _)
      | (with_reducible exact LeO.none _)
      | (with_reducible refine LeO.ite ?_ ?_)
      | (with_reducible refine LeO.bind ?_ (fun _ => ?_))
      | exact spec_l02Make.mono _ _ _
      | exact LeO.none _
      | refine LeO.ite ?_ ?_
      | refine LeO.bind ?_ (fun _ => ?_)
set_option maxHeartbeats 8000000 in
set_option maxRecDepth 100000 in
theorem spec_l02Neg.calls (k : Nat) (a0_0 : Int) (A0_1 : Option Addr) (c0_1 : Nat) (l0_1 : List Int) (r1 : Int) (r2 : List Int) (w : World) (hr0_1 : Kd.C (Kd.int .i64) w A0_1 l0_1.length l0_1) (hc0_1 : l0_1.length ≤ c0_1) (h : spec_l02Neg.f k a0_0 l0_1 = some (r1, r2)) :
  Calls Tryd.prog 133 #[.agg #[.int .i64 a0_0, .slice A0_1 l0_1.length c0_1]] w fun e w' => ∃ v1_ : Value, e = .returned (.agg #[.int .i64 r1, v1_]) ∧ Kd.R (Kd.int .i64) 2 w' w.heap.size (fun _ => True) v1_ r2 ∧ Below w.heap.size w w' := by
 have hu26 := Tryd.underlying26; have HR0_1 := am_ hr0_1; have HC0_1 := am_ hc0_1; clear hr0_1 hc0_1; have HB := am_ (Below.refl w.heap.size w)
 have H : ((spec_l02Make.f k (wrap64 (-a0_0)) l0_1).bind fun bt376 => (some (bt376.1, bt376.2))) = some (r1, r2) := h
 clear h
 replace H := Option.bind_eq_some_iff.mp H
 obtain ⟨⟨t376, t377⟩, A20, H⟩ := H
 replace H : (some (t376, t377)) = some (r1, r2) := H
 have A2 := am_ A20; clear A20
 simp only [Option.some.injEq, Prod.mk.injEq] at H
 obtain ⟨rfl, rfl⟩ := H
 go_enter Tryd.func133, Tryd.ntmps133
 go_wp2_with (first | ((with_reducible refine gate_dst (N := 1) rfl ?_); refine bx_ 1 #[.int .i64 a0_0, .slice A0_1 l0_1.length c0_1] 26 ?_; intro gb374 hg w3 hbox hb; obtain ⟨BK374, GW374, GE374⟩ := nb_ hbox hg HB; replace HB := bs_ HB hb; clear hb hbox hg) | ((with_reducible refine gate_dst (N := 2) rfl ?_); refine bx_ 2 #[.int .i64 0, .slice none 0 0] 26 ?_; intro gb375 hg w4 hbox hb; obtain ⟨BK375, GW375, GE375⟩ := nb_ hbox hg HB; obtain ⟨NB374_375, NB375_374⟩ := nn_ hg BK374; replace BK374 := bb_ BK374 hb; replace HB := bs_ HB hb; clear hb hbox hg; have hnb5 := NB374_375.out; have hnc5 := NB375_374.out; obtain ⟨hcz6_0, hcz6_1, hfz6_0, hfz6_1⟩ := ck2_ BK374) | ((with_reducible refine gate_callee (f := 87) rfl ?_); refine goesL_ (some 8) rfl rfl Tryd.func87 (by kernel_rfl) rfl #[.int .i64 (wrap64 (-a0_0)), .slice A0_1 l0_1.length c0_1] rfl ma_ ?_; (with_reducible refine (spec_l02Make.calls k (wrap64 (-a0_0)) _ _ l0_1 t376 t377 _ ?side1 ?side2 A2.out).mono ?_); (case side1 => exact cb_ HR0_1 HB); (case side2 => exact HC0_1.out); rintro e w7 ⟨v378, rfl, ho0, hb⟩; refine ⟨_, rfl, ?_⟩; have HO379 := am_ (Kd.R_lower ho0 (below_size (bl_ HB))); replace BK374 := bb_ BK374 hb; replace BK375 := bb_ BK375 hb; replace HB := bs_ HB hb; (try clear hb); (try clear ho0); obtain ⟨hcz8_0, hcz8_1, hfz8_0, hfz8_1⟩ := ck2_ BK375; obtain ⟨Ao9, co9, eo9⟩ := Kd.R_slice HO379.out; subst eo9))
 refine bodyPost_ret (results_cell_row rfl _ _ gb375 26 #[.int .i64 t376, .slice Ao9 t377.length co9] (0, 0) _ rfl (bp2_ BK375) Tryd.underlying26 rfl (by kernel_rfl)) rfl ?_
 exact ⟨_, by first | rfl | (simp [errW_none, errW_some] <;> rfl) | (simp [*, errW_none, errW_some] <;> rfl), rt_ HO379 BK375, bl_ HB⟩
def spec_l03Neg.f (k : Nat) (a0_0 : Int) (l0_1 : List Int) (a0_2 : Int) : Option (Int × List Int × Int) := (spec_l02Neg.f k a0_0 l0_1).bind fun bt382 => (some (bt382.1, bt382.2, a0_2))
theorem spec_l03Neg.mono : ∀ a0 a1 a2 k, LeO (spec_l03Neg.f k a0 a1 a2) (spec_l03Neg.f (k + 1) a0 a1 a2) := by
  intro a0 a1 a2 k
  unfold spec_l03Neg.f
  repeat' first
      | (with_reducible exact spec_l02Neg.mono _ _ _)
      | (with_reducible exact LeO.refl _)
      | (with_reducible exact LeO.none _)
      | (with_reducible refine LeO.ite ?_ ?_)
      | (with_reducible refine LeO.bind ?_ (fun _ => ?_))
      | exact spec_l02Neg.mono _ _ _
      | exact LeO.none _
      | refine LeO.ite ?_ ?_
      | refine LeO.bind ?_ (fun _ => ?_)
set_option maxHeartbeats 8000000 in
set_option maxRecDepth 100000 in
theorem spec_l03Neg.calls (k : Nat) (a0_0 : Int) (A0_1 : Option Addr) (c0_1 : Nat) (l0_1 : List Int) (a0_2 : Int) (r1 : Int) (r2 : List Int) (r3 : Int) (w : World) (hr0_1 : Kd.C (Kd.int .i64) w A0_1 l0_1.length l0_1) (hc0_1 : l0_1.length ≤ c0_1) (h : spec_l03Neg.f k a0_0 l0_1 a0_2 = some (r1, r2, r3)) :
  Calls Tryd.prog 136 #[.agg #[.int .i64 a0_0, .slice A0_1 l0_1.length c0_1, .int .i64 a0_2]] w fun e w' => ∃ v1_ : Value, e = .returned (.agg #[.int .i64 r1, v1_, .int .i64 r3]) ∧ Kd.R (Kd.int .i64) 2 w' w.heap.size (fun _ => True) v1_ r2 ∧ Below w.heap.size w w' := by
 have hu45 := Tryd.underlying45; have hu26 := Tryd.underlying26; have HR0_1 := am_ hr0_1; have HC0_1 := am_ hc0_1; clear hr0_1 hc0_1; have HB := am_ (Below.refl w.heap.size w)
 have H : ((spec_l02Neg.f k a0_0 l0_1).bind fun bt382 => (some (bt382.1, bt382.2, a0_2))) = some (r1, r2, r3) := h
 clear h
 replace H := Option.bind_eq_some_iff.mp H
 obtain ⟨⟨t382, t383⟩, A20, H⟩ := H
 replace H : (some (t382, t383, a0_2)) = some (r1, r2, r3) := H
 have A2 := am_ A20; clear A20
 simp only [Option.some.injEq, Prod.mk.injEq] at H
 obtain ⟨rfl, rfl, rfl⟩ := H
 go_enter Tryd.func136, Tryd.ntmps136
 try go_wp2_with (first | ((with_reducible refine gate_dst (N := 1) rfl ?_); refine bx_ 1 #[.int .i64 a0_0, .slice A0_1 l0_1.length c0_1, .int .i64 a0_2] 45 ?_; intro gb380 hg w3 hbox hb; obtain ⟨BK380, GW380, GE380⟩ := nb_ hbox hg HB; replace HB := bs_ HB hb; clear hb hbox hg) | ((with_reducible refine gate_dst (N := 2) rfl ?_); refine bx_ 2 #[.int .i64 0, .slice none 0 0, .int .i64 0] 45 ?_; intro gb381 hg w4 hbox hb; obtain ⟨BK381, GW381, GE381⟩ := nb_ hbox hg HB; obtain ⟨NB380_381, NB381_380⟩ := nn_ hg BK380; replace BK380 := bb_ BK380 hb; replace HB := bs_ HB hb; clear hb hbox hg))
 replace BK380 := am_ (blk_drew BK380.out); replace BK381 := am_ (blk_drew BK381.out); replace HB := am_ (below_drew1 HB.out)
 refine start_ (n := 7) (S := fun w' => w'.cell? ⟨gb380, 0, none⟩ = some (.int .i64 a0_0) ∧ w'.cell? ⟨gb380, 1, none⟩ = some (.slice A0_1 l0_1.length c0_1) ∧ w'.cell? ⟨gb380, 2, none⟩ = some (.int .i64 a0_2)) (ds := []) #[false, false, false, false, false, false, false] (by kernel_rfl) rfl rfl ⟨bc_ BK380 0, bc_ BK380 1, bc_ BK380 2⟩ (fun hHeld => ?_)
 generalize w4.drew = w5 at BK380 BK381 HB hHeld ⊢
 refine pu_ #[true, false, false, false, false, false, false] 0 3 (by kernel_rfl) ?_
 refine pu_ #[true, false, false, true, false, false, false] 3 6 (by kernel_rfl) ?_
 refine tk_ #[true, true, false, true, false, false, false] 1 4 (by kernel_rfl) hHeld ?_
 refine tk_ #[true, true, false, true, true, false, false] 4 7 (by kernel_rfl) hHeld ?_
 refine one_ (i := 2) (N := some 5) #[true, true, true, true, true, false, false] rfl rfl (by kernel_rfl) (by decide) (fun K hK => ?_)
 refine goes_ Tryd.func133 (by kernel_rfl) rfl #[.agg #[.int .i64 a0_0, .slice A0_1 l0_1.length c0_1]] (by rfl) rfl rfl ma_ ?_
 with_reducible refine (spec_l02Neg.calls k a0_0 _ _ l0_1 t382 t383 _ ?side1 ?side2 A2.out).mono ?_
 (case side1 => exact cb_ HR0_1 HB)
 (case side2 => exact HC0_1.out)
 rintro e w6 ⟨v384, rfl, ho0, hb⟩
 refine ⟨_, rfl, ?_⟩
 have HO385 := am_ (Kd.R_lower ho0 (below_size (bl_ HB))); replace BK380 := am_ (blk_below (bk_ BK380) hb); replace BK381 := am_ (blk_below (bk_ BK381) hb); replace HB := am_ (below_step (bl_ HB) hb); (try clear hb); (try clear hb2); (try clear hk); (try clear hi); (try clear ho0)
 obtain ⟨Ao7, co7, eo7⟩ := Kd.R_slice HO385.out
 (first | subst eo7 | (injection eo7 with f1_ f2_ f3_; have f4_ := f1_.symm; have f5_ := f3_.symm; clear f1_ f2_ f3_; subst f4_; subst f5_))
 refine hK.out _ _ ⟨bc_ BK380 0, bc_ BK380 1, bc_ BK380 2⟩ (fun hHeld => ?_)
 clear hK K
 refine nr_ ?_
 refine pu_ #[true, true, true, true, true, true, false] 5 8 (by kernel_rfl) ?_
 refine one_ (i := 6) (N := none) #[true, true, true, true, true, true, true] rfl rfl (by kernel_rfl) (by decide) (fun K hK => ?_)
 have hs8 : w6.cell? ⟨gb381, 0, none⟩ = some (.int .i64 0) := bc_ BK381 0
 have hfs8 := blk_frozen BK381.out 0; have hns8_0 := NB380_381.out; have hms8_0 := NB381_380.out
 have hs9 : w6.cell? ⟨gb381, 1, none⟩ = some (.slice none 0 0) := bc_ BK381 1
 have hfs9 := blk_frozen BK381.out 1; have hns9_0 := NB380_381.out; have hms9_0 := NB381_380.out
 have hs10 : w6.cell? ⟨gb381, 2, none⟩ = some (.int .i64 0) := bc_ BK381 2
 have hfs10 := blk_frozen BK381.out 2; have hns10_0 := NB380_381.out; have hms10_0 := NB381_380.out
 refine skip_ (w1 := ?_) (by rfl) rfl ?_ ?_
 rotate_left
 ·go_simp
  rfl
 refine hK.out _ _ ⟨((cell_far (p := ⟨gb381, _, none⟩) NB380_381.out _).trans (((cell_far (p := ⟨gb381, _, none⟩) NB380_381.out _).trans (((cell_far (p := ⟨gb381, _, none⟩) NB380_381.out _).trans (hHeld.1)))))), ((cell_far (p := ⟨gb381, _, none⟩) NB380_381.out _).trans (((cell_far (p := ⟨gb381, _, none⟩) NB380_381.out _).trans (((cell_far (p := ⟨gb381, _, none⟩) NB380_381.out _).trans (hHeld.2.1)))))), ((cell_far (p := ⟨gb381, _, none⟩) NB380_381.out _).trans (((cell_far (p := ⟨gb381, _, none⟩) NB380_381.out _).trans (((cell_far (p := ⟨gb381, _, none⟩) NB380_381.out _).trans (hHeld.2.2))))))⟩ (fun hHeld => ?_)
 clear hK K
 refine done_ (by kernel_rfl) ?_
 try go_wp2
 refine bodyPost_ret (results_cell_row rfl _ _ gb381 45 #[.int .i64 t382, .slice Ao7 t383.length co7, .int .i64 a0_2] (0, 0) _ rfl (bp3_ BK381) Tryd.underlying45 rfl (by kernel_rfl)) rfl ?_
 exact ⟨_, by first | rfl | (simp [errW_none, errW_some] <;> rfl) | (simp [*, errW_none, errW_some] <;> rfl), ru_ HO385 BK381, bl_ HB⟩
def spec_l03Sub.f (k : Nat) (a0_0 : Int) (l0_1 : List Int) (a0_2 : Int) (a1_0 : Int) (l1_1 : List Int) (a1_2 : Int) : Option (Int × List Int × Int) := (spec_l03Neg.f k a1_0 l1_1 a1_2).bind fun bt389 => ((spec_l03Add.f k a0_0 l0_1 a0_2 bt389.1 bt389.2.1 bt389.2.2).bind fun bt394 => (some (bt394.1, bt394.2.1, bt394.2.2)))
theorem spec_l03Sub.mono : ∀ a0 a1 a2 a3 a4 a5 k, LeO (spec_l03Sub.f k a0 a1 a2 a3 a4 a5) (spec_l03Sub.f (k + 1) a0 a1 a2 a3 a4 a5) := by
  intro a0 a1 a2 a3 a4 a5 k
  unfold spec_l03Sub.f
  repeat' first
      | (with_reducible exact spec_l03Add.mono _ _ _ _ _ _ _)
      | (with_reducible exact spec_l03Neg.mono _ _ _ _)
      | (with_reducible exact LeO.refl _)
      | (with_reducible exact LeO.none _)
      | (with_reducible refine LeO.ite ?_ ?_)
      | (with_reducible refine LeO.bind ?_ (fun _ => ?_))
      | exact spec_l03Add.mono _ _ _ _ _ _ _
      | exact spec_l03Neg.mono _ _ _ _
      | exact LeO.none _
      | refine LeO.ite ?_ ?_
      | refine LeO.bind ?_ (fun _ => ?_)
set_option maxHeartbeats 8000000 in
set_option maxRecDepth 100000 in
theorem spec_l03Sub.calls (k : Nat) (a0_0 : Int) (A0_1 : Option Addr) (c0_1 : Nat) (l0_1 : List Int) (a0_2 : Int) (a1_0 : Int) (A1_1 : Option Addr) (c1_1 : Nat) (l1_1 : List Int) (a1_2 : Int) (r1 : Int) (r2 : List Int) (r3 : Int) (w : World) (hr0_1 : Kd.C (Kd.int .i64) w A0_1 l0_1.length l0_1) (hc0_1 : l0_1.length ≤ c0_1) (hr1_1 : Kd.C (Kd.int .i64) w A1_1 l1_1.length l1_1) (hc1_1 : l1_1.length ≤ c1_1) (h : spec_l03Sub.f k a0_0 l0_1 a0_2 a1_0 l1_1 a1_2 = some (r1, r2, r3)) :
  Calls Tryd.prog 122 #[.agg #[.int .i64 a0_0, .slice A0_1 l0_1.length c0_1, .int .i64 a0_2], .agg #[.int .i64 a1_0, .slice A1_1 l1_1.length c1_1, .int .i64 a1_2]] w fun e w' => ∃ v1_ : Value, e = .returned (.agg #[.int .i64 r1, v1_, .int .i64 r3]) ∧ Kd.R (Kd.int .i64) 2 w' w.heap.size (fun _ => True) v1_ r2 ∧ Below w.heap.size w w' := by
 have hu45 := Tryd.underlying45; have HR0_1 := am_ hr0_1; have HC0_1 := am_ hc0_1; clear hr0_1 hc0_1; have HR1_1 := am_ hr1_1; have HC1_1 := am_ hc1_1; clear hr1_1 hc1_1; have HB := am_ (Below.refl w.heap.size w)
 have H : ((spec_l03Neg.f k a1_0 l1_1 a1_2).bind fun bt389 => ((spec_l03Add.f k a0_0 l0_1 a0_2 bt389.1 bt389.2.1 bt389.2.2).bind fun bt394 => (some (bt394.1, bt394.2.1, bt394.2.2)))) = some (r1, r2, r3) := h
 clear h
 replace H := Option.bind_eq_some_iff.mp H
 obtain ⟨⟨t389, t390, t393⟩, A30, H⟩ := H
 replace H : ((spec_l03Add.f k a0_0 l0_1 a0_2 t389 t390 t393).bind fun bt394 => (some (bt394.1, bt394.2.1, bt394.2.2))) = some (r1, r2, r3) := H
 have A3 := am_ A30; clear A30
 replace H := Option.bind_eq_some_iff.mp H
 obtain ⟨⟨t394, t395, t398⟩, A40, H⟩ := H
 replace H : (some (t394, t395, t398)) = some (r1, r2, r3) := H
 have A4 := am_ A40; clear A40
 simp only [Option.some.injEq, Prod.mk.injEq] at H
 obtain ⟨rfl, rfl, rfl⟩ := H
 go_enter Tryd.func122, Tryd.ntmps122
 try go_wp2_with (first | ((with_reducible refine gate_dst (N := 2) rfl ?_); refine bx_ 2 #[.int .i64 a0_0, .slice A0_1 l0_1.length c0_1, .int .i64 a0_2] 45 ?_; intro gb386 hg w5 hbox hb; obtain ⟨BK386, GW386, GE386⟩ := nb_ hbox hg HB; replace HB := bs_ HB hb; clear hb hbox hg) | ((with_reducible refine gate_dst (N := 3) rfl ?_); refine bx_ 3 #[.int .i64 a1_0, .slice A1_1 l1_1.length c1_1, .int .i64 a1_2] 45 ?_; intro gb387 hg w6 hbox hb; obtain ⟨BK387, GW387, GE387⟩ := nb_ hbox hg HB; obtain ⟨NB386_387, NB387_386⟩ := nn_ hg BK386; replace BK386 := bb_ BK386 hb; replace HB := bs_ HB hb; clear hb hbox hg) | ((with_reducible refine gate_dst (N := 4) rfl ?_); refine bx_ 4 #[.int .i64 0, .slice none 0 0, .int .i64 0] 45 ?_; intro gb388 hg w7 hbox hb; obtain ⟨BK388, GW388, GE388⟩ := nb_ hbox hg HB; obtain ⟨NB386_388, NB388_386⟩ := nn_ hg BK386; obtain ⟨NB387_388, NB388_387⟩ := nn_ hg BK387; replace BK386 := bb_ BK386 hb; replace BK387 := bb_ BK387 hb; replace HB := bs_ HB hb; clear hb hbox hg))
 replace BK386 := am_ (blk_drew BK386.out); replace BK387 := am_ (blk_drew BK387.out); replace BK388 := am_ (blk_drew BK388.out); replace HB := am_ (below_drew1 HB.out)
 refine start_ (n := 5) (S := fun w' => w'.cell? ⟨gb386, 0, none⟩ = some (.int .i64 a0_0) ∧ w'.cell? ⟨gb386, 1, none⟩ = some (.slice A0_1 l0_1.length c0_1) ∧ w'.cell? ⟨gb386, 2, none⟩ = some (.int .i64 a0_2) ∧ w'.cell? ⟨gb387, 0, none⟩ = some (.int .i64 a1_0) ∧ w'.cell? ⟨gb387, 1, none⟩ = some (.slice A1_1 l1_1.length c1_1) ∧ w'.cell? ⟨gb387, 2, none⟩ = some (.int .i64 a1_2)) (ds := []) #[false, false, false, false, false] (by kernel_rfl) rfl rfl ⟨bc_ BK386 0, bc_ BK386 1, bc_ BK386 2, bc_ BK387 0, bc_ BK387 1, bc_ BK387 2⟩ (fun hHeld => ?_)
 generalize w7.drew = w8 at BK386 BK387 BK388 HB hHeld ⊢
 refine tk_ #[true, false, false, false, false] 0 5 (by kernel_rfl) hHeld ?_
 refine tk_ #[true, true, false, false, false] 1 6 (by kernel_rfl) hHeld ?_
 refine one_ (i := 2) (N := some 7) #[true, true, true, false, false] rfl rfl (by kernel_rfl) (by decide) (fun K hK => ?_)
 refine goes_ Tryd.func136 (by kernel_rfl) rfl #[.agg #[.int .i64 a1_0, .slice A1_1 l1_1.length c1_1, .int .i64 a1_2]] (by rfl) rfl rfl ma_ ?_
 with_reducible refine (spec_l03Neg.calls k a1_0 _ _ l1_1 a1_2 t389 t390 t393 _ ?side1 ?side2 A3.out).mono ?_
 (case side1 => exact cb_ HR1_1 HB)
 (case side2 => exact HC1_1.out)
 rintro e w9 ⟨v391, rfl, ho0, hb⟩
 refine ⟨_, rfl, ?_⟩
 have HO392 := am_ (Kd.R_lower ho0 (below_size (bl_ HB))); replace BK386 := am_ (blk_below (bk_ BK386) hb); replace BK387 := am_ (blk_below (bk_ BK387) hb); replace BK388 := am_ (blk_below (bk_ BK388) hb); replace HB := am_ (below_step (bl_ HB) hb); (try clear hb); (try clear hb2); (try clear hk); (try clear hi); (try clear ho0)
 obtain ⟨Ao10, co10, eo10⟩ := Kd.R_slice HO392.out
 (first | subst eo10 | (injection eo10 with f1_ f2_ f3_; have f4_ := f1_.symm; have f5_ := f3_.symm; clear f1_ f2_ f3_; subst f4_; subst f5_))
 refine hK.out _ _ ⟨bc_ BK386 0, bc_ BK386 1, bc_ BK386 2, bc_ BK387 0, bc_ BK387 1, bc_ BK387 2⟩ (fun hHeld => ?_)
 clear hK K
 refine nr_ ?_
 refine one_ (i := 3) (N := some 8) #[true, true, true, true, false] rfl rfl (by kernel_rfl) (by decide) (fun K hK => ?_)
 refine goes_ Tryd.func115 (by kernel_rfl) rfl #[.agg #[.int .i64 a0_0, .slice A0_1 l0_1.length c0_1, .int .i64 a0_2], .agg #[.int .i64 t389, .slice Ao10 t390.length co10, .int .i64 t393]] (by rfl) rfl rfl ma_ ?_
 with_reducible refine (spec_l03Add.calls k a0_0 _ _ l0_1 a0_2 t389 _ _ t390 t393 t394 t395 t398 _ ?side1 ?side2 ?side3 ?side4 A4.out).mono ?_
 (case side1 => exact cb_ HR0_1 HB)
 (case side2 => exact HC0_1.out)
 (case side3 => exact cr_ HO392)
 (case side4 => exact (Kd.R_reads' HO392.out).2.1)
 rintro e w11 ⟨v396, rfl, ho0, hb⟩
 refine ⟨_, rfl, ?_⟩
 have HO397 := am_ (Kd.R_lower (Kd.R_new' ho0 (Kd.R_lt (kr_ HO392))) (below_size (bl_ HB))); replace HO392 := am_ (Kd.R_elder' (kr_ HO392) (Kd.R_base ho0) hb); replace BK386 := am_ (blk_below (bk_ BK386) hb); replace BK387 := am_ (blk_below (bk_ BK387) hb); replace BK388 := am_ (blk_below (bk_ BK388) hb); replace HB := am_ (below_step (bl_ HB) hb); (try clear hb); (try clear hb2); (try clear hk); (try clear hi); (try clear ho0)
 obtain ⟨Ao13, co13, eo13⟩ := Kd.R_slice HO397.out
 (first | subst eo13 | (injection eo13 with f1_ f2_ f3_; have f4_ := f1_.symm; have f5_ := f3_.symm; clear f1_ f2_ f3_; subst f4_; subst f5_))
 refine hK.out _ _ ⟨bc_ BK386 0, bc_ BK386 1, bc_ BK386 2, bc_ BK387 0, bc_ BK387 1, bc_ BK387 2⟩ (fun hHeld => ?_)
 clear hK K
 refine nr_ ?_
 refine one_ (i := 4) (N := none) #[true, true, true, true, true] rfl rfl (by kernel_rfl) (by decide) (fun K hK => ?_)
 have hs12 : w11.cell? ⟨gb388, 0, none⟩ = some (.int .i64 0) := bc_ BK388 0
 have hfs12 := blk_frozen BK388.out 0; have hns12_0 := NB386_388.out; have hns12_1 := NB387_388.out; have hms12_0 := NB388_386.out; have hms12_1 := NB388_387.out
 have hs14 : w11.cell? ⟨gb388, 1, none⟩ = some (.slice none 0 0) := bc_ BK388 1
 have hfs14 := blk_frozen BK388.out 1; have hns14_0 := NB386_388.out; have hns14_1 := NB387_388.out; have hms14_0 := NB388_386.out; have hms14_1 := NB388_387.out
 have hs15 : w11.cell? ⟨gb388, 2, none⟩ = some (.int .i64 0) := bc_ BK388 2
 have hfs15 := blk_frozen BK388.out 2; have hns15_0 := NB386_388.out; have hns15_1 := NB387_388.out; have hms15_0 := NB388_386.out; have hms15_1 := NB388_387.out
 refine skip_ (w1 := ?_) (by rfl) rfl ?_ ?_
 rotate_left
 ·go_simp
  rfl
 refine hK.out _ _ ⟨((cell_far (p := ⟨gb388, _, none⟩) NB386_388.out _).trans (((cell_far (p := ⟨gb388, _, none⟩) NB386_388.out _).trans (((cell_far (p := ⟨gb388, _, none⟩) NB386_388.out _).trans (hHeld.1)))))), ((cell_far (p := ⟨gb388, _, none⟩) NB386_388.out _).trans (((cell_far (p := ⟨gb388, _, none⟩) NB386_388.out _).trans (((cell_far (p := ⟨gb388, _, none⟩) NB386_388.out _).trans (hHeld.2.1)))))), ((cell_far (p := ⟨gb388, _, none⟩) NB386_388.out _).trans (((cell_far (p := ⟨gb388, _, none⟩) NB386_388.out _).trans (((cell_far (p := ⟨gb388, _, none⟩) NB386_388.out _).trans (hHeld.2.2.1)))))), ((cell_far (p := ⟨gb388, _, none⟩) NB387_388.out _).trans (((cell_far (p := ⟨gb388, _, none⟩) NB387_388.out _).trans (((cell_far (p := ⟨gb388, _, none⟩) NB387_388.out _).trans (hHeld.2.2.2.1)))))), ((cell_far (p := ⟨gb388, _, none⟩) NB387_388.out _).trans (((cell_far (p := ⟨gb388, _, none⟩) NB387_388.out _).trans (((cell_far (p := ⟨gb388, _, none⟩) NB387_388.out _).trans (hHeld.2.2.2.2.1)))))), ((cell_far (p := ⟨gb388, _, none⟩) NB387_388.out _).trans (((cell_far (p := ⟨gb388, _, none⟩) NB387_388.out _).trans (((cell_far (p := ⟨gb388, _, none⟩) NB387_388.out _).trans (hHeld.2.2.2.2.2))))))⟩ (fun hHeld => ?_)
 clear hK K
 refine done_ (by kernel_rfl) ?_
 try go_wp2
 refine bodyPost_ret (results_cell_row rfl _ _ gb388 45 #[.int .i64 t394, .slice Ao13 t395.length co13, .int .i64 t398] (0, 0) _ rfl (bp3_ BK388) Tryd.underlying45 rfl (by kernel_rfl)) rfl ?_
 exact ⟨_, by first | rfl | (simp [errW_none, errW_some] <;> rfl) | (simp [*, errW_none, errW_some] <;> rfl), ru_ HO397 BK388, bl_ HB⟩
end Go.Proofs.YtghhphndbbefjaaDoor.X
namespace Go.Proofs.YtghhphndbbefjaaDoor.A
open Go.RowKit Go.Proofs.YtghhphndbbefjaaDoorW.PrintWords Go.Proofs.YtghhphndbbefjaaDoorW.PrintLast Go.Proofs.YtghhphndbbefjaaDoorW.PrintMore
attribute [local go_sem] max2_int min2_int max_two min_two max_three min_three max_four min_four   -- for this text's walks alone
set_option linter.unusedVariables false
set_option linter.unusedSimpArgs false
def errW : Option Int → Value
 | none => .nilIface
 | some c => .iface 0 (.int .i64 c)
theorem errW_none : errW none = .nilIface := rfl
theorem errW_some (c : Int) : errW (some c) = .iface 0 (.int .i64 c) := rfl
end Go.Proofs.YtghhphndbbefjaaDoor.A
namespace Go.Proofs.YtghhphndbbefjaaDoor.A
open Go.RowKit Go.Proofs.YtghhphndbbefjaaDoorW.PrintWords Go.Proofs.YtghhphndbbefjaaDoorW.PrintLast Go.Proofs.YtghhphndbbefjaaDoorW.PrintMore Go.Proofs.YtghhphndbbefjaaDoor.Sq
attribute [local go_sem] max2_int min2_int max_two min_two max_three min_three max_four min_four   -- for this text's walks alone
set_option linter.unusedVariables false
set_option linter.unusedSimpArgs false
def impl_between.f (a0 : Int) (a1 : Int) (a2 : Int) : Option (Bool) := if a0 ≥ a1 then (some (decide (a0 ≤ a2))) else (some false)
set_option maxHeartbeats 8000000 in
set_option maxRecDepth 100000 in
theorem impl_between.calls (a0 : Int) (a1 : Int) (a2 : Int) (r : Bool) (w : World) (h : impl_between.f a0 a1 a2 = some r) :
  Calls Tryd.prog 88 #[.int .i64 a0, .int .i64 a1, .int .i64 a2] w fun e w' => e = .returned (.bool r) ∧ Drawn0 w w' := by
 have H : (if a0 ≥ a1 then (some (decide (a0 ≤ a2))) else (some false)) = some r := h
 clear h
 by_cases c4 : a0 ≥ a1
 ·rw [if_pos c4] at H
  have c4b0 : decide (a1 ≤ a0) = true := decide_eq_true c4
  clear c4; obtain rfl := Option.some.inj H
  go_enter Tryd.func88, Tryd.ntmps88
  go_wp2
  go_ret
  exact ⟨by first | rfl | (simp; done) | (simp [*]; done), by repeat (first | exact Drawn0.refl _ | apply Drawn0.step)⟩
 ·rw [if_neg c4] at H
  have c4b0 : decide (a1 ≤ a0) = false := decide_eq_false c4
  clear c4; obtain rfl := Option.some.inj H
  go_enter Tryd.func88, Tryd.ntmps88
  go_wp2
  go_ret
  exact ⟨by first | rfl | (simp; done) | (simp [*]; done), by repeat (first | exact Drawn0.refl _ | apply Drawn0.step)⟩
def impl_IsWhole.l0 : Nat → Int → List Int → Int → Int → Int → List Int → Option (Bool)
  | 0, _, _, _, _, _, _ => none
  | k + 1, x3, x10, x11, x12, x102000, x102001 => if x12 < x11 then (if 0 ≤ x12 then (if x12 < (x10.length : Int) then ((impl_between.f (rd x10 x12) 0 16777215).bind fun t103 => (if t103 = true then (impl_IsWhole.l0 k x3 x10 x11 (wrap64 (x12 + 1)) x102000 x102001) else (some false))) else (none)) else (none)) else (if x3 = 0 then (some (x102000 == 0)) else (if x3 ≤ 200 then (if 0 ≤ (wrap64 (x3 - 1)) then (if (wrap64 (x3 - 1)) < (x102001.length : Int) then (if (rd x102001 (wrap64 (x3 - 1))) = 0 then (some false) else (if x102000 = 1 then (some true) else (some (x102000 == (-1))))) else (none)) else (none)) else (some false)))
def impl_IsWhole.f (k : Nat) (a0_0 : Int) (l0_1 : List Int) : Option (Bool) := impl_IsWhole.l0 k (l0_1.length : Int) l0_1 (l0_1.length : Int) 0 a0_0 l0_1
theorem impl_IsWhole.mono_l : ∀ k, (∀ y0 y1 y2 y3 y4 y5, LeO (impl_IsWhole.l0 k y0 y1 y2 y3 y4 y5) (impl_IsWhole.l0 (k + 1) y0 y1 y2 y3 y4 y5))
  | 0 => fun _ _ _ _ _ _ r h => by simp [impl_IsWhole.l0] at h
  | k + 1 => by
    have ih0 := impl_IsWhole.mono_l k
    · intro y0 y1 y2 y3 y4 y5
      unfold impl_IsWhole.l0
      repeat' first
      | (with_reducible exact ih0 _ _ _ _ _ _)
      | (with_reducible exact LeO.refl _)
      | (with_reducible exact LeO.none _)
      | (with_reducible refine LeO.ite ?_ ?_)
      | (with_reducible refine LeO.bind ?_ (fun _ => ?_))
      | exact ih0 _ _ _ _ _ _
      | exact LeO.none _
      | refine LeO.ite ?_ ?_
      | refine LeO.bind ?_ (fun _ => ?_)
theorem impl_IsWhole.mono : ∀ a0 a1 k, LeO (impl_IsWhole.f k a0 a1) (impl_IsWhole.f (k + 1) a0 a1) := by
  intro a0 a1 k
  have ih0 := impl_IsWhole.mono_l k
  unfold impl_IsWhole.f
  repeat' first
      | (with_reducible exact ih0 _ _ _ _ _ _)
      | (with_reducible exact LeO.refl _)
      | (with_reducible exact LeO.none _)
      | (with_reducible refine LeO.ite ?_ ?_)
      | (with_reducible refine LeO.bind ?_ (fun _ => ?_))
      | exact ih0 _ _ _ _ _ _
      | exact LeO.none _
      | refine LeO.ite ?_ ?_
      | refine LeO.bind ?_ (fun _ => ?_)
set_option maxHeartbeats 8000000 in
set_option maxRecDepth 100000 in
theorem impl_IsWhole.calls (k : Nat) (a0_0 : Int) (A0_1 : Option Addr) (c0_1 : Nat) (l0_1 : List Int) (r : Bool) (w : World) (hr0_1 : Kd.C (Kd.int .i64) w A0_1 l0_1.length l0_1) (hc0_1 : l0_1.length ≤ c0_1) (h : impl_IsWhole.f k a0_0 l0_1 = some r) :
  Calls Tryd.prog 46 #[.agg #[.int .i64 a0_0, .slice A0_1 l0_1.length c0_1]] w fun e w' => e = .returned (.bool r) ∧ Below w.heap.size w w' := by
 have hu26 := Tryd.underlying26; have HR0_1 := am_ hr0_1; have HC0_1 := am_ hc0_1; clear hr0_1 hc0_1; have HB := am_ (Below.refl w.heap.size w)
 have H : (impl_IsWhole.l0 k (l0_1.length : Int) l0_1 (l0_1.length : Int) 0 a0_0 l0_1) = some r := h
 clear h
 have H' := am_ H
 clear H
 go_enter Tryd.func46, Tryd.ntmps46
 go_wp2_with (first | ((with_reducible refine gate_dst (N := 1) rfl ?_); refine box_event ?hg (N := 1) ?hd (cs := #[.int .i64 a0_0, .slice A0_1 l0_1.length c0_1]) (t := 26) ?hr ?_; (case hd => rfl); (case hg => rfl); (case hr => first | (go_simp; done) | (go_simp; rfl)); intro gb101 hg w2 hbox hb; have BK101 := am_ (hbox); have GW101 := am_ (gs_ hg HB); have GE101 := am_ (gs_ hg HB); replace HB := am_ (below_step (bl_ HB) hb); clear hb hbox hg; have hcz3_0 : w2.cell? ⟨gb101, 0, none⟩ = some (.int .i64 a0_0) := bc_ BK101 0; have hcz3_1 : w2.cell? ⟨gb101, 1, none⟩ = some (.slice A0_1 l0_1.length c0_1) := bc_ BK101 1; have hfz3_0 := blk_frozen BK101.out 0; have hfz3_1 := blk_frozen BK101.out 1))
 go_loopg [12] k (fun kq v12 w' => ∃ (x12_1 : Int), v12 = .int .i64 x12_1 ∧ Aside0 (impl_IsWhole.l0 kq (l0_1.length : Int) l0_1 (l0_1.length : Int) x12_1 a0_0 l0_1 = some r) ∧ Aside0 (kq ≤ k) ∧ Aside0 (w'.heap[gb101]? = some (.cells #[.int .i64 a0_0, (.slice A0_1 l0_1.length c0_1)] 26 (0, 0))) ∧ Aside0 (Below w.heap.size w w'))
 case atStart => exact ⟨(0), (by first | rfl | (simp; done) | (simp [*]; done)), H', ⟨Nat.le_refl _⟩, ⟨bk_ BK101⟩, ⟨bl_ HB⟩⟩
 case round =>
  clear H'; try clear p2; try clear hcz3_0; try clear hcz3_1; try clear hfz3_0; try clear hfz3_1
  obtain ⟨x12_1, rfl, HA, HK1, BK101, HB⟩ := hrel
  cases gk with
  | zero => exact absurd HA.out (by simp [impl_IsWhole.l0])
  | succ k1 =>
   have H := HA.out; clear HA
   simp only [impl_IsWhole.l0] at H
   by_cases c4 : x12_1 < (l0_1.length : Int)
   ·rw [if_pos c4] at H
    have c4b0 : decide (x12_1 < (l0_1.length : Int)) = true := decide_eq_true c4
    clear c4
    by_cases c5 : 0 ≤ x12_1
    ·rw [if_pos c5] at H
     have c5b0 : decide (0 ≤ x12_1) = true := decide_eq_true c5
     clear c5
     by_cases c6 : x12_1 < (l0_1.length : Int)
     ·rw [if_pos c6] at H
      have c6b0 : decide (x12_1 < (l0_1.length : Int)) = true := decide_eq_true c6
      clear c6
      replace H := Option.bind_eq_some_iff.mp H
      obtain ⟨t103, A70, H⟩ := H
      replace H : (if t103 = true then (impl_IsWhole.l0 k1 (l0_1.length : Int) l0_1 (l0_1.length : Int) (wrap64 (x12_1 + 1)) a0_0 l0_1) else (some false)) = some r := H
      have A7 := am_ A70; clear A70
      by_cases c8 : t103 = true
      ·subst c8
       have H1 : (impl_IsWhole.l0 k1 (l0_1.length : Int) l0_1 (l0_1.length : Int) (wrap64 (x12_1 + 1)) a0_0 l0_1) = some r := by rw [if_pos rfl] at H; exact H
       clear H; have H := H1; clear H1
       have H' := am_ H
       clear H
       have p102 : 0 ≤ (x12_1 : Int) := of_decide_eq_true (by first | (with_reducible assumption) | assumption)
       have q102 : x12_1 < (l0_1.length : Int) := of_decide_eq_true (by first | (with_reducible assumption) | assumption)
       obtain ⟨ad102, e102, hx102_0⟩ := Kd.at_int HR0_1.out x12_1 p102 q102
       cases e102
       replace hx102_0 := (HB.out.cell (World.block_lt_of_cell? w _ hx102_0)).trans hx102_0
       replace p102 := eq_true p102
       replace q102 := eq_true q102
       go_wp2_with (first | ((with_reducible refine gate_callee (f := 88) rfl ?_); refine goesL_ (some 17) rfl rfl Tryd.func88 (by kernel_rfl) rfl #[.int .i64 (rd l0_1 x12_1), .int .i64 0, .int .i64 16777215] rfl ma_ ?_; (with_reducible refine (impl_between.calls (rd l0_1 x12_1) 0 16777215 true _ A7.out).mono ?_); rintro e w' ⟨rfl, ⟨nd, rfl⟩⟩; refine ⟨_, rfl, ?_⟩))
       go_roundg k1
       case measure => have := HK1.out; omega
       case rel => exact ⟨(wrap64 (x12_1 + 1)), (by first | rfl | (simp; done) | (simp [*]; done)), H', ⟨by have := HK1.out; omega⟩, ⟨bk_ BK101⟩, ⟨bl_ HB⟩⟩
      ·replace c8 := Bool.eq_false_iff.mpr c8
       subst c8
       have H1 : (some false) = some r := by rw [if_neg (show ¬ (false = true) by decide)] at H; exact H
       clear H; have H := H1; clear H1; obtain rfl := Option.some.inj H
       have p102 : 0 ≤ (x12_1 : Int) := of_decide_eq_true (by first | (with_reducible assumption) | assumption)
       have q102 : x12_1 < (l0_1.length : Int) := of_decide_eq_true (by first | (with_reducible assumption) | assumption)
       obtain ⟨ad102, e102, hx102_0⟩ := Kd.at_int HR0_1.out x12_1 p102 q102
       cases e102
       replace hx102_0 := (HB.out.cell (World.block_lt_of_cell? w _ hx102_0)).trans hx102_0
       replace p102 := eq_true p102
       replace q102 := eq_true q102
       go_wp2_with (first | ((with_reducible refine gate_callee (f := 88) rfl ?_); refine goesL_ (some 17) rfl rfl Tryd.func88 (by kernel_rfl) rfl #[.int .i64 (rd l0_1 x12_1), .int .i64 0, .int .i64 16777215] rfl ma_ ?_; (with_reducible refine (impl_between.calls (rd l0_1 x12_1) 0 16777215 false _ A7.out).mono ?_); rintro e w' ⟨rfl, ⟨nd, rfl⟩⟩; refine ⟨_, rfl, ?_⟩))
       go_ret
       exact ⟨by first | rfl | (simp [errW_none, errW_some] <;> rfl) | (simp [*, errW_none, errW_some] <;> rfl), bl_ HB⟩
     ·rw [if_neg c6] at H
      exact absurd H (by simp)
    ·rw [if_neg c5] at H
     exact absurd H (by simp)
   ·rw [if_neg c4] at H
    have c4b0 : decide (x12_1 < (l0_1.length : Int)) = false := decide_eq_false c4
    clear c4
    by_cases c9 : (l0_1.length : Int) = 0
    ·rw [if_pos c9] at H
     have c9b0 : ((l0_1.length : Int) == 0) = true := beq_iff_eq.mpr c9
     have c9b1 : ((l0_1.length : Int) != 0) = false := bne_eq_false_iff_eq.mpr c9
     clear c9; obtain rfl := Option.some.inj H
     have hcz10_0 : wr.cell? ⟨gb101, 0, none⟩ = some (.int .i64 a0_0) := bc_ BK101 0
     have hcz10_1 : wr.cell? ⟨gb101, 1, none⟩ = some (.slice A0_1 l0_1.length c0_1) := bc_ BK101 1
     have hfz10_0 := blk_frozen BK101.out 0; have hfz10_1 := blk_frozen BK101.out 1
     go_wp2
     go_ret
     exact ⟨by first | rfl | (simp [errW_none, errW_some] <;> rfl) | (simp [*, errW_none, errW_some] <;> rfl), bl_ HB⟩
    ·rw [if_neg c9] at H
     have c9b0 : ((l0_1.length : Int) == 0) = false := beq_eq_false_iff_ne.mpr c9
     have c9b1 : ((l0_1.length : Int) != 0) = true := bne_iff_ne.mpr c9
     have c9b2 : ¬ (l0_1 = []) := fun h_ => c9 (by rw [h_]; rfl)
     by_cases c11 : (l0_1.length : Int) ≤ 200
     ·rw [if_pos c11] at H
      have c11b0 : decide ((l0_1.length : Int) ≤ 200) = true := decide_eq_true c11
      have c11b1 : decide (l0_1.length ≤ 200) = true := decide_eq_true (by omega)
      clear c11
      obtain ⟨ji12, hji12⟩ : ∃ j_ : Int, (wrap64 ((l0_1.length : Int) - 1)) = j_ := ⟨_, rfl⟩
      replace H : (if 0 ≤ (ji12) then (if (ji12) < (l0_1.length : Int) then (if (rd l0_1 (ji12)) = 0 then (some false) else (if a0_0 = 1 then (some true) else (some (a0_0 == (-1))))) else (none)) else (none)) = some r := by first | (rw [hji12] at H; exact H) | (simp only [hji12] at H ⊢; exact H)
      have hji12w : (IntKind.i64.wrap ((l0_1.length : Int) - 1)) = ji12 := (i64_w _).trans hji12
      by_cases c13 : 0 ≤ (ji12)
      ·rw [if_pos c13] at H
       have c13b0 : decide (0 ≤ (ji12)) = true := decide_eq_true c13
       clear c13
       by_cases c14 : (ji12) < (l0_1.length : Int)
       ·rw [if_pos c14] at H
        have c14b0 : decide ((ji12) < (l0_1.length : Int)) = true := decide_eq_true c14
        clear c14
        by_cases c15 : (rd l0_1 (ji12)) = 0
        ·rw [if_pos c15] at H
         have c15b0 : ((rd l0_1 (ji12)) == 0) = true := beq_iff_eq.mpr c15
         have c15b1 : ((rd l0_1 (ji12)) != 0) = false := bne_eq_false_iff_eq.mpr c15
         clear c15; obtain rfl := Option.some.inj H
         have hcz16_0 : wr.cell? ⟨gb101, 0, none⟩ = some (.int .i64 a0_0) := bc_ BK101 0
         have hcz16_1 : wr.cell? ⟨gb101, 1, none⟩ = some (.slice A0_1 l0_1.length c0_1) := bc_ BK101 1
         have hfz16_0 := blk_frozen BK101.out 0; have hfz16_1 := blk_frozen BK101.out 1
         have p104 : 0 ≤ ((ji12) : Int) := of_decide_eq_true (by first | (with_reducible assumption) | assumption)
         have q104 : (ji12) < (l0_1.length : Int) := of_decide_eq_true (by first | (with_reducible assumption) | assumption)
         obtain ⟨ad104, e104, hx104_0⟩ := Kd.at_int HR0_1.out (ji12) p104 q104
         cases e104
         replace hx104_0 := (HB.out.cell (World.block_lt_of_cell? w _ hx104_0)).trans hx104_0
         replace p104 := eq_true p104
         replace q104 := eq_true q104
         go_wp2
         go_ret
         exact ⟨by first | rfl | (simp [errW_none, errW_some] <;> rfl) | (simp only [← hji12]; first | rfl | (simp [errW_none, errW_some] <;> rfl)) | (simp [*, errW_none, errW_some] <;> rfl), bl_ HB⟩
        ·rw [if_neg c15] at H
         have c15b0 : ((rd l0_1 (ji12)) == 0) = false := beq_eq_false_iff_ne.mpr c15
         have c15b1 : ((rd l0_1 (ji12)) != 0) = true := bne_iff_ne.mpr c15
         by_cases c17 : a0_0 = 1
         ·rw [if_pos c17] at H
          have c17b0 : (a0_0 == 1) = true := beq_iff_eq.mpr c17
          have c17b1 : (a0_0 != 1) = false := bne_eq_false_iff_eq.mpr c17
          clear c17; obtain rfl := Option.some.inj H
          have hcz18_0 : wr.cell? ⟨gb101, 0, none⟩ = some (.int .i64 a0_0) := bc_ BK101 0
          have hcz18_1 : wr.cell? ⟨gb101, 1, none⟩ = some (.slice A0_1 l0_1.length c0_1) := bc_ BK101 1
          have hfz18_0 := blk_frozen BK101.out 0; have hfz18_1 := blk_frozen BK101.out 1
          have p104 : 0 ≤ ((ji12) : Int) := of_decide_eq_true (by first | (with_reducible assumption) | assumption)
          have q104 : (ji12) < (l0_1.length : Int) := of_decide_eq_true (by first | (with_reducible assumption) | assumption)
          obtain ⟨ad104, e104, hx104_0⟩ := Kd.at_int HR0_1.out (ji12) p104 q104
          cases e104
          replace hx104_0 := (HB.out.cell (World.block_lt_of_cell? w _ hx104_0)).trans hx104_0
          replace p104 := eq_true p104
          replace q104 := eq_true q104
          go_wp2
          go_ret
          exact ⟨by first | rfl | (simp [errW_none, errW_some] <;> rfl) | (simp only [← hji12]; first | rfl | (simp [errW_none, errW_some] <;> rfl)) | (simp [*, errW_none, errW_some] <;> rfl), bl_ HB⟩
         ·rw [if_neg c17] at H
          have c17b0 : (a0_0 == 1) = false := beq_eq_false_iff_ne.mpr c17
          have c17b1 : (a0_0 != 1) = true := bne_iff_ne.mpr c17
          obtain rfl := Option.some.inj H
          have hcz19_0 : wr.cell? ⟨gb101, 0, none⟩ = some (.int .i64 a0_0) := bc_ BK101 0
          have hcz19_1 : wr.cell? ⟨gb101, 1, none⟩ = some (.slice A0_1 l0_1.length c0_1) := bc_ BK101 1
          have hfz19_0 := blk_frozen BK101.out 0; have hfz19_1 := blk_frozen BK101.out 1
          have p104 : 0 ≤ ((ji12) : Int) := of_decide_eq_true (by first | (with_reducible assumption) | assumption)
          have q104 : (ji12) < (l0_1.length : Int) := of_decide_eq_true (by first | (with_reducible assumption) | assumption)
          obtain ⟨ad104, e104, hx104_0⟩ := Kd.at_int HR0_1.out (ji12) p104 q104
          cases e104
          replace hx104_0 := (HB.out.cell (World.block_lt_of_cell? w _ hx104_0)).trans hx104_0
          replace p104 := eq_true p104
          replace q104 := eq_true q104
          go_wp2
          go_ret
          exact ⟨by first | rfl | (simp [errW_none, errW_some] <;> rfl) | (simp only [← hji12]; first | rfl | (simp [errW_none, errW_some] <;> rfl)) | (simp [*, errW_none, errW_some] <;> rfl), bl_ HB⟩
       ·rw [if_neg c14] at H
        exact absurd H (by simp)
      ·rw [if_neg c13] at H
       exact absurd H (by simp)
     ·rw [if_neg c11] at H
      have c11b0 : decide ((l0_1.length : Int) ≤ 200) = false := decide_eq_false c11
      have c11b1 : decide (l0_1.length ≤ 200) = false := decide_eq_false (by omega)
      clear c11; obtain rfl := Option.some.inj H
      go_wp2
      go_ret
      exact ⟨by first | rfl | (simp [errW_none, errW_some] <;> rfl) | (simp [*, errW_none, errW_some] <;> rfl), bl_ HB⟩
end Go.Proofs.YtghhphndbbefjaaDoor.A
