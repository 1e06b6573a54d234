/- Functions of the program as plain Lean functions, each with a proof that its call does what that function says. Printed by a program over the kit's print; conditions stand in each contract. -/
import Derived.Test.YtghhphndbbefjaaDoorG10
import Derived.Test.YtghhphndbbefjaaDoorG15
import Derived.Test.YtghhphndbbefjaaDoorG16
import Derived.Test.YtghhphndbbefjaaDoorG18
namespace Go.Proofs.YtghhphndbbefjaaDoor.X
open Go.RowKit Go.Proofs.YtghhphndbbefjaaDoorW.PrintWords Go.Proofs.YtghhphndbbefjaaDoorW.PrintLast Go.Proofs.YtghhphndbbefjaaDoorW.PrintMore Go.Proofs.YtghhphndbbefjaaDoor.Sq
attribute [local go_sem] max2_int min2_int max_two min_two max_three min_three max_four min_four   -- for this text's walks alone
set_option linter.unusedVariables false
set_option linter.unusedSimpArgs false
def spec_l03Add.f (k : Nat) (a0_0 : Int) (l0_1 : List Int) (a0_2 : Int) (a1_0 : Int) (l1_1 : List Int) (a1_2 : Int) : Option (Int × List Int × Int) := if a0_0 = 0 then ((spec_l03Make.f k a1_0 l1_1 a1_2).bind fun bt339 => (some (bt339.1, bt339.2.1, bt339.2.2))) else (if a1_0 = 0 then ((spec_l03Make.f k a0_0 l0_1 a0_2).bind fun bt344 => (some (bt344.1, bt344.2.1, bt344.2.2))) else ((spec_l02Left.f k a0_0 l0_1 (wrap64 (a0_2 - (mn a0_2 a1_2)))).bind fun bt349 => ((spec_l02Left.f k a1_0 l1_1 (wrap64 (a1_2 - (mn a0_2 a1_2)))).bind fun bt353 => ((spec_l02Add.f k bt349.1 bt349.2 bt353.1 bt353.2).bind fun bt357 => ((spec_l03Make.f k bt357.1 bt357.2 (mn a0_2 a1_2)).bind fun bt361 => (some (bt361.1, bt361.2.1, bt361.2.2)))))))
theorem spec_l03Add.mono : ∀ a0 a1 a2 a3 a4 a5 k, LeO (spec_l03Add.f k a0 a1 a2 a3 a4 a5) (spec_l03Add.f (k + 1) a0 a1 a2 a3 a4 a5) := by
  intro a0 a1 a2 a3 a4 a5 k
  unfold spec_l03Add.f
  repeat' first
      | (with_reducible exact spec_l02Add.mono _ _ _ _ _)
      | (with_reducible exact spec_l02Left.mono _ _ _ _)
      | (with_reducible exact spec_l03Make.mono _ _ _ _)
      | (with_reducible exact LeO.refl _)
      | (with_reducible exact LeO.none _)
      | (with_reducible refine LeO.ite ?_ ?_)
      | (with_reducible refine LeO.bind ?_ (fun _ => ?_))
      | exact spec_l02Add.mono _ _ _ _ _
      | exact spec_l02Left.mono _ _ _ _
      | exact spec_l03Make.mono _ _ _ _
      | exact LeO.none _
      | refine LeO.ite ?_ ?_
      | refine LeO.bind ?_ (fun _ => ?_)
def spec_l03Add.T6 : Bool × List (List Nat × List Nat) := (true, [([], []), ([0], [0]), ([], []), ([2], [2]), ([], []), ([3, 4], [3, 4]), ([1, 5], [1, 5]), ([], []), ([7], [7]), ([], []), ([9], [9]), ([], []), ([10, 11], [10, 11]), ([8, 12, 6], [8, 12]), ([6, 13, 13], [6, 13]), ([], []), ([14, 15, 14], [14, 15]), ([16, 16, 0, 1, 2, 3, 4, 5, 6, 7, 8, 9, 10, 11, 12, 13, 14, 15, 16], [16])])
def spec_l03Add.B6 : List Nat := [0, 1, 0, 4, 0, 28, 63, 0, 128, 0, 512, 0, 3584, 8191, 16383, 0, 65535, 131071]
theorem spec_l03Add.tab6 : rtab .any (opsOf Tryd.f115 6) = spec_l03Add.T6 := by kernel_rfl
theorem spec_l03Add.bits6 : waitsOk spec_l03Add.T6.2 spec_l03Add.B6 = true := by kernel_rfl
set_option maxHeartbeats 8000000 in
set_option maxRecDepth 100000 in
theorem spec_l03Add.calls (k : Nat) (a0_0 : Int) (A0_1 : Option Addr) (c0_1 : Nat) (l0_1 : List Int) (a0_2 : Int) (a1_0 : Int) (A1_1 : Option Addr) (c1_1 : Nat) (l1_1 : List Int) (a1_2 : Int) (r1 : Int) (r2 : List Int) (r3 : Int) (w : World) (hr0_1 : Kd.C (Kd.int .i64) w A0_1 l0_1.length l0_1) (hc0_1 : l0_1.length ≤ c0_1) (hr1_1 : Kd.C (Kd.int .i64) w A1_1 l1_1.length l1_1) (hc1_1 : l1_1.length ≤ c1_1) (h : spec_l03Add.f k a0_0 l0_1 a0_2 a1_0 l1_1 a1_2 = some (r1, r2, r3)) :
  Calls Tryd.prog 115 #[.agg #[.int .i64 a0_0, .slice A0_1 l0_1.length c0_1, .int .i64 a0_2], .agg #[.int .i64 a1_0, .slice A1_1 l1_1.length c1_1, .int .i64 a1_2]] w fun e w' => ∃ v1_ : Value, e = .returned (.agg #[.int .i64 r1, v1_, .int .i64 r3]) ∧ Kd.R (Kd.int .i64) 2 w' w.heap.size (fun _ => True) v1_ r2 ∧ Below w.heap.size w w' := by
 have hu45 := Tryd.underlying45; have hu26 := Tryd.underlying26; have HR0_1 := Aside0.mk hr0_1; have HC0_1 := Aside0.mk hc0_1; clear hr0_1 hc0_1; have HR1_1 := Aside0.mk hr1_1; have HC1_1 := Aside0.mk hc1_1; clear hr1_1 hc1_1; have HB := am_ (Below.refl w.heap.size w)
 have H : (if a0_0 = 0 then ((spec_l03Make.f k a1_0 l1_1 a1_2).bind fun bt339 => (some (bt339.1, bt339.2.1, bt339.2.2))) else (if a1_0 = 0 then ((spec_l03Make.f k a0_0 l0_1 a0_2).bind fun bt344 => (some (bt344.1, bt344.2.1, bt344.2.2))) else ((spec_l02Left.f k a0_0 l0_1 (wrap64 (a0_2 - (mn a0_2 a1_2)))).bind fun bt349 => ((spec_l02Left.f k a1_0 l1_1 (wrap64 (a1_2 - (mn a0_2 a1_2)))).bind fun bt353 => ((spec_l02Add.f k bt349.1 bt349.2 bt353.1 bt353.2).bind fun bt357 => ((spec_l03Make.f k bt357.1 bt357.2 (mn a0_2 a1_2)).bind fun bt361 => (some (bt361.1, bt361.2.1, bt361.2.2)))))))) = some (r1, r2, r3) := h
 clear h
 by_cases c3 : a0_0 = 0
 ·rw [if_pos c3] at H
  have c3b0 : (a0_0 == 0) = true := beq_iff_eq.mpr c3
  have c3b1 : (a0_0 != 0) = false := bne_eq_false_iff_eq.mpr c3
  clear c3
  replace H := Option.bind_eq_some_iff.mp H
  obtain ⟨⟨t339, t340, t343⟩, A40, H⟩ := H
  replace H : (some (t339, t340, t343)) = some (r1, r2, r3) := H
  have A4 := Aside0.mk A40; clear A40
  simp only [Option.some.injEq, Prod.mk.injEq] at H
  obtain ⟨rfl, rfl, rfl⟩ := H
  go_enter Tryd.func115, Tryd.ntmps115
  go_wp2_with (first | ((with_reducible refine gate_dst (N := 2) rfl ?_); refine bx_ 2 #[.int .i64 a0_0, .slice A0_1 l0_1.length c0_1, .int .i64 a0_2] 45 ?_; intro gb336 hg w5 hbox hb; obtain ⟨BK336, GW336, GE336⟩ := nb_ hbox hg HB; replace HB := bs_ HB hb; clear hb hbox hg) | ((with_reducible refine gate_dst (N := 3) rfl ?_); refine bx_ 3 #[.int .i64 a1_0, .slice A1_1 l1_1.length c1_1, .int .i64 a1_2] 45 ?_; intro gb337 hg w6 hbox hb; obtain ⟨BK337, GW337, GE337⟩ := nb_ hbox hg HB; obtain ⟨NB336_337, NB337_336⟩ := nn_ hg BK336; replace BK336 := bb_ BK336 hb; replace HB := bs_ HB hb; clear hb hbox hg) | ((with_reducible refine gate_dst (N := 4) rfl ?_); refine bx_ 4 #[.int .i64 0, .slice none 0 0, .int .i64 0] 45 ?_; intro gb338 hg w7 hbox hb; obtain ⟨BK338, GW338, GE338⟩ := nb_ hbox hg HB; obtain ⟨NB336_338, NB338_336⟩ := nn_ hg BK336; obtain ⟨NB337_338, NB338_337⟩ := nn_ hg BK337; replace BK336 := bb_ BK336 hb; replace BK337 := bb_ BK337 hb; replace HB := bs_ HB hb; clear hb hbox hg; have hnb8 := NB336_337.out; have hnc8 := NB337_336.out; have hnb9 := NB336_338.out; have hnc9 := NB338_336.out; obtain ⟨hcz10_0, hcz10_1, hcz10_2, hfz10_0, hfz10_1, hfz10_2⟩ := ck3_ BK336; have hnb11 := NB337_338.out; have hnc11 := NB338_337.out; obtain ⟨hcz12_0, hcz12_1, hcz12_2, hfz12_0, hfz12_1, hfz12_2⟩ := ck3_ BK337) | ((with_reducible refine gate_callee (f := 118) rfl ?_); refine goesL_ (some 14) rfl rfl Tryd.func118 (by kernel_rfl) rfl #[.agg #[.int .i64 a1_0, .slice A1_1 l1_1.length c1_1], .int .i64 a1_2] rfl ma_ ?_; (with_reducible refine (spec_l03Make.calls k a1_0 _ _ l1_1 a1_2 t339 t340 t343 _ ?side1 ?side2 A4.out).mono ?_); (case side1 => exact cb_ HR1_1 HB); (case side2 => exact HC1_1.out); rintro e w13 ⟨v341, rfl, ho0, hb⟩; refine ⟨_, rfl, ?_⟩; have HO342 := am_ (Kd.R_lower ho0 (below_size (bl_ HB))); replace BK336 := bb_ BK336 hb; replace BK337 := bb_ BK337 hb; replace BK338 := bb_ BK338 hb; replace HB := bs_ HB hb; (try clear hb); (try clear hb2); (try clear hk); (try clear hi); (try clear ho0); obtain ⟨hcz14_0, hcz14_1, hcz14_2, hfz14_0, hfz14_1, hfz14_2⟩ := ck3_ BK338; obtain ⟨Ao15, co15, eo15⟩ := Kd.R_slice HO342.out; subst eo15))
  refine bodyPost_ret (results_cell_row rfl _ _ gb338 45 #[.int .i64 t339, .slice Ao15 t340.length co15, .int .i64 t343] (0, 0) _ rfl (bp3_ BK338) Tryd.underlying45 rfl (by kernel_rfl)) rfl ?_
  exact ⟨_, by first | rfl | (simp [errW_none, errW_some] <;> rfl) | (simp [*, errW_none, errW_some] <;> rfl), ru_ HO342 BK338, bl_ HB⟩
 ·rw [if_neg c3] at H
  have c3b0 : (a0_0 == 0) = false := beq_eq_false_iff_ne.mpr c3
  have c3b1 : (a0_0 != 0) = true := bne_iff_ne.mpr c3
  by_cases c16 : a1_0 = 0
  ·rw [if_pos c16] at H
   have c16b0 : (a1_0 == 0) = true := beq_iff_eq.mpr c16
   have c16b1 : (a1_0 != 0) = false := bne_eq_false_iff_eq.mpr c16
   clear c16
   replace H := Option.bind_eq_some_iff.mp H
   obtain ⟨⟨t344, t345, t348⟩, A170, H⟩ := H
   replace H : (some (t344, t345, t348)) = some (r1, r2, r3) := H
   have A17 := Aside0.mk A170; clear A170
   simp only [Option.some.injEq, Prod.mk.injEq] at H
   obtain ⟨rfl, rfl, rfl⟩ := H
   go_enter Tryd.func115, Tryd.ntmps115
   go_wp2_with (first | ((with_reducible refine gate_dst (N := 2) rfl ?_); refine bx_ 2 #[.int .i64 a0_0, .slice A0_1 l0_1.length c0_1, .int .i64 a0_2] 45 ?_; intro gb336 hg w18 hbox hb; obtain ⟨BK336, GW336, GE336⟩ := nb_ hbox hg HB; replace HB := bs_ HB hb; clear hb hbox hg) | ((with_reducible refine gate_dst (N := 3) rfl ?_); refine bx_ 3 #[.int .i64 a1_0, .slice A1_1 l1_1.length c1_1, .int .i64 a1_2] 45 ?_; intro gb337 hg w19 hbox hb; obtain ⟨BK337, GW337, GE337⟩ := nb_ hbox hg HB; obtain ⟨NB336_337, NB337_336⟩ := nn_ hg BK336; replace BK336 := bb_ BK336 hb; replace HB := bs_ HB hb; clear hb hbox hg) | ((with_reducible refine gate_dst (N := 4) rfl ?_); refine bx_ 4 #[.int .i64 0, .slice none 0 0, .int .i64 0] 45 ?_; intro gb338 hg w20 hbox hb; obtain ⟨BK338, GW338, GE338⟩ := nb_ hbox hg HB; obtain ⟨NB336_338, NB338_336⟩ := nn_ hg BK336; obtain ⟨NB337_338, NB338_337⟩ := nn_ hg BK337; replace BK336 := bb_ BK336 hb; replace BK337 := bb_ BK337 hb; replace HB := bs_ HB hb; clear hb hbox hg; have hnb21 := NB336_337.out; have hnc21 := NB337_336.out; have hnb22 := NB336_338.out; have hnc22 := NB338_336.out; obtain ⟨hcz23_0, hcz23_1, hcz23_2, hfz23_0, hfz23_1, hfz23_2⟩ := ck3_ BK336; have hnb24 := NB337_338.out; have hnc24 := NB338_337.out; obtain ⟨hcz25_0, hcz25_1, hcz25_2, hfz25_0, hfz25_1, hfz25_2⟩ := ck3_ BK337) | ((with_reducible refine gate_callee (f := 118) rfl ?_); refine goesL_ (some 23) rfl rfl Tryd.func118 (by kernel_rfl) rfl #[.agg #[.int .i64 a0_0, .slice A0_1 l0_1.length c0_1], .int .i64 a0_2] rfl ma_ ?_; (with_reducible refine (spec_l03Make.calls k a0_0 _ _ l0_1 a0_2 t344 t345 t348 _ ?side1 ?side2 A17.out).mono ?_); (case side1 => exact cb_ HR0_1 HB); (case side2 => exact HC0_1.out); rintro e w26 ⟨v346, rfl, ho0, hb⟩; refine ⟨_, rfl, ?_⟩; have HO347 := am_ (Kd.R_lower ho0 (below_size (bl_ HB))); replace BK336 := bb_ BK336 hb; replace BK337 := bb_ BK337 hb; replace BK338 := bb_ BK338 hb; replace HB := bs_ HB hb; (try clear hb); (try clear hb2); (try clear hk); (try clear hi); (try clear ho0); obtain ⟨hcz27_0, hcz27_1, hcz27_2, hfz27_0, hfz27_1, hfz27_2⟩ := ck3_ BK338; obtain ⟨Ao28, co28, eo28⟩ := Kd.R_slice HO347.out; subst eo28))
   refine bodyPost_ret (results_cell_row rfl _ _ gb338 45 #[.int .i64 t344, .slice Ao28 t345.length co28, .int .i64 t348] (0, 0) _ rfl (bp3_ BK338) Tryd.underlying45 rfl (by kernel_rfl)) rfl ?_
   exact ⟨_, by first | rfl | (simp [errW_none, errW_some] <;> rfl) | (simp [*, errW_none, errW_some] <;> rfl), ru_ HO347 BK338, bl_ HB⟩
  ·rw [if_neg c16] at H
   have c16b0 : (a1_0 == 0) = false := beq_eq_false_iff_ne.mpr c16
   have c16b1 : (a1_0 != 0) = true := bne_iff_ne.mpr c16
   obtain ⟨ji29, hji29⟩ : ∃ j_ : Int, (mn a0_2 a1_2) = j_ := ⟨_, rfl⟩
   replace H : ((spec_l02Left.f k a0_0 l0_1 (wrap64 (a0_2 - (ji29)))).bind fun bt349 => ((spec_l02Left.f k a1_0 l1_1 (wrap64 (a1_2 - (ji29)))).bind fun bt353 => ((spec_l02Add.f k bt349.1 bt349.2 bt353.1 bt353.2).bind fun bt357 => ((spec_l03Make.f k bt357.1 bt357.2 (ji29)).bind fun bt361 => (some (bt361.1, bt361.2.1, bt361.2.2)))))) = some (r1, r2, r3) := by first | (rw [hji29] at H; exact H) | (simp only [hji29] at H ⊢; exact H)
   have hji29_ : (if a1_2 < a0_2 then a1_2 else a0_2) = ji29 := hji29
   replace H := Option.bind_eq_some_iff.mp H
   obtain ⟨⟨t349, t350⟩, A300, H⟩ := H
   replace H : ((spec_l02Left.f k a1_0 l1_1 (wrap64 (a1_2 - (ji29)))).bind fun bt353 => ((spec_l02Add.f k t349 t350 bt353.1 bt353.2).bind fun bt357 => ((spec_l03Make.f k bt357.1 bt357.2 (ji29)).bind fun bt361 => (some (bt361.1, bt361.2.1, bt361.2.2))))) = some (r1, r2, r3) := H
   have A30 := Aside0.mk A300; clear A300
   replace H := Option.bind_eq_some_iff.mp H
   obtain ⟨⟨t353, t354⟩, A310, H⟩ := H
   replace H : ((spec_l02Add.f k t349 t350 t353 t354).bind fun bt357 => ((spec_l03Make.f k bt357.1 bt357.2 (ji29)).bind fun bt361 => (some (bt361.1, bt361.2.1, bt361.2.2)))) = some (r1, r2, r3) := H
   have A31 := Aside0.mk A310; clear A310
   replace H := Option.bind_eq_some_iff.mp H
   obtain ⟨⟨t357, t358⟩, A320, H⟩ := H
   replace H : ((spec_l03Make.f k t357 t358 (ji29)).bind fun bt361 => (some (bt361.1, bt361.2.1, bt361.2.2))) = some (r1, r2, r3) := H
   have A32 := Aside0.mk A320; clear A320
   replace H := Option.bind_eq_some_iff.mp H
   obtain ⟨⟨t361, t362, t365⟩, A330, H⟩ := H
   replace H : (some (t361, t362, t365)) = some (r1, r2, r3) := H
   have A33 := Aside0.mk A330; clear A330
   simp only [Option.some.injEq, Prod.mk.injEq] at H
   obtain ⟨rfl, rfl, rfl⟩ := H
   go_enter Tryd.func115, Tryd.ntmps115
   try go_wp2_with (first | ((with_reducible refine gate_dst (N := 2) rfl ?_); refine bx_ 2 #[.int .i64 a0_0, .slice A0_1 l0_1.length c0_1, .int .i64 a0_2] 45 ?_; intro gb336 hg w34 hbox hb; obtain ⟨BK336, GW336, GE336⟩ := nb_ hbox hg HB; replace HB := bs_ HB hb; clear hb hbox hg) | ((with_reducible refine gate_dst (N := 3) rfl ?_); refine bx_ 3 #[.int .i64 a1_0, .slice A1_1 l1_1.length c1_1, .int .i64 a1_2] 45 ?_; intro gb337 hg w35 hbox hb; obtain ⟨BK337, GW337, GE337⟩ := nb_ hbox hg HB; obtain ⟨NB336_337, NB337_336⟩ := nn_ hg BK336; replace BK336 := bb_ BK336 hb; replace HB := bs_ HB hb; clear hb hbox hg) | ((with_reducible refine gate_dst (N := 4) rfl ?_); refine bx_ 4 #[.int .i64 0, .slice none 0 0, .int .i64 0] 45 ?_; intro gb338 hg w36 hbox hb; obtain ⟨BK338, GW338, GE338⟩ := nb_ hbox hg HB; obtain ⟨NB336_338, NB338_336⟩ := nn_ hg BK336; obtain ⟨NB337_338, NB338_337⟩ := nn_ hg BK337; replace BK336 := bb_ BK336 hb; replace BK337 := bb_ BK337 hb; replace HB := bs_ HB hb; clear hb hbox hg; have hnb37 := NB336_337.out; have hnc37 := NB337_336.out; have hnb38 := NB336_338.out; have hnc38 := NB338_336.out; obtain ⟨hcz39_0, hcz39_1, hcz39_2, hfz39_0, hfz39_1, hfz39_2⟩ := ck3_ BK336; have hnb40 := NB337_338.out; have hnc40 := NB338_337.out; obtain ⟨hcz41_0, hcz41_1, hcz41_2, hfz41_0, hfz41_1, hfz41_2⟩ := ck3_ BK337))
   replace BK336 := am_ (blk_drew BK336.out); replace BK337 := am_ (blk_drew BK337.out); replace BK338 := am_ (blk_drew BK338.out); replace HB := am_ (below_drew1 HB.out)
   refine start_ (n := 18) (S := fun w' => w'.cell? ⟨gb336, 0, none⟩ = some (.int .i64 a0_0) ∧ w'.cell? ⟨gb336, 1, none⟩ = some (.slice A0_1 l0_1.length c0_1) ∧ w'.cell? ⟨gb336, 2, none⟩ = some (.int .i64 a0_2) ∧ w'.cell? ⟨gb337, 0, none⟩ = some (.int .i64 a1_0) ∧ w'.cell? ⟨gb337, 1, none⟩ = some (.slice A1_1 l1_1.length c1_1) ∧ w'.cell? ⟨gb337, 2, none⟩ = some (.int .i64 a1_2)) (ds := []) #[false, false, false, false, false, false, false, false, false, false, false, false, false, false, false, false, false, false] (by kernel_rfl) rfl rfl ⟨bc_ BK336 0, bc_ BK336 1, bc_ BK336 2, bc_ BK337 0, bc_ BK337 1, bc_ BK337 2⟩ (fun hHeld => ?_); refine with_tabW spec_l03Add.tab6 spec_l03Add.bits6 (fun HT_ HW_ => ?_)
   generalize w36.drew = w42 at BK336 BK337 BK338 HB hHeld ⊢
   refine pu_ #[true, false, false, false, false, false, false, false, false, false, false, false, false, false, false, false, false, false] 0 29 (any_of HT_.out (by kernel_rfl)) ?_
   refine pu_ #[true, false, true, false, false, false, false, false, false, false, false, false, false, false, false, false, false, false] 2 31 (any_of HT_.out (by kernel_rfl)) ?_
   refine pu_ #[true, false, true, false, true, false, false, false, false, false, false, false, false, false, false, false, false, false] 4 33 (any_of HT_.out (by kernel_rfl)) ?_
   refine pu_ #[true, false, true, false, true, false, false, true, false, false, false, false, false, false, false, false, false, false] 7 36 (any_of HT_.out (by kernel_rfl)) ?_
   refine pu_ #[true, false, true, false, true, false, false, true, false, true, false, false, false, false, false, false, false, false] 9 38 (any_of HT_.out (by kernel_rfl)) ?_
   refine pu_ #[true, false, true, false, true, false, false, true, false, true, false, true, false, false, false, false, false, false] 11 40 (any_of HT_.out (by kernel_rfl)) ?_
   refine pu_ #[true, false, true, false, true, false, false, true, false, true, false, true, false, false, false, true, false, false] 15 44 (any_of HT_.out (by kernel_rfl)) ?_
   refine tk_ #[true, true, true, false, true, false, false, true, false, true, false, true, false, false, false, true, false, false] 1 30 (take_ofW HT_.out HW_.out (by kernel_rfl)) hHeld ?_
   refine tk_ #[true, true, true, true, true, false, false, true, false, true, false, true, false, false, false, true, false, false] 3 32 (take_ofW HT_.out HW_.out (by kernel_rfl)) hHeld ?_
   refine pu_ #[true, true, true, true, true, true, false, true, false, true, false, true, false, false, false, true, false, false] 5 34 (any_of HT_.out (by kernel_rfl)) ?_
   refine tk_ #[true, true, true, true, true, true, false, true, true, true, false, true, false, false, false, true, false, false] 8 37 (take_ofW HT_.out HW_.out (by kernel_rfl)) hHeld ?_
   refine tk_ #[true, true, true, true, true, true, false, true, true, true, true, true, false, false, false, true, false, false] 10 39 (take_ofW HT_.out HW_.out (by kernel_rfl)) hHeld ?_
   refine pu_ #[true, true, true, true, true, true, false, true, true, true, true, true, true, false, false, true, false, false] 12 41 (any_of HT_.out (by kernel_rfl)) ?_
   refine one_ (i := 6) (N := some 35) #[true, true, true, true, true, true, true, true, true, true, true, true, true, false, false, true, false, false] rfl rfl (one_of HT_.out (by kernel_rfl)) (by decide) (fun K hK => ?_)
   refine goes_ Tryd.func106 (by kernel_rfl) rfl #[.agg #[.int .i64 a0_0, .slice A0_1 l0_1.length c0_1], .int .i64 (wrap64 (a0_2 - (ji29)))] (by rfl) rfl rfl (by (try simp only [List.map_toArray, List.map_cons, List.map_nil]); first | done | (simp only [hji29]; rfl) | rfl | (simp only [List.length_drop, List.length_take]; rfl)) ?_
   with_reducible refine (spec_l02Left.calls k a0_0 _ _ l0_1 (wrap64 (a0_2 - (ji29))) t349 t350 _ ?side1 ?side2 A30.out).mono ?_
   (case side1 => exact cb_ HR0_1 HB)
   (case side2 => exact HC0_1.out)
   rintro e w43 ⟨v351, rfl, ho0, hb⟩
   refine ⟨_, rfl, ?_⟩
   have HO352 := am_ (Kd.R_lower ho0 (below_size (bl_ HB))); replace BK336 := am_ (blk_below (bk_ BK336) hb); replace BK337 := am_ (blk_below (bk_ BK337) hb); replace BK338 := am_ (blk_below (bk_ BK338) hb); replace HB := am_ (below_step (bl_ HB) hb); (try clear hb); (try clear hb2); (try clear hk); (try clear hi); (try clear ho0)
   refine hK.out _ _ ⟨bc_ BK336 0, bc_ BK336 1, bc_ BK336 2, bc_ BK337 0, bc_ BK337 1, bc_ BK337 2⟩ (fun hHeld => ?_)
   clear hK K
   refine nr_ ?_
   refine one_ (i := 13) (N := some 42) #[true, true, true, true, true, true, true, true, true, true, true, true, true, true, false, true, false, false] rfl rfl (one_of HT_.out (by kernel_rfl)) (by decide) (fun K hK => ?_)
   refine goes_ Tryd.func106 (by kernel_rfl) rfl #[.agg #[.int .i64 a1_0, .slice A1_1 l1_1.length c1_1], .int .i64 (wrap64 (a1_2 - (ji29)))] (by rfl) rfl rfl (by (try simp only [List.map_toArray, List.map_cons, List.map_nil]); first | done | (simp only [hji29]; rfl) | rfl | (simp only [List.length_drop, List.length_take]; rfl)) ?_
   with_reducible refine (spec_l02Left.calls k a1_0 _ _ l1_1 (wrap64 (a1_2 - (ji29))) t353 t354 _ ?side1 ?side2 A31.out).mono ?_
   (case side1 => exact cb_ HR1_1 HB)
   (case side2 => exact HC1_1.out)
   rintro e w44 ⟨v355, rfl, ho0, hb⟩
   refine ⟨_, rfl, ?_⟩
   have HO356 := am_ (Kd.R_lower (Kd.R_new' ho0 (Kd.R_lt (kr_ HO352))) (below_size (bl_ HB))); replace HO352 := am_ (Kd.R_elder' (kr_ HO352) (Kd.R_base ho0) hb); replace BK336 := am_ (blk_below (bk_ BK336) hb); replace BK337 := am_ (blk_below (bk_ BK337) hb); replace BK338 := am_ (blk_below (bk_ BK338) hb); replace HB := am_ (below_step (bl_ HB) hb); (try clear hb); (try clear hb2); (try clear hk); (try clear hi); (try clear ho0)
   obtain ⟨Ao45, co45, eo45⟩ := Kd.R_slice HO352.out
   (first | subst eo45 | (injection eo45 with f1_ f2_ f3_; have f4_ := f1_.symm; have f5_ := f3_.symm; clear f1_ f2_ f3_; subst f4_; subst f5_))
   obtain ⟨Ao46, co46, eo46⟩ := Kd.R_slice HO356.out
   (first | subst eo46 | (injection eo46 with f1_ f2_ f3_; have f4_ := f1_.symm; have f5_ := f3_.symm; clear f1_ f2_ f3_; subst f4_; subst f5_))
   refine hK.out _ _ ⟨bc_ BK336 0, bc_ BK336 1, bc_ BK336 2, bc_ BK337 0, bc_ BK337 1, bc_ BK337 2⟩ (fun hHeld => ?_)
   clear hK K
   refine nr_ ?_
   refine one_ (i := 14) (N := some 43) #[true, true, true, true, true, true, true, true, true, true, true, true, true, true, true, true, false, false] rfl rfl (one_of HT_.out (by kernel_rfl)) (by decide) (fun K hK => ?_)
   refine goes_ Tryd.func105 (by kernel_rfl) rfl #[.agg #[.int .i64 t349, .slice Ao45 t350.length co45], .agg #[.int .i64 t353, .slice Ao46 t354.length co46]] (by rfl) rfl rfl ma_ ?_
   with_reducible refine (spec_l02Add.calls k t349 _ _ t350 t353 _ _ t354 t357 t358 _ ?side1 ?side2 ?side3 ?side4 A32.out).mono ?_
   (case side1 => exact cr_ HO352)
   (case side2 => exact (Kd.R_reads' HO352.out).2.1)
   (case side3 => exact cr_ HO356)
   (case side4 => exact (Kd.R_reads' HO356.out).2.1)
   rintro e w47 ⟨v359, rfl, ho0, hb⟩
   refine ⟨_, rfl, ?_⟩
   have HO360 := am_ (Kd.R_lower (Kd.R_new' (Kd.R_new' ho0 (Kd.R_lt (kr_ HO352))) (Kd.R_lt (kr_ HO356))) (below_size (bl_ HB))); replace HO352 := am_ (Kd.R_elder' (kr_ HO352) (Kd.R_base ho0) hb); replace HO356 := am_ (Kd.R_elder' (kr_ HO356) (Kd.R_base ho0) hb); replace BK336 := am_ (blk_below (bk_ BK336) hb); replace BK337 := am_ (blk_below (bk_ BK337) hb); replace BK338 := am_ (blk_below (bk_ BK338) hb); replace HB := am_ (below_step (bl_ HB) hb); (try clear hb); (try clear hb2); (try clear hk); (try clear hi); (try clear ho0)
   obtain ⟨Ao48, co48, eo48⟩ := Kd.R_slice HO360.out
   (first | subst eo48 | (injection eo48 with f1_ f2_ f3_; have f4_ := f1_.symm; have f5_ := f3_.symm; clear f1_ f2_ f3_; subst f4_; subst f5_))
   refine hK.out _ _ ⟨bc_ BK336 0, bc_ BK336 1, bc_ BK336 2, bc_ BK337 0, bc_ BK337 1, bc_ BK337 2⟩ (fun hHeld => ?_)
   clear hK K
   refine nr_ ?_
   refine one_ (i := 16) (N := some 45) #[true, true, true, true, true, true, true, true, true, true, true, true, true, true, true, true, true, false] rfl rfl (one_of HT_.out (by kernel_rfl)) (by decide) (fun K hK => ?_)
   refine goes_ Tryd.func118 (by kernel_rfl) rfl #[.agg #[.int .i64 t357, .slice Ao48 t358.length co48], .int .i64 ji29] (by rfl) rfl rfl (by (try simp only [List.map_toArray, List.map_cons, List.map_nil]); first | done | (simp only [hji29]; rfl) | rfl | (simp only [List.length_drop, List.length_take]; rfl)) ?_
   with_reducible refine (spec_l03Make.calls k t357 _ _ t358 ji29 t361 t362 t365 _ ?side1 ?side2 A33.out).mono ?_
   (case side1 => exact cr_ HO360)
   (case side2 => exact (Kd.R_reads' HO360.out).2.1)
   rintro e w49 ⟨v363, rfl, ho0, hb⟩
   refine ⟨_, rfl, ?_⟩
   have HO364 := am_ (Kd.R_lower (Kd.R_new' (Kd.R_new' (Kd.R_new' ho0 (Kd.R_lt (kr_ HO352))) (Kd.R_lt (kr_ HO356))) (Kd.R_lt (kr_ HO360))) (below_size (bl_ HB))); replace HO352 := am_ (Kd.R_elder' (kr_ HO352) (Kd.R_base ho0) hb); replace HO356 := am_ (Kd.R_elder' (kr_ HO356) (Kd.R_base ho0) hb); replace HO360 := am_ (Kd.R_elder' (kr_ HO360) (Kd.R_base ho0) hb); replace BK336 := am_ (blk_below (bk_ BK336) hb); replace BK337 := am_ (blk_below (bk_ BK337) hb); replace BK338 := am_ (blk_below (bk_ BK338) hb); replace HB := am_ (below_step (bl_ HB) hb); (try clear hb); (try clear hb2); (try clear hk); (try clear hi); (try clear ho0)
   obtain ⟨Ao51, co51, eo51⟩ := Kd.R_slice HO364.out
   (first | subst eo51 | (injection eo51 with f1_ f2_ f3_; have f4_ := f1_.symm; have f5_ := f3_.symm; clear f1_ f2_ f3_; subst f4_; subst f5_))
   refine hK.out _ _ ⟨bc_ BK336 0, bc_ BK336 1, bc_ BK336 2, bc_ BK337 0, bc_ BK337 1, bc_ BK337 2⟩ (fun hHeld => ?_)
   clear hK K
   refine nr_ ?_
   refine one_ (i := 17) (N := none) #[true, true, true, true, true, true, true, true, true, true, true, true, true, true, true, true, true, true] rfl rfl (one_of HT_.out (by kernel_rfl)) (by decide) (fun K hK => ?_)
   have hs50 : w49.cell? ⟨gb338, 0, none⟩ = some (.int .i64 0) := bc_ BK338 0
   have hfs50 := blk_frozen BK338.out 0; have hns50_0 := NB336_338.out; have hns50_1 := NB337_338.out; have hms50_0 := NB338_336.out; have hms50_1 := NB338_337.out
   have hs52 : w49.cell? ⟨gb338, 1, none⟩ = some (.slice none 0 0) := bc_ BK338 1
   have hfs52 := blk_frozen BK338.out 1; have hns52_0 := NB336_338.out; have hns52_1 := NB337_338.out; have hms52_0 := NB338_336.out; have hms52_1 := NB338_337.out
   have hs53 : w49.cell? ⟨gb338, 2, none⟩ = some (.int .i64 0) := bc_ BK338 2
   have hfs53 := blk_frozen BK338.out 2; have hns53_0 := NB336_338.out; have hns53_1 := NB337_338.out; have hms53_0 := NB338_336.out; have hms53_1 := NB338_337.out
   refine skip_ (w1 := ?_) (by rfl) rfl ?_ ?_
   rotate_left
   ·go_simp
    rfl
   refine hK.out _ _ ⟨((cell_far (p := ⟨gb338, _, none⟩) NB336_338.out _).trans (((cell_far (p := ⟨gb338, _, none⟩) NB336_338.out _).trans (((cell_far (p := ⟨gb338, _, none⟩) NB336_338.out _).trans (hHeld.1)))))), ((cell_far (p := ⟨gb338, _, none⟩) NB336_338.out _).trans (((cell_far (p := ⟨gb338, _, none⟩) NB336_338.out _).trans (((cell_far (p := ⟨gb338, _, none⟩) NB336_338.out _).trans (hHeld.2.1)))))), ((cell_far (p := ⟨gb338, _, none⟩) NB336_338.out _).trans (((cell_far (p := ⟨gb338, _, none⟩) NB336_338.out _).trans (((cell_far (p := ⟨gb338, _, none⟩) NB336_338.out _).trans (hHeld.2.2.1)))))), ((cell_far (p := ⟨gb338, _, none⟩) NB337_338.out _).trans (((cell_far (p := ⟨gb338, _, none⟩) NB337_338.out _).trans (((cell_far (p := ⟨gb338, _, none⟩) NB337_338.out _).trans (hHeld.2.2.2.1)))))), ((cell_far (p := ⟨gb338, _, none⟩) NB337_338.out _).trans (((cell_far (p := ⟨gb338, _, none⟩) NB337_338.out _).trans (((cell_far (p := ⟨gb338, _, none⟩) NB337_338.out _).trans (hHeld.2.2.2.2.1)))))), ((cell_far (p := ⟨gb338, _, none⟩) NB337_338.out _).trans (((cell_far (p := ⟨gb338, _, none⟩) NB337_338.out _).trans (((cell_far (p := ⟨gb338, _, none⟩) NB337_338.out _).trans (hHeld.2.2.2.2.2))))))⟩ (fun hHeld => ?_)
   clear hK K
   refine done_ (done_of HT_.out (by kernel_rfl)) ?_
   try go_wp2
   refine bodyPost_ret (results_cell_row rfl _ _ gb338 45 #[.int .i64 t361, .slice Ao51 t362.length co51, .int .i64 t365] (0, 0) _ rfl (bp3_ BK338) Tryd.underlying45 rfl (by kernel_rfl)) rfl ?_
   exact ⟨_, by first | rfl | (simp [errW_none, errW_some] <;> rfl) | (simp only [← hji29]; first | rfl | (simp [errW_none, errW_some] <;> rfl)) | (simp [*, errW_none, errW_some] <;> rfl), ru_ HO364 BK338, bl_ HB⟩
def spec_l03Square.f (k : Nat) (a0_0 : Int) (l0_1 : List Int) (a0_2 : Int) (a0_3 : Int) (l0_4 : List Int) (a0_5 : Int) : Option (Int × List Int × Int) := (spec_l03Mul.f k a0_0 l0_1 a0_2 a0_0 l0_1 a0_2).bind fun bt368 => ((spec_l03Mul.f k a0_3 l0_4 a0_5 a0_3 l0_4 a0_5).bind fun bt373 => ((spec_l03Add.f k bt368.1 bt368.2.1 bt368.2.2 bt373.1 bt373.2.1 bt373.2.2).bind fun bt378 => (some (bt378.1, bt378.2.1, bt378.2.2))))
theorem spec_l03Square.mono : ∀ a0 a1 a2 a3 a4 a5 k, LeO (spec_l03Square.f k a0 a1 a2 a3 a4 a5) (spec_l03Square.f (k + 1) a0 a1 a2 a3 a4 a5) := by
  intro a0 a1 a2 a3 a4 a5 k
  unfold spec_l03Square.f
  repeat' first
      | (with_reducible exact spec_l03Add.mono _ _ _ _ _ _ _)
      | (with_reducible exact spec_l03Mul.mono _ _ _ _ _ _ _)
      | (with_reducible exact LeO.refl _)
      | (with_reducible exact LeO.none _)
      | (with_reducible refine LeO.ite ?_ ?_)
      | (with_reducible refine LeO.bind ?_ (fun _ => ?_))
      | exact spec_l03Add.mono _ _ _ _ _ _ _
      | exact spec_l03Mul.mono _ _ _ _ _ _ _
      | exact LeO.none _
      | refine LeO.ite ?_ ?_
      | refine LeO.bind ?_ (fun _ => ?_)
def spec_l03Square.T1 : Bool × List (List Nat × List Nat) := (true, [([], []), ([0], [0]), ([], []), ([2], [2]), ([1, 3], [1, 3]), ([], []), ([5], [5]), ([], []), ([7], [7]), ([6, 8, 4], [6, 8]), ([4, 9, 9], [4, 9]), ([10, 10, 0, 1, 2, 3, 4, 5, 6, 7, 8, 9, 10], [10])])
def spec_l03Square.B1 : List Nat := [0, 1, 0, 4, 15, 0, 32, 0, 128, 511, 1023, 2047]
theorem spec_l03Square.tab1 : rtab .any (opsOf Tryd.f73 1) = spec_l03Square.T1 := by kernel_rfl
theorem spec_l03Square.bits1 : waitsOk spec_l03Square.T1.2 spec_l03Square.B1 = true := by kernel_rfl
set_option maxHeartbeats 8000000 in
set_option maxRecDepth 100000 in
theorem spec_l03Square.calls (k : Nat) (a0_0 : Int) (A0_1 : Option Addr) (c0_1 : Nat) (l0_1 : List Int) (a0_2 : Int) (a0_3 : Int) (A0_4 : Option Addr) (c0_4 : Nat) (l0_4 : List Int) (a0_5 : Int) (r1 : Int) (r2 : List Int) (r3 : Int) (w : World) (hr0_1 : Kd.C (Kd.int .i64) w A0_1 l0_1.length l0_1) (hc0_1 : l0_1.length ≤ c0_1) (hr0_4 : Kd.C (Kd.int .i64) w A0_4 l0_4.length l0_4) (hc0_4 : l0_4.length ≤ c0_4) (h : spec_l03Square.f k a0_0 l0_1 a0_2 a0_3 l0_4 a0_5 = some (r1, r2, r3)) :
  Calls Tryd.prog 73 #[.agg #[.int .i64 a0_0, .slice A0_1 l0_1.length c0_1, .int .i64 a0_2, .int .i64 a0_3, .slice A0_4 l0_4.length c0_4, .int .i64 a0_5]] w fun e w' => ∃ v1_ : Value, e = .returned (.agg #[.int .i64 r1, v1_, .int .i64 r3]) ∧ Kd.R (Kd.int .i64) 2 w' w.heap.size (fun _ => True) v1_ r2 ∧ Below w.heap.size w w' := by
 have hu47 := Tryd.underlying47; have hu45 := Tryd.underlying45; have HR0_1 := Aside0.mk hr0_1; have HC0_1 := Aside0.mk hc0_1; clear hr0_1 hc0_1; have HR0_4 := Aside0.mk hr0_4; have HC0_4 := Aside0.mk hc0_4; clear hr0_4 hc0_4; have HB := am_ (Below.refl w.heap.size w)
 have H : ((spec_l03Mul.f k a0_0 l0_1 a0_2 a0_0 l0_1 a0_2).bind fun bt368 => ((spec_l03Mul.f k a0_3 l0_4 a0_5 a0_3 l0_4 a0_5).bind fun bt373 => ((spec_l03Add.f k bt368.1 bt368.2.1 bt368.2.2 bt373.1 bt373.2.1 bt373.2.2).bind fun bt378 => (some (bt378.1, bt378.2.1, bt378.2.2))))) = some (r1, r2, r3) := h
 clear h
 replace H := Option.bind_eq_some_iff.mp H
 obtain ⟨⟨t368, t369, t372⟩, A20, H⟩ := H
 replace H : ((spec_l03Mul.f k a0_3 l0_4 a0_5 a0_3 l0_4 a0_5).bind fun bt373 => ((spec_l03Add.f k t368 t369 t372 bt373.1 bt373.2.1 bt373.2.2).bind fun bt378 => (some (bt378.1, bt378.2.1, bt378.2.2)))) = some (r1, r2, r3) := H
 have A2 := Aside0.mk A20; clear A20
 replace H := Option.bind_eq_some_iff.mp H
 obtain ⟨⟨t373, t374, t377⟩, A30, H⟩ := H
 replace H : ((spec_l03Add.f k t368 t369 t372 t373 t374 t377).bind fun bt378 => (some (bt378.1, bt378.2.1, bt378.2.2))) = some (r1, r2, r3) := H
 have A3 := Aside0.mk A30; clear A30
 replace H := Option.bind_eq_some_iff.mp H
 obtain ⟨⟨t378, t379, t382⟩, A40, H⟩ := H
 replace H : (some (t378, t379, t382)) = some (r1, r2, r3) := H
 have A4 := Aside0.mk A40; clear A40
 simp only [Option.some.injEq, Prod.mk.injEq] at H
 obtain ⟨rfl, rfl, rfl⟩ := H
 go_enter Tryd.func73, Tryd.ntmps73
 try go_wp2_with (first | ((with_reducible refine gate_dst (N := 1) rfl ?_); refine bx_ 1 #[.int .i64 a0_0, .slice A0_1 l0_1.length c0_1, .int .i64 a0_2, .int .i64 a0_3, .slice A0_4 l0_4.length c0_4, .int .i64 a0_5] 47 ?_; intro gb366 hg w5 hbox hb; obtain ⟨BK366, GW366, GE366⟩ := nb_ hbox hg HB; replace HB := bs_ HB hb; clear hb hbox hg) | ((with_reducible refine gate_dst (N := 2) rfl ?_); refine bx_ 2 #[.int .i64 0, .slice none 0 0, .int .i64 0] 45 ?_; intro gb367 hg w6 hbox hb; obtain ⟨BK367, GW367, GE367⟩ := nb_ hbox hg HB; obtain ⟨NB366_367, NB367_366⟩ := nn_ hg BK366; replace BK366 := bb_ BK366 hb; replace HB := bs_ HB hb; clear hb hbox hg))
 replace BK366 := am_ (blk_drew BK366.out); replace BK367 := am_ (blk_drew BK367.out); replace HB := am_ (below_drew1 HB.out)
 refine start_ (n := 12) (S := fun w' => w'.cell? ⟨gb366, 0, none⟩ = some (.int .i64 a0_0) ∧ w'.cell? ⟨gb366, 1, none⟩ = some (.slice A0_1 l0_1.length c0_1) ∧ w'.cell? ⟨gb366, 2, none⟩ = some (.int .i64 a0_2) ∧ w'.cell? ⟨gb366, 3, none⟩ = some (.int .i64 a0_3) ∧ w'.cell? ⟨gb366, 4, none⟩ = some (.slice A0_4 l0_4.length c0_4) ∧ w'.cell? ⟨gb366, 5, none⟩ = some (.int .i64 a0_5)) (ds := []) #[false, false, false, false, false, false, false, false, false, false, false, false] (by kernel_rfl) rfl rfl ⟨bc_ BK366 0, bc_ BK366 1, bc_ BK366 2, bc_ BK366 3, bc_ BK366 4, bc_ BK366 5⟩ (fun hHeld => ?_); refine with_tabW spec_l03Square.tab1 spec_l03Square.bits1 (fun HT_ HW_ => ?_)
 generalize w6.drew = w7 at BK366 BK367 HB hHeld ⊢
 refine pu_ #[true, false, false, false, false, false, false, false, false, false, false, false] 0 3 (any_of HT_.out (by kernel_rfl)) ?_
 refine pu_ #[true, false, true, false, false, false, false, false, false, false, false, false] 2 5 (any_of HT_.out (by kernel_rfl)) ?_
 refine pu_ #[true, false, true, false, false, true, false, false, false, false, false, false] 5 8 (any_of HT_.out (by kernel_rfl)) ?_
 refine pu_ #[true, false, true, false, false, true, false, true, false, false, false, false] 7 10 (any_of HT_.out (by kernel_rfl)) ?_
 refine tk_ #[true, true, true, false, false, true, false, true, false, false, false, false] 1 4 (take_ofW HT_.out HW_.out (by kernel_rfl)) hHeld ?_
 refine tk_ #[true, true, true, true, false, true, false, true, false, false, false, false] 3 6 (take_ofW HT_.out HW_.out (by kernel_rfl)) hHeld ?_
 refine tk_ #[true, true, true, true, false, true, true, true, false, false, false, false] 6 9 (take_ofW HT_.out HW_.out (by kernel_rfl)) hHeld ?_
 refine tk_ #[true, true, true, true, false, true, true, true, true, false, false, false] 8 11 (take_ofW HT_.out HW_.out (by kernel_rfl)) hHeld ?_
 refine one_ (i := 4) (N := some 7) #[true, true, true, true, true, true, true, true, true, false, false, false] rfl rfl (one_of HT_.out (by kernel_rfl)) (by decide) (fun K hK => ?_)
 refine goes_ Tryd.func71 (by kernel_rfl) rfl #[.agg #[.int .i64 a0_0, .slice A0_1 l0_1.length c0_1, .int .i64 a0_2], .agg #[.int .i64 a0_0, .slice A0_1 l0_1.length c0_1, .int .i64 a0_2]] (by rfl) rfl rfl ma_ ?_
 with_reducible refine (spec_l03Mul.calls k a0_0 _ _ l0_1 a0_2 a0_0 _ _ l0_1 a0_2 t368 t369 t372 _ ?side1 ?side2 ?side3 ?side4 A2.out).mono ?_
 (case side1 => exact cb_ HR0_1 HB)
 (case side2 => exact HC0_1.out)
 (case side3 => exact cb_ HR0_1 HB)
 (case side4 => exact HC0_1.out)
 rintro e w8 ⟨v370, rfl, ho0, hb⟩
 refine ⟨_, rfl, ?_⟩
 have HO371 := am_ (Kd.R_lower ho0 (below_size (bl_ HB))); replace BK366 := am_ (blk_below (bk_ BK366) hb); replace BK367 := am_ (blk_below (bk_ BK367) hb); replace HB := am_ (below_step (bl_ HB) hb); (try clear hb); (try clear hb2); (try clear hk); (try clear hi); (try clear ho0)
 refine hK.out _ _ ⟨bc_ BK366 0, bc_ BK366 1, bc_ BK366 2, bc_ BK366 3, bc_ BK366 4, bc_ BK366 5⟩ (fun hHeld => ?_)
 clear hK K
 refine nr_ ?_
 refine one_ (i := 9) (N := some 12) #[true, true, true, true, true, true, true, true, true, true, false, false] rfl rfl (one_of HT_.out (by kernel_rfl)) (by decide) (fun K hK => ?_)
 refine goes_ Tryd.func71 (by kernel_rfl) rfl #[.agg #[.int .i64 a0_3, .slice A0_4 l0_4.length c0_4, .int .i64 a0_5], .agg #[.int .i64 a0_3, .slice A0_4 l0_4.length c0_4, .int .i64 a0_5]] (by rfl) rfl rfl ma_ ?_
 with_reducible refine (spec_l03Mul.calls k a0_3 _ _ l0_4 a0_5 a0_3 _ _ l0_4 a0_5 t373 t374 t377 _ ?side1 ?side2 ?side3 ?side4 A3.out).mono ?_
 (case side1 => exact cb_ HR0_4 HB)
 (case side2 => exact HC0_4.out)
 (case side3 => exact cb_ HR0_4 HB)
 (case side4 => exact HC0_4.out)
 rintro e w9 ⟨v375, rfl, ho0, hb⟩
 refine ⟨_, rfl, ?_⟩
 have HO376 := am_ (Kd.R_lower (Kd.R_new' ho0 (Kd.R_lt (kr_ HO371))) (below_size (bl_ HB))); replace HO371 := am_ (Kd.R_elder' (kr_ HO371) (Kd.R_base ho0) hb); replace BK366 := am_ (blk_below (bk_ BK366) hb); replace BK367 := am_ (blk_below (bk_ BK367) hb); replace HB := am_ (below_step (bl_ HB) hb); (try clear hb); (try clear hb2); (try clear hk); (try clear hi); (try clear ho0)
 obtain ⟨Ao10, co10, eo10⟩ := Kd.R_slice HO371.out
 (first | subst eo10 | (injection eo10 with f1_ f2_ f3_; have f4_ := f1_.symm; have f5_ := f3_.symm; clear f1_ f2_ f3_; subst f4_; subst f5_))
 obtain ⟨Ao11, co11, eo11⟩ := Kd.R_slice HO376.out
 (first | subst eo11 | (injection eo11 with f1_ f2_ f3_; have f4_ := f1_.symm; have f5_ := f3_.symm; clear f1_ f2_ f3_; subst f4_; subst f5_))
 refine hK.out _ _ ⟨bc_ BK366 0, bc_ BK366 1, bc_ BK366 2, bc_ BK366 3, bc_ BK366 4, bc_ BK366 5⟩ (fun hHeld => ?_)
 clear hK K
 refine nr_ ?_
 refine one_ (i := 10) (N := some 13) #[true, true, true, true, true, true, true, true, true, true, true, false] rfl rfl (one_of HT_.out (by kernel_rfl)) (by decide) (fun K hK => ?_)
 refine goes_ Tryd.func115 (by kernel_rfl) rfl #[.agg #[.int .i64 t368, .slice Ao10 t369.length co10, .int .i64 t372], .agg #[.int .i64 t373, .slice Ao11 t374.length co11, .int .i64 t377]] (by rfl) rfl rfl ma_ ?_
 with_reducible refine (spec_l03Add.calls k t368 _ _ t369 t372 t373 _ _ t374 t377 t378 t379 t382 _ ?side1 ?side2 ?side3 ?side4 A4.out).mono ?_
 (case side1 => exact cr_ HO371)
 (case side2 => exact (Kd.R_reads' HO371.out).2.1)
 (case side3 => exact cr_ HO376)
 (case side4 => exact (Kd.R_reads' HO376.out).2.1)
 rintro e w12 ⟨v380, rfl, ho0, hb⟩
 refine ⟨_, rfl, ?_⟩
 have HO381 := am_ (Kd.R_lower (Kd.R_new' (Kd.R_new' ho0 (Kd.R_lt (kr_ HO371))) (Kd.R_lt (kr_ HO376))) (below_size (bl_ HB))); replace HO371 := am_ (Kd.R_elder' (kr_ HO371) (Kd.R_base ho0) hb); replace HO376 := am_ (Kd.R_elder' (kr_ HO376) (Kd.R_base ho0) hb); replace BK366 := am_ (blk_below (bk_ BK366) hb); replace BK367 := am_ (blk_below (bk_ BK367) hb); replace HB := am_ (below_step (bl_ HB) hb); (try clear hb); (try clear hb2); (try clear hk); (try clear hi); (try clear ho0)
 obtain ⟨Ao14, co14, eo14⟩ := Kd.R_slice HO381.out
 (first | subst eo14 | (injection eo14 with f1_ f2_ f3_; have f4_ := f1_.symm; have f5_ := f3_.symm; clear f1_ f2_ f3_; subst f4_; subst f5_))
 refine hK.out _ _ ⟨bc_ BK366 0, bc_ BK366 1, bc_ BK366 2, bc_ BK366 3, bc_ BK366 4, bc_ BK366 5⟩ (fun hHeld => ?_)
 clear hK K
 refine nr_ ?_
 refine one_ (i := 11) (N := none) #[true, true, true, true, true, true, true, true, true, true, true, true] rfl rfl (one_of HT_.out (by kernel_rfl)) (by decide) (fun K hK => ?_)
 have hs13 : w12.cell? ⟨gb367, 0, none⟩ = some (.int .i64 0) := bc_ BK367 0
 have hfs13 := blk_frozen BK367.out 0; have hns13_0 := NB366_367.out; have hms13_0 := NB367_366.out
 have hs15 : w12.cell? ⟨gb367, 1, none⟩ = some (.slice none 0 0) := bc_ BK367 1
 have hfs15 := blk_frozen BK367.out 1; have hns15_0 := NB366_367.out; have hms15_0 := NB367_366.out
 have hs16 : w12.cell? ⟨gb367, 2, none⟩ = some (.int .i64 0) := bc_ BK367 2
 have hfs16 := blk_frozen BK367.out 2; have hns16_0 := NB366_367.out; have hms16_0 := NB367_366.out
 refine skip_ (w1 := ?_) (by rfl) rfl ?_ ?_
 rotate_left
 ·go_simp
  rfl
 refine hK.out _ _ ⟨((cell_far (p := ⟨gb367, _, none⟩) NB366_367.out _).trans (((cell_far (p := ⟨gb367, _, none⟩) NB366_367.out _).trans (((cell_far (p := ⟨gb367, _, none⟩) NB366_367.out _).trans (hHeld.1)))))), ((cell_far (p := ⟨gb367, _, none⟩) NB366_367.out _).trans (((cell_far (p := ⟨gb367, _, none⟩) NB366_367.out _).trans (((cell_far (p := ⟨gb367, _, none⟩) NB366_367.out _).trans (hHeld.2.1)))))), ((cell_far (p := ⟨gb367, _, none⟩) NB366_367.out _).trans (((cell_far (p := ⟨gb367, _, none⟩) NB366_367.out _).trans (((cell_far (p := ⟨gb367, _, none⟩) NB366_367.out _).trans (hHeld.2.2.1)))))), ((cell_far (p := ⟨gb367, _, none⟩) NB366_367.out _).trans (((cell_far (p := ⟨gb367, _, none⟩) NB366_367.out _).trans (((cell_far (p := ⟨gb367, _, none⟩) NB366_367.out _).trans (hHeld.2.2.2.1)))))), ((cell_far (p := ⟨gb367, _, none⟩) NB366_367.out _).trans (((cell_far (p := ⟨gb367, _, none⟩) NB366_367.out _).trans (((cell_far (p := ⟨gb367, _, none⟩) NB366_367.out _).trans (hHeld.2.2.2.2.1)))))), ((cell_far (p := ⟨gb367, _, none⟩) NB366_367.out _).trans (((cell_far (p := ⟨gb367, _, none⟩) NB366_367.out _).trans (((cell_far (p := ⟨gb367, _, none⟩) NB366_367.out _).trans (hHeld.2.2.2.2.2))))))⟩ (fun hHeld => ?_)
 clear hK K
 refine done_ (done_of HT_.out (by kernel_rfl)) ?_
 try go_wp2
 refine bodyPost_ret (results_cell_row rfl _ _ gb367 45 #[.int .i64 t378, .slice Ao14 t379.length co14, .int .i64 t382] (0, 0) _ rfl (bp3_ BK367) Tryd.underlying45 rfl (by kernel_rfl)) rfl ?_
 exact ⟨_, by first | rfl | (simp [errW_none, errW_some] <;> rfl) | (simp [*, errW_none, errW_some] <;> rfl), ru_ HO381 BK367, bl_ HB⟩
def spec_SquareOfExact.j0 : Nat → Bool → Int → List Int → Int → Int → List Int → Int → Option (Int × List Int × Int × Int)
  | 0, _, _, _, _, _, _, _ => none
  | k + 1, x25, x384000, x384001, x384002, x384003, x384004, x384005 => if x25 = true then (some (0, ([] : List Int), 0, 3)) else ((spec_l03Square.f k x384000 x384001 x384002 x384003 x384004 x384005).bind fun bt398 => ((spec_l03Fit.f k bt398.1 bt398.2.1 bt398.2.2).bind fun bt403 => (some (bt403.1, bt403.2.1, bt403.2.2.1, bt403.2.2.2))))
def spec_SquareOfExact.f (k : Nat) (a0_0 : Int) (l0_1 : List Int) (a0_2 : Int) (a0_3 : Int) (l0_4 : List Int) (a0_5 : Int) : Option (Int × List Int × Int × Int) := (spec_l03Pair.f k a0_0 l0_1 a0_2 a0_3 l0_4 a0_5).bind fun t385 => (if t385 = true then ((spec_l03Mul.f k a0_0 l0_1 a0_2 a0_0 l0_1 a0_2).bind fun bt386 => ((spec_l03Is.f k bt386.1 bt386.2.1 bt386.2.2).bind fun t391 => (if t391 = true then ((spec_l03Mul.f k a0_3 l0_4 a0_5 a0_3 l0_4 a0_5).bind fun bt392 => ((spec_l03Is.f k bt392.1 bt392.2.1 bt392.2.2).bind fun t397 => (spec_SquareOfExact.j0 k (!t397) a0_0 l0_1 a0_2 a0_3 l0_4 a0_5))) else (spec_SquareOfExact.j0 k true a0_0 l0_1 a0_2 a0_3 l0_4 a0_5)))) else (some (0, ([] : List Int), 0, 1)))
theorem spec_SquareOfExact.mono_l : ∀ k, (∀ y0 y1 y2 y3 y4 y5 y6, LeO (spec_SquareOfExact.j0 k y0 y1 y2 y3 y4 y5 y6) (spec_SquareOfExact.j0 (k + 1) y0 y1 y2 y3 y4 y5 y6))
  | 0 => fun _ _ _ _ _ _ _ r h => by simp [spec_SquareOfExact.j0] at h
  | k + 1 => by
    have ih0 := spec_SquareOfExact.mono_l k
    · intro y0 y1 y2 y3 y4 y5 y6
      unfold spec_SquareOfExact.j0
      repeat' first
      | (with_reducible exact ih0 _ _ _ _ _ _ _)
      | (with_reducible exact spec_l03Fit.mono _ _ _ _)
      | (with_reducible exact spec_l03Is.mono _ _ _ _)
      | (with_reducible exact spec_l03Mul.mono _ _ _ _ _ _ _)
      | (with_reducible exact spec_l03Pair.mono _ _ _ _ _ _ _)
      | (with_reducible exact spec_l03Square.mono _ _ _ _ _ _ _)
      | (with_reducible exact LeO.refl _)
      | (with_reducible exact LeO.none _)
      | (with_reducible refine LeO.ite ?_ ?_)
      | (with_reducible refine LeO.bind ?_ (fun _ => ?_))
      | exact ih0 _ _ _ _ _ _ _
      | exact spec_l03Fit.mono _ _ _ _
      | exact spec_l03Is.mono _ _ _ _
      | exact spec_l03Mul.mono _ _ _ _ _ _ _
      | exact spec_l03Pair.mono _ _ _ _ _ _ _
      | exact spec_l03Square.mono _ _ _ _ _ _ _
      | exact LeO.none _
      | refine LeO.ite ?_ ?_
      | refine LeO.bind ?_ (fun _ => ?_)
theorem spec_SquareOfExact.mono : ∀ a0 a1 a2 a3 a4 a5 k, LeO (spec_SquareOfExact.f k a0 a1 a2 a3 a4 a5) (spec_SquareOfExact.f (k + 1) a0 a1 a2 a3 a4 a5) := by
  intro a0 a1 a2 a3 a4 a5 k
  have ih0 := spec_SquareOfExact.mono_l k
  unfold spec_SquareOfExact.f
  repeat' first
      | (with_reducible exact ih0 _ _ _ _ _ _ _)
      | (with_reducible exact spec_l03Fit.mono _ _ _ _)
      | (with_reducible exact spec_l03Is.mono _ _ _ _)
      | (with_reducible exact spec_l03Mul.mono _ _ _ _ _ _ _)
      | (with_reducible exact spec_l03Pair.mono _ _ _ _ _ _ _)
      | (with_reducible exact spec_l03Square.mono _ _ _ _ _ _ _)
      | (with_reducible exact LeO.refl _)
      | (with_reducible exact LeO.none _)
      | (with_reducible refine LeO.ite ?_ ?_)
      | (with_reducible refine LeO.bind ?_ (fun _ => ?_))
      | exact ih0 _ _ _ _ _ _ _
      | exact spec_l03Fit.mono _ _ _ _
      | exact spec_l03Is.mono _ _ _ _
      | exact spec_l03Mul.mono _ _ _ _ _ _ _
      | exact spec_l03Pair.mono _ _ _ _ _ _ _
      | exact spec_l03Square.mono _ _ _ _ _ _ _
      | exact LeO.none _
      | refine LeO.ite ?_ ?_
      | refine LeO.bind ?_ (fun _ => ?_)
set_option maxHeartbeats 8000000 in
set_option maxRecDepth 100000 in
theorem spec_SquareOfExact.calls (k : Nat) (a0_0 : Int) (A0_1 : Option Addr) (c0_1 : Nat) (l0_1 : List Int) (a0_2 : Int) (a0_3 : Int) (A0_4 : Option Addr) (c0_4 : Nat) (l0_4 : List Int) (a0_5 : Int) (r1 : Int) (r2 : List Int) (r3 : Int) (r4 : Int) (w : World) (hr0_1 : Kd.C (Kd.int .i64) w A0_1 l0_1.length l0_1) (hc0_1 : l0_1.length ≤ c0_1) (hr0_4 : Kd.C (Kd.int .i64) w A0_4 l0_4.length l0_4) (hc0_4 : l0_4.length ≤ c0_4) (h : spec_SquareOfExact.f k a0_0 l0_1 a0_2 a0_3 l0_4 a0_5 = some (r1, r2, r3, r4)) :
  Calls Tryd.prog 31 #[.agg #[.int .i64 a0_0, .slice A0_1 l0_1.length c0_1, .int .i64 a0_2, .int .i64 a0_3, .slice A0_4 l0_4.length c0_4, .int .i64 a0_5]] w fun e w' => ∃ v1_ : Value, e = .returned (.tuple #[.agg #[.int .i64 r1, v1_, .int .i64 r3], .int .i64 r4]) ∧ Kd.R (Kd.int .i64) 2 w' w.heap.size (fun _ => True) v1_ r2 ∧ Below w.heap.size w w' := by
 have hu47 := Tryd.underlying47; have hu45 := Tryd.underlying45; have HR0_1 := Aside0.mk hr0_1; have HC0_1 := Aside0.mk hc0_1; clear hr0_1 hc0_1; have HR0_4 := Aside0.mk hr0_4; have HC0_4 := Aside0.mk hc0_4; clear hr0_4 hc0_4; have HB := am_ (Below.refl w.heap.size w)
 have H : ((spec_l03Pair.f k a0_0 l0_1 a0_2 a0_3 l0_4 a0_5).bind fun t385 => (if t385 = true then ((spec_l03Mul.f k a0_0 l0_1 a0_2 a0_0 l0_1 a0_2).bind fun bt386 => ((spec_l03Is.f k bt386.1 bt386.2.1 bt386.2.2).bind fun t391 => (if t391 = true then ((spec_l03Mul.f k a0_3 l0_4 a0_5 a0_3 l0_4 a0_5).bind fun bt392 => ((spec_l03Is.f k bt392.1 bt392.2.1 bt392.2.2).bind fun t397 => (spec_SquareOfExact.j0 k (!t397) a0_0 l0_1 a0_2 a0_3 l0_4 a0_5))) else (spec_SquareOfExact.j0 k true a0_0 l0_1 a0_2 a0_3 l0_4 a0_5)))) else (some (0, ([] : List Int), 0, 1)))) = some (r1, r2, r3, r4) := h
 clear h
 replace H := Option.bind_eq_some_iff.mp H
 obtain ⟨t385, A20, H⟩ := H
 replace H : (if t385 = true then ((spec_l03Mul.f k a0_0 l0_1 a0_2 a0_0 l0_1 a0_2).bind fun bt386 => ((spec_l03Is.f k bt386.1 bt386.2.1 bt386.2.2).bind fun t391 => (if t391 = true then ((spec_l03Mul.f k a0_3 l0_4 a0_5 a0_3 l0_4 a0_5).bind fun bt392 => ((spec_l03Is.f k bt392.1 bt392.2.1 bt392.2.2).bind fun t397 => (spec_SquareOfExact.j0 k (!t397) a0_0 l0_1 a0_2 a0_3 l0_4 a0_5))) else (spec_SquareOfExact.j0 k true a0_0 l0_1 a0_2 a0_3 l0_4 a0_5)))) else (some (0, ([] : List Int), 0, 1))) = some (r1, r2, r3, r4) := H
 have A2 := Aside0.mk A20; clear A20
 by_cases c3 : t385 = true
 ·subst c3
  have H1 : ((spec_l03Mul.f k a0_0 l0_1 a0_2 a0_0 l0_1 a0_2).bind fun bt386 => ((spec_l03Is.f k bt386.1 bt386.2.1 bt386.2.2).bind fun t391 => (if t391 = true then ((spec_l03Mul.f k a0_3 l0_4 a0_5 a0_3 l0_4 a0_5).bind fun bt392 => ((spec_l03Is.f k bt392.1 bt392.2.1 bt392.2.2).bind fun t397 => (spec_SquareOfExact.j0 k (!t397) a0_0 l0_1 a0_2 a0_3 l0_4 a0_5))) else (spec_SquareOfExact.j0 k true a0_0 l0_1 a0_2 a0_3 l0_4 a0_5)))) = some (r1, r2, r3, r4) := by rw [if_pos rfl] at H; exact H
  clear H; have H := H1; clear H1; have HC4 := Aside0.mk H; clear H
  go_enter Tryd.func31, Tryd.ntmps31
  go_upto_region 3 with (first | ((with_reducible refine gate_dst (N := 1) rfl ?_); refine bx_ 1 #[.int .i64 a0_0, .slice A0_1 l0_1.length c0_1, .int .i64 a0_2, .int .i64 a0_3, .slice A0_4 l0_4.length c0_4, .int .i64 a0_5] 47 ?_; intro gb383 hg w5 hbox hb; obtain ⟨BK383, GW383, GE383⟩ := nb_ hbox hg HB; replace HB := bs_ HB hb; clear hb hbox hg) | ((with_reducible refine gate_dst (N := 2) rfl ?_); refine bx_ 2 #[.int .i64 0, .slice none 0 0, .int .i64 0] 45 ?_; intro gb384 hg w6 hbox hb; obtain ⟨BK384, GW384, GE384⟩ := nb_ hbox hg HB; obtain ⟨NB383_384, NB384_383⟩ := nn_ hg BK383; replace BK383 := bb_ BK383 hb; replace HB := bs_ HB hb; clear hb hbox hg; have hnb7 := NB383_384.out; have hnc7 := NB384_383.out; obtain ⟨hcz8_0, hcz8_1, hcz8_2, hcz8_3, hcz8_4, hcz8_5, hfz8_0, hfz8_1, hfz8_2, hfz8_3, hfz8_4, hfz8_5⟩ := ck6_ BK383) | ((with_reducible refine gate_callee (f := 63) rfl ?_); refine goesL_ (some 7) rfl rfl Tryd.func63 (by kernel_rfl) rfl #[.agg #[.int .i64 a0_0, .slice A0_1 l0_1.length c0_1, .int .i64 a0_2, .int .i64 a0_3, .slice A0_4 l0_4.length c0_4, .int .i64 a0_5]] rfl ma_ ?_; (with_reducible refine (spec_l03Pair.calls k a0_0 _ _ l0_1 a0_2 a0_3 _ _ l0_4 a0_5 true _ ?side1 ?side2 ?side3 ?side4 A2.out).mono ?_); (case side1 => exact cb_ HR0_1 HB); (case side2 => exact HC0_1.out); (case side3 => exact cb_ HR0_4 HB); (case side4 => exact HC0_4.out); rintro e w9 ⟨rfl, hb⟩; refine ⟨_, rfl, ?_⟩; replace BK383 := bb_ BK383 hb; replace BK384 := bb_ BK384 hb; replace HB := bs_ HB hb; (try clear hb); (try clear hb2); (try clear hk); (try clear hi)))
  (try simp only [Act.put, List.setIfInBounds_toArray, List.set_cons_zero, List.set_cons_succ])
  go_cut [25] (fun v25 wc => ∃ (kq : Nat) (x25_3 : Bool), v25 = .bool x25_3 ∧ Aside0 (spec_SquareOfExact.j0 kq x25_3 a0_0 l0_1 a0_2 a0_3 l0_4 a0_5 = some (r1, r2, r3, r4)) ∧ Aside0 (kq ≤ k) ∧ Aside0 (wc.heap[gb383]? = some (.cells #[.int .i64 a0_0, (.slice A0_1 l0_1.length c0_1), .int .i64 a0_2, .int .i64 a0_3, (.slice A0_4 l0_4.length c0_4), .int .i64 a0_5] 47 (0, 0))) ∧ Aside0 (wc.heap[gb384]? = some (.cells #[.int .i64 0, (.slice none 0 0), .int .i64 0] 45 (0, 0))) ∧ Aside0 (Below w.heap.size w wc))
  case first =>
   have H := HC4.out; clear HC4
   replace H := Option.bind_eq_some_iff.mp H
   obtain ⟨⟨t386, t387, t390⟩, A100, H⟩ := H
   replace H : ((spec_l03Is.f k t386 t387 t390).bind fun t391 => (if t391 = true then ((spec_l03Mul.f k a0_3 l0_4 a0_5 a0_3 l0_4 a0_5).bind fun bt392 => ((spec_l03Is.f k bt392.1 bt392.2.1 bt392.2.2).bind fun t397 => (spec_SquareOfExact.j0 k (!t397) a0_0 l0_1 a0_2 a0_3 l0_4 a0_5))) else (spec_SquareOfExact.j0 k true a0_0 l0_1 a0_2 a0_3 l0_4 a0_5))) = some (r1, r2, r3, r4) := H
   have A10 := Aside0.mk A100; clear A100
   replace H := Option.bind_eq_some_iff.mp H
   obtain ⟨t391, A110, H⟩ := H
   replace H : (if t391 = true then ((spec_l03Mul.f k a0_3 l0_4 a0_5 a0_3 l0_4 a0_5).bind fun bt392 => ((spec_l03Is.f k bt392.1 bt392.2.1 bt392.2.2).bind fun t397 => (spec_SquareOfExact.j0 k (!t397) a0_0 l0_1 a0_2 a0_3 l0_4 a0_5))) else (spec_SquareOfExact.j0 k true a0_0 l0_1 a0_2 a0_3 l0_4 a0_5)) = some (r1, r2, r3, r4) := H
   have A11 := Aside0.mk A110; clear A110
   by_cases c12 : t391 = true
   ·subst c12
    have H1 : ((spec_l03Mul.f k a0_3 l0_4 a0_5 a0_3 l0_4 a0_5).bind fun bt392 => ((spec_l03Is.f k bt392.1 bt392.2.1 bt392.2.2).bind fun t397 => (spec_SquareOfExact.j0 k (!t397) a0_0 l0_1 a0_2 a0_3 l0_4 a0_5))) = some (r1, r2, r3, r4) := by rw [if_pos rfl] at H; exact H
    clear H; have H := H1; clear H1
    replace H := Option.bind_eq_some_iff.mp H
    obtain ⟨⟨t392, t393, t396⟩, A130, H⟩ := H
    replace H : ((spec_l03Is.f k t392 t393 t396).bind fun t397 => (spec_SquareOfExact.j0 k (!t397) a0_0 l0_1 a0_2 a0_3 l0_4 a0_5)) = some (r1, r2, r3, r4) := H
    have A13 := Aside0.mk A130; clear A130
    replace H := Option.bind_eq_some_iff.mp H
    obtain ⟨t397, A140, H⟩ := H
    replace H : (spec_SquareOfExact.j0 k (!t397) a0_0 l0_1 a0_2 a0_3 l0_4 a0_5) = some (r1, r2, r3, r4) := H
    have A14 := Aside0.mk A140; clear A140
    have H' := Aside0.mk H
    clear H; have hnb15 := NB383_384.out; have hnc15 := NB384_383.out
    obtain ⟨hcz16_0, hcz16_1, hcz16_2, hcz16_3, hcz16_4, hcz16_5, hfz16_0, hfz16_1, hfz16_2, hfz16_3, hfz16_4, hfz16_5⟩ := ck6_ BK383
    go_wp2_with (first | ((with_reducible refine gate_callee (f := 71) rfl ?_); refine goesL_ (some 14) rfl rfl Tryd.func71 (by kernel_rfl) rfl #[.agg #[.int .i64 a0_0, .slice A0_1 l0_1.length c0_1, .int .i64 a0_2], .agg #[.int .i64 a0_0, .slice A0_1 l0_1.length c0_1, .int .i64 a0_2]] rfl ma_ ?_; (with_reducible refine (spec_l03Mul.calls k a0_0 _ _ l0_1 a0_2 a0_0 _ _ l0_1 a0_2 t386 t387 t390 _ ?side1 ?side2 ?side3 ?side4 A10.out).mono ?_); (case side1 => exact cb_ HR0_1 HB); (case side2 => exact HC0_1.out); (case side3 => exact cb_ HR0_1 HB); (case side4 => exact HC0_1.out); rintro e w17 ⟨v388, rfl, ho0, hb⟩; refine ⟨_, rfl, ?_⟩; have HO389 := am_ (Kd.R_lower ho0 (below_size (bl_ HB))); replace BK383 := bb_ BK383 hb; replace BK384 := bb_ BK384 hb; replace HB := bs_ HB hb; (try clear hb); (try clear hb2); (try clear hk); (try clear hi); (try clear ho0); obtain ⟨Ao18, co18, eo18⟩ := Kd.R_slice HO389.out; subst eo18) | ((with_reducible refine gate_callee (f := 70) rfl ?_); refine goesL_ (some 15) rfl rfl Tryd.func70 (by kernel_rfl) rfl #[.agg #[.int .i64 t386, .slice Ao18 t387.length co18, .int .i64 t390]] rfl ma_ ?_; (with_reducible refine (spec_l03Is.calls k t386 _ _ t387 t390 true _ ?side1 ?side2 A11.out).mono ?_); (case side1 => exact cr_ HO389); (case side2 => exact (Kd.R_reads' HO389.out).2.1); rintro e w19 ⟨rfl, hb⟩; refine ⟨_, rfl, ?_⟩; replace HO389 := am_ (Kd.R_below (kr_ HO389) hb); replace BK383 := bb_ BK383 hb; replace BK384 := bb_ BK384 hb; replace HB := bs_ HB hb; (try clear hb); (try clear hb2); (try clear hk); (try clear hi); obtain ⟨hcz20_0, hcz20_1, hcz20_2, hcz20_3, hcz20_4, hcz20_5, hfz20_0, hfz20_1, hfz20_2, hfz20_3, hfz20_4, hfz20_5⟩ := ck6_ BK383) | (go_at_call 71; (with_reducible refine (spec_l03Mul.calls k a0_3 _ _ l0_4 a0_5 a0_3 _ _ l0_4 a0_5 t392 t393 t396 _ ?side1 ?side2 ?side3 ?side4 A13.out).mono ?_); (case side1 => exact cb_ HR0_4 HB); (case side2 => exact HC0_4.out); (case side3 => exact cb_ HR0_4 HB); (case side4 => exact HC0_4.out); rintro e w21 ⟨v394, rfl, ho0, hb⟩; have HO395 := am_ (Kd.R_lower (Kd.R_new' ho0 (Kd.R_lt (kr_ HO389))) (below_size (bl_ HB))); replace HO389 := am_ (Kd.R_elder' (kr_ HO389) (Kd.R_base ho0) hb); replace BK383 := bb_ BK383 hb; replace BK384 := bb_ BK384 hb; replace HB := bs_ HB hb; (try clear hb); (try clear hb2); (try clear hk); (try clear hi); (try clear ho0); obtain ⟨Ao22, co22, eo22⟩ := Kd.R_slice HO395.out; subst eo22) | (go_at_call 70; (with_reducible refine (spec_l03Is.calls k t392 _ _ t393 t396 t397 _ ?side1 ?side2 A14.out).mono ?_); (case side1 => exact cr_ HO395); (case side2 => exact (Kd.R_reads' HO395.out).2.1); rintro e w23 ⟨rfl, hb⟩; replace HO389 := am_ (Kd.R_below (kr_ HO389) hb); replace HO395 := am_ (Kd.R_below (kr_ HO395) hb); replace BK383 := bb_ BK383 hb; replace BK384 := bb_ BK384 hb; replace HB := bs_ HB hb; (try clear hb); (try clear hb2); (try clear hk); (try clear hi)))
    go_meet
    case rel => exact ⟨_, (!t397), (by first | rfl | (simp; done) | (simp [*]; done)), H', ⟨by first | omega | exact Nat.le_refl _⟩, ⟨bk_ BK383⟩, ⟨bk_ BK384⟩, ⟨bl_ HB⟩⟩
   ·replace c12 := Bool.eq_false_iff.mpr c12
    subst c12
    have H1 : (spec_SquareOfExact.j0 k true a0_0 l0_1 a0_2 a0_3 l0_4 a0_5) = some (r1, r2, r3, r4) := by rw [if_neg (show ¬ (false = true) by decide)] at H; exact H
    clear H; have H := H1; clear H1
    have H' := Aside0.mk H
    clear H; have hnb24 := NB383_384.out; have hnc24 := NB384_383.out
    obtain ⟨hcz25_0, hcz25_1, hcz25_2, hcz25_3, hcz25_4, hcz25_5, hfz25_0, hfz25_1, hfz25_2, hfz25_3, hfz25_4, hfz25_5⟩ := ck6_ BK383
    go_wp2_with (first | ((with_reducible refine gate_callee (f := 71) rfl ?_); refine goesL_ (some 14) rfl rfl Tryd.func71 (by kernel_rfl) rfl #[.agg #[.int .i64 a0_0, .slice A0_1 l0_1.length c0_1, .int .i64 a0_2], .agg #[.int .i64 a0_0, .slice A0_1 l0_1.length c0_1, .int .i64 a0_2]] rfl ma_ ?_; (with_reducible refine (spec_l03Mul.calls k a0_0 _ _ l0_1 a0_2 a0_0 _ _ l0_1 a0_2 t386 t387 t390 _ ?side1 ?side2 ?side3 ?side4 A10.out).mono ?_); (case side1 => exact cb_ HR0_1 HB); (case side2 => exact HC0_1.out); (case side3 => exact cb_ HR0_1 HB); (case side4 => exact HC0_1.out); rintro e w26 ⟨v388, rfl, ho0, hb⟩; refine ⟨_, rfl, ?_⟩; have HO389 := am_ (Kd.R_lower ho0 (below_size (bl_ HB))); replace BK383 := bb_ BK383 hb; replace BK384 := bb_ BK384 hb; replace HB := bs_ HB hb; (try clear hb); (try clear hb2); (try clear hk); (try clear hi); (try clear ho0); obtain ⟨Ao27, co27, eo27⟩ := Kd.R_slice HO389.out; subst eo27) | ((with_reducible refine gate_callee (f := 70) rfl ?_); refine goesL_ (some 15) rfl rfl Tryd.func70 (by kernel_rfl) rfl #[.agg #[.int .i64 t386, .slice Ao27 t387.length co27, .int .i64 t390]] rfl ma_ ?_; (with_reducible refine (spec_l03Is.calls k t386 _ _ t387 t390 false _ ?side1 ?side2 A11.out).mono ?_); (case side1 => exact cr_ HO389); (case side2 => exact (Kd.R_reads' HO389.out).2.1); rintro e w28 ⟨rfl, hb⟩; refine ⟨_, rfl, ?_⟩; replace HO389 := am_ (Kd.R_below (kr_ HO389) hb); replace BK383 := bb_ BK383 hb; replace BK384 := bb_ BK384 hb; replace HB := bs_ HB hb; (try clear hb); (try clear hb2); (try clear hk); (try clear hi)))
    go_meet
    case rel => exact ⟨_, (true), (by first | rfl | (simp; done) | (simp [*]; done)), H', ⟨by first | omega | exact Nat.le_refl _⟩, ⟨bk_ BK383⟩, ⟨bk_ BK384⟩, ⟨bl_ HB⟩⟩
  case rest =>
   clear HC4; try clear c1; try clear c2; try clear p2; try clear c3; try clear c6; try clear c7; try clear c12; try clear c15; try clear c24; try clear hcz16_0; try clear hcz16_1; try clear hcz16_2; try clear hcz16_3; try clear hcz16_4; try clear hcz16_5; try clear hcz20_0; try clear hcz20_1; try clear hcz20_2; try clear hcz20_3; try clear hcz20_4; try clear hcz20_5; try clear hcz25_0; try clear hcz25_1; try clear hcz25_2; try clear hcz25_3; try clear hcz25_4; try clear hcz25_5; try clear hcz8_0; try clear hcz8_1; try clear hcz8_2; try clear hcz8_3; try clear hcz8_4; try clear hcz8_5; try clear hfz16_0; try clear hfz16_1; try clear hfz16_2; try clear hfz16_3; try clear hfz16_4; try clear hfz16_5; try clear hfz20_0; try clear hfz20_1; try clear hfz20_2; try clear hfz20_3; try clear hfz20_4; try clear hfz20_5; try clear hfz25_0; try clear hfz25_1; try clear hfz25_2; try clear hfz25_3; try clear hfz25_4; try clear hfz25_5; try clear hfz8_0; try clear hfz8_1; try clear hfz8_2; try clear hfz8_3; try clear hfz8_4; try clear hfz8_5
   obtain ⟨kq, x25_3, rfl, HA, HJ3, BK383, BK384, HB⟩ := hcut
   cases kq with
   | zero => exact absurd HA.out (by simp [spec_SquareOfExact.j0])
   | succ kj3 =>
    have H := HA.out; clear HA
    simp only [spec_SquareOfExact.j0] at H
    by_cases c29 : x25_3 = true
    ·subst c29
     have H1 : (some (0, ([] : List Int), 0, 3)) = some (r1, r2, r3, r4) := by rw [if_pos rfl] at H; exact H
     clear H; have H := H1; clear H1
     simp only [Option.some.injEq, Prod.mk.injEq] at H
     obtain ⟨rfl, rfl, rfl, rfl⟩ := H
     have hnb30 := NB384_383.out; have hnc30 := NB383_384.out
     obtain ⟨hcz31_0, hcz31_1, hcz31_2, hfz31_0, hfz31_1, hfz31_2⟩ := ck3_ BK384
     go_wp2
     refine bodyPost_ret (results_ct rfl _ _ gb384 45 #[.int .i64 0, .slice none 0 0, .int .i64 0] (0, 0) _ rfl (bp3_ BK384) Tryd.underlying45 rfl (by kernel_rfl)) rfl ?_
     exact ⟨_, by first | rfl | (simp [errW_none, errW_some] <;> rfl) | (simp [*, errW_none, errW_some] <;> rfl), by first | exact Kd.R_nil _ _ _ _ _ | exact Kd.N_nil _ _ _ _ _ | exact Kd.V_nil _ _ _ _ _ | exact Kd.Q_nil _ _ _ _ _ | exact Kd.S_nil _ _ _ _ _, bl_ HB⟩
    ·replace c29 := Bool.eq_false_iff.mpr c29
     subst c29
     have H1 : ((spec_l03Square.f kj3 a0_0 l0_1 a0_2 a0_3 l0_4 a0_5).bind fun bt398 => ((spec_l03Fit.f kj3 bt398.1 bt398.2.1 bt398.2.2).bind fun bt403 => (some (bt403.1, bt403.2.1, bt403.2.2.1, bt403.2.2.2)))) = some (r1, r2, r3, r4) := by rw [if_neg (show ¬ (false = true) by decide)] at H; exact H
     clear H; have H := H1; clear H1
     replace H := Option.bind_eq_some_iff.mp H
     obtain ⟨⟨t398, t399, t402⟩, A320, H⟩ := H
     replace H : ((spec_l03Fit.f kj3 t398 t399 t402).bind fun bt403 => (some (bt403.1, bt403.2.1, bt403.2.2.1, bt403.2.2.2))) = some (r1, r2, r3, r4) := H
     have A32 := Aside0.mk A320; clear A320
     replace H := Option.bind_eq_some_iff.mp H
     obtain ⟨⟨t403, t404, t407, t408⟩, A330, H⟩ := H
     replace H : (some (t403, t404, t407, t408)) = some (r1, r2, r3, r4) := H
     have A33 := Aside0.mk A330; clear A330
     simp only [Option.some.injEq, Prod.mk.injEq] at H
     obtain ⟨rfl, rfl, rfl, rfl⟩ := H
     have hnb34 := NB383_384.out; have hnc34 := NB384_383.out
     obtain ⟨hcz35_0, hcz35_1, hcz35_2, hcz35_3, hcz35_4, hcz35_5, hfz35_0, hfz35_1, hfz35_2, hfz35_3, hfz35_4, hfz35_5⟩ := ck6_ BK383
     go_wp2_with (first | ((with_reducible refine gate_callee (f := 73) rfl ?_); refine goesL_ (some 29) rfl rfl Tryd.func73 (by kernel_rfl) rfl #[.agg #[.int .i64 a0_0, .slice A0_1 l0_1.length c0_1, .int .i64 a0_2, .int .i64 a0_3, .slice A0_4 l0_4.length c0_4, .int .i64 a0_5]] rfl ma_ ?_; (with_reducible refine (spec_l03Square.calls kj3 a0_0 _ _ l0_1 a0_2 a0_3 _ _ l0_4 a0_5 t398 t399 t402 _ ?side1 ?side2 ?side3 ?side4 A32.out).mono ?_); (case side1 => exact cb_ HR0_1 HB); (case side2 => exact HC0_1.out); (case side3 => exact cb_ HR0_4 HB); (case side4 => exact HC0_4.out); rintro e w36 ⟨v400, rfl, ho0, hb⟩; refine ⟨_, rfl, ?_⟩; have HO401 := am_ (Kd.R_lower ho0 (below_size (bl_ HB))); replace BK383 := bb_ BK383 hb; replace BK384 := bb_ BK384 hb; replace HB := bs_ HB hb; (try clear hb); (try clear hb2); (try clear hk); (try clear hi); (try clear ho0); obtain ⟨Ao37, co37, eo37⟩ := Kd.R_slice HO401.out; subst eo37) | ((with_reducible refine gate_callee (f := 72) rfl ?_); refine goesL_ (some 30) rfl rfl Tryd.func72 (by kernel_rfl) rfl #[.agg #[.int .i64 t398, .slice Ao37 t399.length co37, .int .i64 t402]] rfl ma_ ?_; (with_reducible refine (spec_l03Fit.calls kj3 t398 (fun k_ => some k_ = (.slice Ao37 t399.length co37 : Value).ownBlock) (.slice Ao37 t399.length co37) t399 t402 t403 t404 t407 t408 w _ ?side1 ?side2 A33.out).mono ?_); (case side1 => exact bl_ HB); (case side2 => exact Kd.R_tight rfl HO401.out); rintro e w38 ⟨v405, rfl, ho0, hb, hkp⟩; refine ⟨_, rfl, ?_⟩; have n0_ := am_ (blk_kept (bk_ BK383) hkp (fun hs_ => (fun e_ => (Kd.R_ne HO401.out BK383.out (by decide)) e_) hs_)); have n1_ := am_ (blk_kept (bk_ BK384) hkp (fun hs_ => (fun e_ => (Kd.R_ne HO401.out BK384.out (by decide)) e_) hs_)); have n2_ := am_ (Kd.R_mono (ok' := fun k_ => True) ho0 (fun k_ hk_ => trivial)); have n3_ := am_ (hb); clear BK383; clear BK384; clear HB; clear HO401; have BK383 := n0_; have BK384 := n1_; have HO406 := n2_; have HB := n3_; clear n0_ n1_ n2_ n3_; (try clear hb); (try clear hkp); (try clear ho0)) | ((with_reducible refine gate_dst (N := 4) rfl ?_); refine bx_ 4 #[.int .i64 0, .slice none 0 0, .int .i64 0] 45 ?_; intro gb409 hg w39 hbox hb; obtain ⟨BK409, GW409, GE409⟩ := nb_ hbox hg HB; obtain ⟨NB383_409, NB409_383⟩ := nn_ hg BK383; obtain ⟨NB384_409, NB409_384⟩ := nn_ hg BK384; replace HO406 := am_ (Kd.R_below (kr_ HO406) hb); replace BK383 := bb_ BK383 hb; replace BK384 := bb_ BK384 hb; replace HB := bs_ HB hb; clear hb hbox hg; have hnb40 := NB409_383.out; have hnc40 := NB383_409.out; have hnb41 := NB409_384.out; have hnc41 := NB384_409.out; obtain ⟨hcz42_0, hcz42_1, hcz42_2, hfz42_0, hfz42_1, hfz42_2⟩ := ck3_ BK409; obtain ⟨Ao43, co43, eo43⟩ := Kd.R_slice HO406.out; subst eo43; obtain ⟨hcz44_0, hcz44_1, hcz44_2, hfz44_0, hfz44_1, hfz44_2⟩ := ck3_ BK384))
     refine bodyPost_ret (results_ct rfl _ _ gb384 45 #[.int .i64 t403, .slice Ao43 t404.length co43, .int .i64 t407] (0, 0) _ rfl (by (with_reducible repeat (first | refine blk_drewN ?_ _ | refine blk_drew ?_ | refine blk_alloc ?_ _)); refine blk_put (cs := #[.int .i64 t403, .slice Ao43 t404.length co43, .int .i64 0]) ?_ 2 _ rfl; (with_reducible repeat (first | refine blk_drewN ?_ _ | refine blk_drew ?_ | refine blk_alloc ?_ _)); refine blk_put (cs := #[.int .i64 t403, .slice none 0 0, .int .i64 0]) ?_ 1 _ rfl; (with_reducible repeat (first | refine blk_drewN ?_ _ | refine blk_drew ?_ | refine blk_alloc ?_ _)); refine blk_put (cs := #[.int .i64 0, .slice none 0 0, .int .i64 0]) ?_ 0 _ rfl; (with_reducible repeat (first | refine blk_drewN ?_ _ | refine blk_drew ?_ | refine blk_alloc ?_ _)); refine blk_far ?_ NB384_409.out _; (with_reducible repeat (first | refine blk_drewN ?_ _ | refine blk_drew ?_ | refine blk_alloc ?_ _)); refine blk_far ?_ NB384_409.out _; (with_reducible repeat (first | refine blk_drewN ?_ _ | refine blk_drew ?_ | refine blk_alloc ?_ _)); refine blk_far ?_ NB384_409.out _; (with_reducible repeat (first | refine blk_drewN ?_ _ | refine blk_drew ?_ | refine blk_alloc ?_ _)); exact BK384.out) Tryd.underlying45 rfl (by kernel_rfl)) rfl ?_
     exact ⟨_, by first | rfl | (simp [errW_none, errW_some] <;> rfl) | (simp [*, errW_none, errW_some] <;> rfl), by (with_reducible repeat (first | apply Kd.R_alloc | apply Kd.R_drewN | apply Kd.R_drew)); exact Kd.R_mono (Kd.R_far (p := ⟨gb384, 2, none⟩) (Kd.R_far (p := ⟨gb384, 1, none⟩) (Kd.R_far (p := ⟨gb384, 0, none⟩) (Kd.R_far (p := ⟨gb409, 2, none⟩) (Kd.R_far (p := ⟨gb409, 1, none⟩) (Kd.R_far (p := ⟨gb409, 0, none⟩) (Kd.R_types (Kd.R_types HO406.out BK409.out (by decide)) BK384.out (by decide)) (fun _ hk => hk.1.2) (.int .i64 t403)) (fun _ hk => hk.1.2) (.slice Ao43 t404.length co43)) (fun _ hk => hk.1.2) (.int .i64 t407)) (fun _ hk => hk.2) (.int .i64 t403)) (fun _ hk => hk.2) (.slice Ao43 t404.length co43)) (fun _ hk => hk.2) (.int .i64 t407)) (fun _ hk => trivial), bl_ HB⟩
 ·replace c3 := Bool.eq_false_iff.mpr c3
  subst c3
  have H1 : (some (0, ([] : List Int), 0, 1)) = some (r1, r2, r3, r4) := by rw [if_neg (show ¬ (false = true) by decide)] at H; exact H
  clear H; have H := H1; clear H1
  simp only [Option.some.injEq, Prod.mk.injEq] at H
  obtain ⟨rfl, rfl, rfl, rfl⟩ := H
  go_enter Tryd.func31, Tryd.ntmps31
  go_wp2_with (first | ((with_reducible refine gate_dst (N := 1) rfl ?_); refine bx_ 1 #[.int .i64 a0_0, .slice A0_1 l0_1.length c0_1, .int .i64 a0_2, .int .i64 a0_3, .slice A0_4 l0_4.length c0_4, .int .i64 a0_5] 47 ?_; intro gb383 hg w45 hbox hb; obtain ⟨BK383, GW383, GE383⟩ := nb_ hbox hg HB; replace HB := bs_ HB hb; clear hb hbox hg) | ((with_reducible refine gate_dst (N := 2) rfl ?_); refine bx_ 2 #[.int .i64 0, .slice none 0 0, .int .i64 0] 45 ?_; intro gb384 hg w46 hbox hb; obtain ⟨BK384, GW384, GE384⟩ := nb_ hbox hg HB; obtain ⟨NB383_384, NB384_383⟩ := nn_ hg BK383; replace BK383 := bb_ BK383 hb; replace HB := bs_ HB hb; clear hb hbox hg; have hnb47 := NB383_384.out; have hnc47 := NB384_383.out; obtain ⟨hcz48_0, hcz48_1, hcz48_2, hcz48_3, hcz48_4, hcz48_5, hfz48_0, hfz48_1, hfz48_2, hfz48_3, hfz48_4, hfz48_5⟩ := ck6_ BK383) | ((with_reducible refine gate_callee (f := 63) rfl ?_); refine goesL_ (some 7) rfl rfl Tryd.func63 (by kernel_rfl) rfl #[.agg #[.int .i64 a0_0, .slice A0_1 l0_1.length c0_1, .int .i64 a0_2, .int .i64 a0_3, .slice A0_4 l0_4.length c0_4, .int .i64 a0_5]] rfl ma_ ?_; (with_reducible refine (spec_l03Pair.calls k a0_0 _ _ l0_1 a0_2 a0_3 _ _ l0_4 a0_5 false _ ?side1 ?side2 ?side3 ?side4 A2.out).mono ?_); (case side1 => exact cb_ HR0_1 HB); (case side2 => exact HC0_1.out); (case side3 => exact cb_ HR0_4 HB); (case side4 => exact HC0_4.out); rintro e w49 ⟨rfl, hb⟩; refine ⟨_, rfl, ?_⟩; replace BK383 := bb_ BK383 hb; replace BK384 := bb_ BK384 hb; replace HB := bs_ HB hb; (try clear hb); (try clear hb2); (try clear hk); (try clear hi); obtain ⟨hcz50_0, hcz50_1, hcz50_2, hfz50_0, hfz50_1, hfz50_2⟩ := ck3_ BK384))
  refine bodyPost_ret (results_ct rfl _ _ gb384 45 #[.int .i64 0, .slice none 0 0, .int .i64 0] (0, 0) _ rfl (bp3_ BK384) Tryd.underlying45 rfl (by kernel_rfl)) rfl ?_
  exact ⟨_, by first | rfl | (simp [errW_none, errW_some] <;> rfl) | (simp [*, errW_none, errW_some] <;> rfl), by first | exact Kd.R_nil _ _ _ _ _ | exact Kd.N_nil _ _ _ _ _ | exact Kd.V_nil _ _ _ _ _ | exact Kd.Q_nil _ _ _ _ _ | exact Kd.S_nil _ _ _ _ _, bl_ HB⟩
def laws_heldInt64S.l0 : Nat → List Int → Int → Int → Option (Int)
  | 0, _, _, _ => none
  | k + 1, x0, x1, x5 => if x5 < (x0.length : Int) then (if 0 ≤ x5 then (if (rd x0 x5) = x1 then (laws_heldInt64S.l0 k x0 (wrap64 (x1 + 1)) (wrap64 (x5 + 1))) else (some (-1))) else (none)) else (some x1)
def laws_heldInt64S.f (k : Nat) (l0 : List Int) (a1 : Int) : Option (Int) := laws_heldInt64S.l0 k l0 a1 0
theorem laws_heldInt64S.mono_l : ∀ k, (∀ y0 y1 y2, LeO (laws_heldInt64S.l0 k y0 y1 y2) (laws_heldInt64S.l0 (k + 1) y0 y1 y2))
  | 0 => fun _ _ _ r h => by simp [laws_heldInt64S.l0] at h
  | k + 1 => by
    have ih0 := laws_heldInt64S.mono_l k
    · intro y0 y1 y2
      unfold laws_heldInt64S.l0
      repeat' first
      | (with_reducible exact ih0 _ _ _)
      | (with_reducible exact LeO.refl _)
      | (with_reducible exact LeO.none _)
      | (with_reducible refine LeO.ite ?_ ?_)
      | (with_reducible refine LeO.bind ?_ (fun _ => ?_))
      | exact ih0 _ _ _
      | exact LeO.none _
      | refine LeO.ite ?_ ?_
      | refine LeO.bind ?_ (fun _ => ?_)
theorem laws_heldInt64S.mono : ∀ a0 a1 k, LeO (laws_heldInt64S.f k a0 a1) (laws_heldInt64S.f (k + 1) a0 a1) := by
  intro a0 a1 k
  have ih0 := laws_heldInt64S.mono_l k
  unfold laws_heldInt64S.f
  repeat' first
      | (with_reducible exact ih0 _ _ _)
      | (with_reducible exact LeO.refl _)
      | (with_reducible exact LeO.none _)
      | (with_reducible refine LeO.ite ?_ ?_)
      | (with_reducible refine LeO.bind ?_ (fun _ => ?_))
      | exact ih0 _ _ _
      | exact LeO.none _
      | refine LeO.ite ?_ ?_
      | refine LeO.bind ?_ (fun _ => ?_)
set_option maxHeartbeats 8000000 in
set_option maxRecDepth 100000 in
theorem laws_heldInt64S.calls (k : Nat) (A0 : Option Addr) (c0 : Nat) (l0 : List Int) (a1 : Int) (r : Int) (w : World) (hr0 : Kd.C (Kd.int .i64) w A0 l0.length l0) (hc0 : l0.length ≤ c0) (h : laws_heldInt64S.f k l0 a1 = some r) :
  Calls Tryd.prog 52 #[.slice A0 l0.length c0, .int .i64 a1] w fun e w' => e = .returned (.int .i64 r) ∧ Drawn0 w w' := by
 have HR0 := Aside0.mk hr0; have HC0 := Aside0.mk hc0; clear hr0 hc0
 have H : (laws_heldInt64S.l0 k l0 a1 0) = some r := h
 clear h
 have H' := Aside0.mk H
 clear H
 go_enter Tryd.func52, Tryd.ntmps52
 go_wp2
 go_loopg [1, 5] k (fun kq v1 v5 w' => ∃ (x1_1 : Int) (x5_1 : Int), v1 = .int .i64 x1_1 ∧ v5 = .int .i64 x5_1 ∧ Aside0 (laws_heldInt64S.l0 kq l0 x1_1 x5_1 = some r) ∧ Aside0 (kq ≤ k) ∧ Drawn0 w w')
 case atStart => exact ⟨(a1), (0), (by first | rfl | (simp; done) | (simp [*]; done)), (by first | rfl | (simp; done) | (simp [*]; done)), H', ⟨Nat.le_refl _⟩, by repeat (first | exact Drawn0.refl _ | apply Drawn0.step)⟩
 case round =>
  clear H'; try clear p2
  obtain ⟨x1_1, x5_1, rfl, rfl, HA, HK1, ⟨m1, rfl⟩⟩ := hrel
  cases gk with
  | zero => exact absurd HA.out (by simp [laws_heldInt64S.l0])
  | succ k1 =>
   have H := HA.out; clear HA
   simp only [laws_heldInt64S.l0] at H
   by_cases c3 : x5_1 < (l0.length : Int)
   ·rw [if_pos c3] at H
    have c3b0 : decide (x5_1 < (l0.length : Int)) = true := decide_eq_true c3
    clear c3
    by_cases c4 : 0 ≤ x5_1
    ·rw [if_pos c4] at H
     have c4b0 : decide (0 ≤ x5_1) = true := decide_eq_true c4
     clear c4
     by_cases c5 : (rd l0 x5_1) = x1_1
     ·rw [if_pos c5] at H
      have c5b0 : ((rd l0 x5_1) == x1_1) = true := beq_iff_eq.mpr c5
      have c5b1 : ((rd l0 x5_1) != x1_1) = false := bne_eq_false_iff_eq.mpr c5
      clear c5
      have H' := Aside0.mk H
      clear H
      have p410 : 0 ≤ (x5_1 : Int) := of_decide_eq_true (by first | (with_reducible assumption) | assumption)
      have q410 : x5_1 < (l0.length : Int) := of_decide_eq_true (by first | (with_reducible assumption) | assumption)
      obtain ⟨ad410, e410, hx410_0⟩ := Kd.at_int HR0.out x5_1 p410 q410
      cases e410
      replace p410 := eq_true p410
      replace q410 := eq_true q410
      go_wp2
      go_roundg k1
      case measure => have := HK1.out; omega
      case rel => exact ⟨(wrap64 (x1_1 + 1)), (wrap64 (x5_1 + 1)), (by first | rfl | (simp; done) | (simp [*]; done)), (by first | rfl | (simp; done) | (simp [*]; done)), H', ⟨by have := HK1.out; omega⟩, by repeat (first | exact Drawn0.refl _ | apply Drawn0.step)⟩
     ·rw [if_neg c5] at H
      have c5b0 : ((rd l0 x5_1) == x1_1) = false := beq_eq_false_iff_ne.mpr c5
      have c5b1 : ((rd l0 x5_1) != x1_1) = true := bne_iff_ne.mpr c5
      obtain rfl := Option.some.inj H
      have p410 : 0 ≤ (x5_1 : Int) := of_decide_eq_true (by first | (with_reducible assumption) | assumption)
      have q410 : x5_1 < (l0.length : Int) := of_decide_eq_true (by first | (with_reducible assumption) | assumption)
      obtain ⟨ad410, e410, hx410_0⟩ := Kd.at_int HR0.out x5_1 p410 q410
      cases e410
      replace p410 := eq_true p410
      replace q410 := eq_true q410
      go_wp2
      go_ret
      exact ⟨by first | rfl | (simp; done) | (simp [*]; done), by repeat (first | exact Drawn0.refl _ | apply Drawn0.step)⟩
    ·rw [if_neg c4] at H
     exact absurd H (by simp)
   ·rw [if_neg c3] at H
    have c3b0 : decide (x5_1 < (l0.length : Int)) = false := decide_eq_false c3
    clear c3; obtain rfl := Option.some.inj H
    go_wp2
    go_ret
    exact ⟨by first | rfl | (simp; done) | (simp [*]; done), by repeat (first | exact Drawn0.refl _ | apply Drawn0.step)⟩
end Go.Proofs.YtghhphndbbefjaaDoor.X
namespace Go.Proofs.YtghhphndbbefjaaDoor.X
open Go.RowKit Go.Proofs.YtghhphndbbefjaaDoorW.PrintWords Go.Proofs.YtghhphndbbefjaaDoorW.PrintLast Go.Proofs.YtghhphndbbefjaaDoorW.PrintMore
attribute [local go_sem] max2_int min2_int max_two min_two max_three min_three max_four min_four   -- for this text's walks alone
set_option linter.unusedVariables false
set_option linter.unusedSimpArgs false
def laws_heldWhole.f (k : Nat) (a0_0 : Int) (l0_1 : List Int) (a1 : Int) : Option (Int) := (laws_heldInt64S.f k l0_1 a1).bind fun t412 => (if t412 < 0 then (some (-1)) else (some t412))
theorem laws_heldWhole.mono : ∀ a0 a1 a2 k, LeO (laws_heldWhole.f k a0 a1 a2) (laws_heldWhole.f (k + 1) a0 a1 a2) := by
 intro a0 a1 a2 k
 unfold laws_heldWhole.f
 repeat' first
   | (with_reducible exact laws_heldInt64S.mono _ _ _)
   | (with_reducible exact LeO.refl _)
   | (with_reducible exact LeO.none _)
   | (with_reducible refine LeO.ite ?_ ?_)
   | (with_reducible refine LeO.bind ?_ (fun _ => ?_))
   | exact laws_heldInt64S.mono _ _ _
   | exact LeO.none _
   | refine LeO.ite ?_ ?_
   | refine LeO.bind ?_ (fun _ => ?_)
set_option maxHeartbeats 8000000 in
set_option maxRecDepth 100000 in
theorem laws_heldWhole.calls (k : Nat) (a0_0 : Int) (A0_1 : Option Addr) (c0_1 : Nat) (l0_1 : List Int) (a1 : Int) (r : Int) (w : World) (hr0_1 : Kd.C (Kd.int .i64) w A0_1 l0_1.length l0_1) (hc0_1 : l0_1.length ≤ c0_1) (h : laws_heldWhole.f k a0_0 l0_1 a1 = some r) :
  Calls Tryd.prog 17 #[.agg #[.int .i64 a0_0, .slice A0_1 l0_1.length c0_1], .int .i64 a1] w fun e w' => e = .returned (.int .i64 r) ∧ Below w.heap.size w w' := by
 have hu26 := Tryd.underlying26
 have HR0_1 := Aside0.mk hr0_1
 have HC0_1 := Aside0.mk hc0_1
 clear hr0_1 hc0_1
 have HB := Aside0.mk (Below.refl w.heap.size w)
 have H : ((laws_heldInt64S.f k l0_1 a1).bind fun t412 => (if t412 < 0 then (some (-1)) else (some t412))) = some r := h
 clear h
 replace H := Option.bind_eq_some_iff.mp H
 obtain ⟨t412, A30, H⟩ := H
 replace H : (if t412 < 0 then (some (-1)) else (some t412)) = some r := H
 have A3 := Aside0.mk A30
 clear A30
 by_cases c4 : t412 < 0
 ·rw [if_pos c4] at H
  have c4b0 : decide (t412 < 0) = true := decide_eq_true c4
  clear c4
  obtain rfl := Option.some.inj H
  go_enter Tryd.func17, Tryd.ntmps17
  go_wp2_with (first | ((with_reducible refine gate_dst (N := 2) rfl ?_); refine box_event ?hg (N := 2) ?hd (cs := #[.int .i64 a0_0, .slice A0_1 l0_1.length c0_1]) (t := 26) ?hr ?_; (case hd => rfl); (case hg => rfl); (case hr => first | (go_simp; done) | (go_simp; rfl)); intro gb411 hg w5 hbox hb; have n0_ := Aside0.mk (below_step (by repeat (first | (with_reducible first | exact HB.out | apply below_alloc | apply pw_below_drewN | apply below_drew1) | exact HB.out)) hb); have n1_ := Aside0.mk (hbox); have n2_ := Aside0.mk ((by rw [hg]; exact (below_size (by repeat (first | (with_reducible first | exact HB.out | apply below_alloc | apply pw_below_drewN | apply below_drew1) | exact HB.out))) : w.heap.size ≤ gb411)); have n3_ := Aside0.mk ((by rw [hg]; exact (below_size (by repeat (first | (with_reducible first | exact HB.out | apply below_alloc | apply pw_below_drewN | apply below_drew1) | exact HB.out))) : w.heap.size ≤ gb411)); clear HB; have HB := n0_; have BK411 := n1_; have GW411 := n2_; have GE411 := n3_; clear n0_ n1_ n2_ n3_; clear hb hbox hg; have hcz6_0 : w5.cell? ⟨gb411, 0, none⟩ = some (.int .i64 a0_0) := (blk_cell BK411.out 0).trans rfl; have hcz6_1 : w5.cell? ⟨gb411, 1, none⟩ = some (.slice A0_1 l0_1.length c0_1) := (blk_cell BK411.out 1).trans rfl; have hfz6_0 := blk_frozen BK411.out 0; have hfz6_1 := blk_frozen BK411.out 1) | ((with_reducible refine gate_callee (f := 52) rfl ?_); refine goesL_ (some 8) rfl rfl Tryd.func52 (by kernel_rfl) rfl #[.slice A0_1 l0_1.length c0_1, .int .i64 a1] rfl (by (try simp only [List.map_toArray, List.map_cons, List.map_nil]); first | done | rfl | (simp only [List.length_drop, List.length_take]; rfl)) ?_; (with_reducible refine (laws_heldInt64S.calls k _ _ l0_1 a1 t412 _ ?side1 ?side2 A3.out).mono ?_); (case side1 => repeat (first | exact (Kd.C_below HR0_1.out HB.out) | (with_reducible refine Kd.C_alloc ?_ _) | (with_reducible refine Kd.C_drewN ?_ _) | (with_reducible refine Kd.C_drew ?_))); (case side2 => exact HC0_1.out); rintro e w' ⟨rfl, ⟨nd, rfl⟩⟩; refine ⟨_, rfl, ?_⟩))
  go_ret
  exact ⟨by first | rfl | (simp [errW_none, errW_some] <;> rfl) | (simp [*, errW_none, errW_some] <;> rfl), by repeat (first | (with_reducible first | exact HB.out | apply below_alloc | apply pw_below_drewN | apply below_drew1 | refine below_set ?_ GE411.out) | exact HB.out)⟩
 ·rw [if_neg c4] at H
  have c4b0 : decide (t412 < 0) = false := decide_eq_false c4
  clear c4
  obtain rfl := Option.some.inj H
  go_enter Tryd.func17, Tryd.ntmps17
  go_wp2_with (first | ((with_reducible refine gate_dst (N := 2) rfl ?_); refine box_event ?hg (N := 2) ?hd (cs := #[.int .i64 a0_0, .slice A0_1 l0_1.length c0_1]) (t := 26) ?hr ?_; (case hd => rfl); (case hg => rfl); (case hr => first | (go_simp; done) | (go_simp; rfl)); intro gb411 hg w7 hbox hb; have n0_ := Aside0.mk (below_step (by repeat (first | (with_reducible first | exact HB.out | apply below_alloc | apply pw_below_drewN | apply below_drew1) | exact HB.out)) hb); have n1_ := Aside0.mk (hbox); have n2_ := Aside0.mk ((by rw [hg]; exact (below_size (by repeat (first | (with_reducible first | exact HB.out | apply below_alloc | apply pw_below_drewN | apply below_drew1) | exact HB.out))) : w.heap.size ≤ gb411)); have n3_ := Aside0.mk ((by rw [hg]; exact (below_size (by repeat (first | (with_reducible first | exact HB.out | apply below_alloc | apply pw_below_drewN | apply below_drew1) | exact HB.out))) : w.heap.size ≤ gb411)); clear HB; have HB := n0_; have BK411 := n1_; have GW411 := n2_; have GE411 := n3_; clear n0_ n1_ n2_ n3_; clear hb hbox hg; have hcz8_0 : w7.cell? ⟨gb411, 0, none⟩ = some (.int .i64 a0_0) := (blk_cell BK411.out 0).trans rfl; have hcz8_1 : w7.cell? ⟨gb411, 1, none⟩ = some (.slice A0_1 l0_1.length c0_1) := (blk_cell BK411.out 1).trans rfl; have hfz8_0 := blk_frozen BK411.out 0; have hfz8_1 := blk_frozen BK411.out 1) | ((with_reducible refine gate_callee (f := 52) rfl ?_); refine goesL_ (some 8) rfl rfl Tryd.func52 (by kernel_rfl) rfl #[.slice A0_1 l0_1.length c0_1, .int .i64 a1] rfl (by (try simp only [List.map_toArray, List.map_cons, List.map_nil]); first | done | rfl | (simp only [List.length_drop, List.length_take]; rfl)) ?_; (with_reducible refine (laws_heldInt64S.calls k _ _ l0_1 a1 t412 _ ?side1 ?side2 A3.out).mono ?_); (case side1 => repeat (first | exact (Kd.C_below HR0_1.out HB.out) | (with_reducible refine Kd.C_alloc ?_ _) | (with_reducible refine Kd.C_drewN ?_ _) | (with_reducible refine Kd.C_drew ?_))); (case side2 => exact HC0_1.out); rintro e w' ⟨rfl, ⟨nd, rfl⟩⟩; refine ⟨_, rfl, ?_⟩))
  go_ret
  exact ⟨by first | rfl | (simp [errW_none, errW_some] <;> rfl) | (simp [*, errW_none, errW_some] <;> rfl), by repeat (first | (with_reducible first | exact HB.out | apply below_alloc | apply pw_below_drewN | apply below_drew1 | refine below_set ?_ GE411.out) | exact HB.out)⟩
def laws_heldDyadic.f (k : Nat) (a0_0 : Int) (l0_1 : List Int) (a0_2 : Int) (a1 : Int) : Option (Int) := (laws_heldWhole.f k a0_0 l0_1 a1).bind fun t414 => (if t414 < 0 then (some (-1)) else (some t414))
theorem laws_heldDyadic.mono : ∀ a0 a1 a2 a3 k, LeO (laws_heldDyadic.f k a0 a1 a2 a3) (laws_heldDyadic.f (k + 1) a0 a1 a2 a3) := by
 intro a0 a1 a2 a3 k
 unfold laws_heldDyadic.f
 repeat' first
   | (with_reducible exact laws_heldWhole.mono _ _ _ _)
   | (with_reducible exact LeO.refl _)
   | (with_reducible exact LeO.none _)
   | (with_reducible refine LeO.ite ?_ ?_)
   | (with_reducible refine LeO.bind ?_ (fun _ => ?_))
   | exact laws_heldWhole.mono _ _ _ _
   | exact LeO.none _
   | refine LeO.ite ?_ ?_
   | refine LeO.bind ?_ (fun _ => ?_)
set_option maxHeartbeats 8000000 in
set_option maxRecDepth 100000 in
theorem laws_heldDyadic.calls (k : Nat) (a0_0 : Int) (A0_1 : Option Addr) (c0_1 : Nat) (l0_1 : List Int) (a0_2 : Int) (a1 : Int) (r : Int) (w : World) (hr0_1 : Kd.C (Kd.int .i64) w A0_1 l0_1.length l0_1) (hc0_1 : l0_1.length ≤ c0_1) (h : laws_heldDyadic.f k a0_0 l0_1 a0_2 a1 = some r) :
  Calls Tryd.prog 35 #[.agg #[.int .i64 a0_0, .slice A0_1 l0_1.length c0_1, .int .i64 a0_2], .int .i64 a1] w fun e w' => e = .returned (.int .i64 r) ∧ Below w.heap.size w w' := by
 have hu45 := Tryd.underlying45
 have hu26 := Tryd.underlying26
 have HR0_1 := Aside0.mk hr0_1
 have HC0_1 := Aside0.mk hc0_1
 clear hr0_1 hc0_1
 have HB := Aside0.mk (Below.refl w.heap.size w)
 have H : ((laws_heldWhole.f k a0_0 l0_1 a1).bind fun t414 => (if t414 < 0 then (some (-1)) else (some t414))) = some r := h
 clear h
 replace H := Option.bind_eq_some_iff.mp H
 obtain ⟨t414, A30, H⟩ := H
 replace H : (if t414 < 0 then (some (-1)) else (some t414)) = some r := H
 have A3 := Aside0.mk A30
 clear A30
 by_cases c4 : t414 < 0
 ·rw [if_pos c4] at H
  have c4b0 : decide (t414 < 0) = true := decide_eq_true c4
  clear c4
  obtain rfl := Option.some.inj H
  go_enter Tryd.func35, Tryd.ntmps35
  go_wp2_with (first | ((with_reducible refine gate_dst (N := 2) rfl ?_); refine box_event ?hg (N := 2) ?hd (cs := #[.int .i64 a0_0, .slice A0_1 l0_1.length c0_1, .int .i64 a0_2]) (t := 45) ?hr ?_; (case hd => rfl); (case hg => rfl); (case hr => first | (go_simp; done) | (go_simp; rfl)); intro gb413 hg w5 hbox hb; have n0_ := Aside0.mk (below_step (by repeat (first | (with_reducible first | exact HB.out | apply below_alloc | apply pw_below_drewN | apply below_drew1) | exact HB.out)) hb); have n1_ := Aside0.mk (hbox); have n2_ := Aside0.mk ((by rw [hg]; exact (below_size (by repeat (first | (with_reducible first | exact HB.out | apply below_alloc | apply pw_below_drewN | apply below_drew1) | exact HB.out))) : w.heap.size ≤ gb413)); have n3_ := Aside0.mk ((by rw [hg]; exact (below_size (by repeat (first | (with_reducible first | exact HB.out | apply below_alloc | apply pw_below_drewN | apply below_drew1) | exact HB.out))) : w.heap.size ≤ gb413)); clear HB; have HB := n0_; have BK413 := n1_; have GW413 := n2_; have GE413 := n3_; clear n0_ n1_ n2_ n3_; clear hb hbox hg; have hcz6_0 : w5.cell? ⟨gb413, 0, none⟩ = some (.int .i64 a0_0) := (blk_cell BK413.out 0).trans rfl; have hcz6_1 : w5.cell? ⟨gb413, 1, none⟩ = some (.slice A0_1 l0_1.length c0_1) := (blk_cell BK413.out 1).trans rfl; have hcz6_2 : w5.cell? ⟨gb413, 2, none⟩ = some (.int .i64 a0_2) := (blk_cell BK413.out 2).trans rfl; have hfz6_0 := blk_frozen BK413.out 0; have hfz6_1 := blk_frozen BK413.out 1; have hfz6_2 := blk_frozen BK413.out 2) | ((with_reducible refine gate_callee (f := 17) rfl ?_); refine goesL_ (some 8) rfl rfl Tryd.func17 (by kernel_rfl) rfl #[.agg #[.int .i64 a0_0, .slice A0_1 l0_1.length c0_1], .int .i64 a1] rfl (by (try simp only [List.map_toArray, List.map_cons, List.map_nil]); first | done | rfl | (simp only [List.length_drop, List.length_take]; rfl)) ?_; (with_reducible refine (laws_heldWhole.calls k a0_0 _ _ l0_1 a1 t414 _ ?side1 ?side2 A3.out).mono ?_); (case side1 => repeat (first | exact (Kd.C_below HR0_1.out HB.out) | (with_reducible refine Kd.C_alloc ?_ _) | (with_reducible refine Kd.C_drewN ?_ _) | (with_reducible refine Kd.C_drew ?_))); (case side2 => exact HC0_1.out); rintro e w7 ⟨rfl, hb⟩; refine ⟨_, rfl, ?_⟩; have n0_ := Aside0.mk (blk_below (g := gb413) (o := .cells #[.int .i64 a0_0, .slice A0_1 l0_1.length c0_1, .int .i64 a0_2] 45 (0, 0)) (by (with_reducible repeat (first | refine blk_drewN ?_ _ | refine blk_drew ?_ | refine blk_alloc ?_ _)); exact BK413.out) hb); have n1_ := Aside0.mk (below_step (by repeat (first | (with_reducible first | exact HB.out | apply below_alloc | apply pw_below_drewN | apply below_drew1 | refine below_set ?_ GE413.out) | exact HB.out)) hb); clear BK413; clear HB; have BK413 := n0_; have HB := n1_; clear n0_ n1_; (try clear hb); (try clear hb2); (try clear hk); (try clear hi)))
  go_ret
  exact ⟨by first | rfl | (simp [errW_none, errW_some] <;> rfl) | (simp [*, errW_none, errW_some] <;> rfl), by repeat (first | (with_reducible first | exact HB.out | apply below_alloc | apply pw_below_drewN | apply below_drew1 | refine below_set ?_ GE413.out) | exact HB.out)⟩
 ·rw [if_neg c4] at H
  have c4b0 : decide (t414 < 0) = false := decide_eq_false c4
  clear c4
  obtain rfl := Option.some.inj H
  go_enter Tryd.func35, Tryd.ntmps35
  go_wp2_with (first | ((with_reducible refine gate_dst (N := 2) rfl ?_); refine box_event ?hg (N := 2) ?hd (cs := #[.int .i64 a0_0, .slice A0_1 l0_1.length c0_1, .int .i64 a0_2]) (t := 45) ?hr ?_; (case hd => rfl); (case hg => rfl); (case hr => first | (go_simp; done) | (go_simp; rfl)); intro gb413 hg w8 hbox hb; have n0_ := Aside0.mk (below_step (by repeat (first | (with_reducible first | exact HB.out | apply below_alloc | apply pw_below_drewN | apply below_drew1) | exact HB.out)) hb); have n1_ := Aside0.mk (hbox); have n2_ := Aside0.mk ((by rw [hg]; exact (below_size (by repeat (first | (with_reducible first | exact HB.out | apply below_alloc | apply pw_below_drewN | apply below_drew1) | exact HB.out))) : w.heap.size ≤ gb413)); have n3_ := Aside0.mk ((by rw [hg]; exact (below_size (by repeat (first | (with_reducible first | exact HB.out | apply below_alloc | apply pw_below_drewN | apply below_drew1) | exact HB.out))) : w.heap.size ≤ gb413)); clear HB; have HB := n0_; have BK413 := n1_; have GW413 := n2_; have GE413 := n3_; clear n0_ n1_ n2_ n3_; clear hb hbox hg; have hcz9_0 : w8.cell? ⟨gb413, 0, none⟩ = some (.int .i64 a0_0) := (blk_cell BK413.out 0).trans rfl; have hcz9_1 : w8.cell? ⟨gb413, 1, none⟩ = some (.slice A0_1 l0_1.length c0_1) := (blk_cell BK413.out 1).trans rfl; have hcz9_2 : w8.cell? ⟨gb413, 2, none⟩ = some (.int .i64 a0_2) := (blk_cell BK413.out 2).trans rfl; have hfz9_0 := blk_frozen BK413.out 0; have hfz9_1 := blk_frozen BK413.out 1; have hfz9_2 := blk_frozen BK413.out 2) | ((with_reducible refine gate_callee (f := 17) rfl ?_); refine goesL_ (some 8) rfl rfl Tryd.func17 (by kernel_rfl) rfl #[.agg #[.int .i64 a0_0, .slice A0_1 l0_1.length c0_1], .int .i64 a1] rfl (by (try simp only [List.map_toArray, List.map_cons, List.map_nil]); first | done | rfl | (simp only [List.length_drop, List.length_take]; rfl)) ?_; (with_reducible refine (laws_heldWhole.calls k a0_0 _ _ l0_1 a1 t414 _ ?side1 ?side2 A3.out).mono ?_); (case side1 => repeat (first | exact (Kd.C_below HR0_1.out HB.out) | (with_reducible refine Kd.C_alloc ?_ _) | (with_reducible refine Kd.C_drewN ?_ _) | (with_reducible refine Kd.C_drew ?_))); (case side2 => exact HC0_1.out); rintro e w10 ⟨rfl, hb⟩; refine ⟨_, rfl, ?_⟩; have n0_ := Aside0.mk (blk_below (g := gb413) (o := .cells #[.int .i64 a0_0, .slice A0_1 l0_1.length c0_1, .int .i64 a0_2] 45 (0, 0)) (by (with_reducible repeat (first | refine blk_drewN ?_ _ | refine blk_drew ?_ | refine blk_alloc ?_ _)); exact BK413.out) hb); have n1_ := Aside0.mk (below_step (by repeat (first | (with_reducible first | exact HB.out | apply below_alloc | apply pw_below_drewN | apply below_drew1 | refine below_set ?_ GE413.out) | exact HB.out)) hb); clear BK413; clear HB; have BK413 := n0_; have HB := n1_; clear n0_ n1_; (try clear hb); (try clear hb2); (try clear hk); (try clear hi)))
  go_ret
  exact ⟨by first | rfl | (simp [errW_none, errW_some] <;> rfl) | (simp [*, errW_none, errW_some] <;> rfl), by repeat (first | (with_reducible first | exact HB.out | apply below_alloc | apply pw_below_drewN | apply below_drew1 | refine below_set ?_ GE413.out) | exact HB.out)⟩
end Go.Proofs.YtghhphndbbefjaaDoor.X
