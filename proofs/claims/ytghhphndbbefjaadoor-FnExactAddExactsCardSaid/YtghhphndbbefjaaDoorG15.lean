/- Functions of the program as plain Lean functions, each with a proof that its call does what that function says. Printed by a program over the kit's print; conditions stand in each contract. -/
import Derived.Test.YtghhphndbbefjaaDoorG9
import Derived.Test.YtghhphndbbefjaaDoorG14
namespace Go.Proofs.YtghhphndbbefjaaDoor.X
open Go.RowKit Go.Proofs.YtghhphndbbefjaaDoorW.PrintWords Go.Proofs.YtghhphndbbefjaaDoorW.PrintLast Go.Proofs.YtghhphndbbefjaaDoorW.PrintMore Go.Proofs.YtghhphndbbefjaaDoor.Sq
attribute [local go_sem] max2_int min2_int max_two min_two max_three min_three max_four min_four   -- for this text's walks alone
set_option linter.unusedVariables false
set_option linter.unusedSimpArgs false
def spec_l02Add.f (k : Nat) (a0_0 : Int) (l0_1 : List Int) (a1_0 : Int) (l1_1 : List Int) : Option (Int × List Int) := if a0_0 = 0 then ((spec_l02Make.f k a1_0 l1_1).bind fun bt180 => (some (bt180.1, bt180.2))) else (if a1_0 = 0 then ((spec_l02Make.f k a0_0 l0_1).bind fun bt184 => (some (bt184.1, bt184.2))) else (if a0_0 = a1_0 then ((spec_l02Plus.f k l0_1 l1_1).bind fun t188 => ((spec_l02Make.f k a0_0 t188).bind fun bt191 => (some (bt191.1, bt191.2)))) else ((spec_l02CompareLimbs.f k l0_1 l1_1).bind fun t195 => (if t195 ≥ 0 then ((spec_l02Minus.f k l0_1 l1_1).bind fun t196 => ((spec_l02Make.f k a0_0 t196).bind fun bt199 => (some (bt199.1, bt199.2)))) else ((spec_l02Minus.f k l1_1 l0_1).bind fun t203 => ((spec_l02Make.f k a1_0 t203).bind fun bt206 => (some (bt206.1, bt206.2))))))))
theorem spec_l02Add.mono : ∀ a0 a1 a2 a3 k, LeO (spec_l02Add.f k a0 a1 a2 a3) (spec_l02Add.f (k + 1) a0 a1 a2 a3) := by
  intro a0 a1 a2 a3 k
  unfold spec_l02Add.f
  repeat' first
      | (with_reducible exact spec_l02CompareLimbs.mono _ _ _)
      | (with_reducible exact spec_l02Make.mono _ _ _)
      | (with_reducible exact spec_l02Minus.mono _ _ _)
      | (with_reducible exact spec_l02Plus.mono _ _ _)
      | (with_reducible exact LeO.refl _)
      | (with_reducible exact LeO.none _)
      | (with_reducible refine LeO.ite ?_ ?_)
      | (with_reducible refine LeO.bind ?_ (fun _ => ?_))
      | exact spec_l02CompareLimbs.mono _ _ _
      | exact spec_l02Make.mono _ _ _
      | exact spec_l02Minus.mono _ _ _
      | exact spec_l02Plus.mono _ _ _
      | exact LeO.none _
      | refine LeO.ite ?_ ?_
      | refine LeO.bind ?_ (fun _ => ?_)
def spec_l02Add.T6 : Bool × List (List Nat × List Nat) := (true, [([], []), ([0], [0]), ([], []), ([2], [2]), ([], []), ([4], [4]), ([3, 5], [3, 5]), ([1, 6, 6], [1, 6]), ([7, 7, 0, 1, 2, 3, 4, 5, 6, 7], [7])])
def spec_l02Add.B6 : List Nat := [0, 1, 0, 4, 0, 16, 60, 127, 255]
theorem spec_l02Add.tab6 : rtab .any (opsOf Tryd.f105 6) = spec_l02Add.T6 := by kernel_rfl
theorem spec_l02Add.bits6 : waitsOk spec_l02Add.T6.2 spec_l02Add.B6 = true := by kernel_rfl
def spec_l02Add.T8 : Bool × List (List Nat × List Nat) := (true, [([], []), ([0], [0]), ([], []), ([2], [2]), ([], []), ([4], [4]), ([3, 5], [3, 5]), ([1, 6, 6], [1, 6]), ([7, 7, 0, 1, 2, 3, 4, 5, 6, 7], [7])])
def spec_l02Add.B8 : List Nat := [0, 1, 0, 4, 0, 16, 60, 127, 255]
theorem spec_l02Add.tab8 : rtab .any (opsOf Tryd.f105 8) = spec_l02Add.T8 := by kernel_rfl
theorem spec_l02Add.bits8 : waitsOk spec_l02Add.T8.2 spec_l02Add.B8 = true := by kernel_rfl
def spec_l02Add.T9 : Bool × List (List Nat × List Nat) := (true, [([], []), ([0], [0]), ([], []), ([2], [2]), ([], []), ([4], [4]), ([3, 5], [3, 5]), ([1, 6, 6], [1, 6]), ([7, 7, 0, 1, 2, 3, 4, 5, 6, 7], [7])])
def spec_l02Add.B9 : List Nat := [0, 1, 0, 4, 0, 16, 60, 127, 255]
theorem spec_l02Add.tab9 : rtab .any (opsOf Tryd.f105 9) = spec_l02Add.T9 := by kernel_rfl
theorem spec_l02Add.bits9 : waitsOk spec_l02Add.T9.2 spec_l02Add.B9 = true := by kernel_rfl
set_option maxHeartbeats 8000000 in
set_option maxRecDepth 100000 in
theorem spec_l02Add.calls (k : Nat) (a0_0 : Int) (A0_1 : Option Addr) (c0_1 : Nat) (l0_1 : List Int) (a1_0 : Int) (A1_1 : Option Addr) (c1_1 : Nat) (l1_1 : List Int) (r1 : Int) (r2 : List Int) (w : World) (hr0_1 : Kd.C (Kd.int .i64) w A0_1 l0_1.length l0_1) (hc0_1 : l0_1.length ≤ c0_1) (hr1_1 : Kd.C (Kd.int .i64) w A1_1 l1_1.length l1_1) (hc1_1 : l1_1.length ≤ c1_1) (h : spec_l02Add.f k a0_0 l0_1 a1_0 l1_1 = some (r1, r2)) :
  Calls Tryd.prog 105 #[.agg #[.int .i64 a0_0, .slice A0_1 l0_1.length c0_1], .agg #[.int .i64 a1_0, .slice A1_1 l1_1.length c1_1]] w fun e w' => ∃ v1_ : Value, e = .returned (.agg #[.int .i64 r1, v1_]) ∧ Kd.R (Kd.int .i64) 2 w' w.heap.size (fun _ => True) v1_ r2 ∧ Below w.heap.size w w' := by
 have hu26 := Tryd.underlying26; have HR0_1 := Aside0.mk hr0_1; have HC0_1 := Aside0.mk hc0_1; clear hr0_1 hc0_1; have HR1_1 := Aside0.mk hr1_1; have HC1_1 := Aside0.mk hc1_1; clear hr1_1 hc1_1; have HB := am_ (Below.refl w.heap.size w)
 have H : (if a0_0 = 0 then ((spec_l02Make.f k a1_0 l1_1).bind fun bt180 => (some (bt180.1, bt180.2))) else (if a1_0 = 0 then ((spec_l02Make.f k a0_0 l0_1).bind fun bt184 => (some (bt184.1, bt184.2))) else (if a0_0 = a1_0 then ((spec_l02Plus.f k l0_1 l1_1).bind fun t188 => ((spec_l02Make.f k a0_0 t188).bind fun bt191 => (some (bt191.1, bt191.2)))) else ((spec_l02CompareLimbs.f k l0_1 l1_1).bind fun t195 => (if t195 ≥ 0 then ((spec_l02Minus.f k l0_1 l1_1).bind fun t196 => ((spec_l02Make.f k a0_0 t196).bind fun bt199 => (some (bt199.1, bt199.2)))) else ((spec_l02Minus.f k l1_1 l0_1).bind fun t203 => ((spec_l02Make.f k a1_0 t203).bind fun bt206 => (some (bt206.1, bt206.2))))))))) = some (r1, r2) := h
 clear h
 by_cases c3 : a0_0 = 0
 ·rw [if_pos c3] at H
  have c3b0 : (a0_0 == 0) = true := beq_iff_eq.mpr c3
  have c3b1 : (a0_0 != 0) = false := bne_eq_false_iff_eq.mpr c3
  clear c3
  replace H := Option.bind_eq_some_iff.mp H
  obtain ⟨⟨t180, t181⟩, A40, H⟩ := H
  replace H : (some (t180, t181)) = some (r1, r2) := H
  have A4 := Aside0.mk A40; clear A40
  simp only [Option.some.injEq, Prod.mk.injEq] at H
  obtain ⟨rfl, rfl⟩ := H
  go_enter Tryd.func105, Tryd.ntmps105
  go_wp2_with (first | ((with_reducible refine gate_dst (N := 2) rfl ?_); refine bx_ 2 #[.int .i64 a0_0, .slice A0_1 l0_1.length c0_1] 26 ?_; intro gb177 hg w5 hbox hb; obtain ⟨BK177, GW177, GE177⟩ := nb_ hbox hg HB; replace HB := bs_ HB hb; clear hb hbox hg) | ((with_reducible refine gate_dst (N := 3) rfl ?_); refine bx_ 3 #[.int .i64 a1_0, .slice A1_1 l1_1.length c1_1] 26 ?_; intro gb178 hg w6 hbox hb; obtain ⟨BK178, GW178, GE178⟩ := nb_ hbox hg HB; obtain ⟨NB177_178, NB178_177⟩ := nn_ hg BK177; replace BK177 := bb_ BK177 hb; replace HB := bs_ HB hb; clear hb hbox hg) | ((with_reducible refine gate_dst (N := 4) rfl ?_); refine bx_ 4 #[.int .i64 0, .slice none 0 0] 26 ?_; intro gb179 hg w7 hbox hb; obtain ⟨BK179, GW179, GE179⟩ := nb_ hbox hg HB; obtain ⟨NB177_179, NB179_177⟩ := nn_ hg BK177; obtain ⟨NB178_179, NB179_178⟩ := nn_ hg BK178; replace BK177 := bb_ BK177 hb; replace BK178 := bb_ BK178 hb; replace HB := bs_ HB hb; clear hb hbox hg; have hnb8 := NB177_178.out; have hnc8 := NB178_177.out; have hnb9 := NB177_179.out; have hnc9 := NB179_177.out; obtain ⟨hcz10_0, hcz10_1, hfz10_0, hfz10_1⟩ := ck2_ BK177; have hnb11 := NB178_179.out; have hnc11 := NB179_178.out; obtain ⟨hcz12_0, hcz12_1, hfz12_0, hfz12_1⟩ := ck2_ BK178) | ((with_reducible refine gate_callee (f := 87) rfl ?_); refine goesL_ (some 13) rfl rfl Tryd.func87 (by kernel_rfl) rfl #[.int .i64 a1_0, .slice A1_1 l1_1.length c1_1] rfl ma_ ?_; (with_reducible refine (spec_l02Make.calls k a1_0 _ _ l1_1 t180 t181 _ ?side1 ?side2 A4.out).mono ?_); (case side1 => exact cb_ HR1_1 HB); (case side2 => exact HC1_1.out); rintro e w13 ⟨v182, rfl, ho0, hb⟩; refine ⟨_, rfl, ?_⟩; have HO183 := am_ (Kd.R_lower ho0 (below_size (bl_ HB))); replace BK177 := bb_ BK177 hb; replace BK178 := bb_ BK178 hb; replace BK179 := bb_ BK179 hb; replace HB := bs_ HB hb; (try clear hb); (try clear hb2); (try clear hk); (try clear hi); (try clear ho0); obtain ⟨hcz14_0, hcz14_1, hfz14_0, hfz14_1⟩ := ck2_ BK179; obtain ⟨Ao15, co15, eo15⟩ := Kd.R_slice HO183.out; subst eo15))
  refine bodyPost_ret (results_cell_row rfl _ _ gb179 26 #[.int .i64 t180, .slice Ao15 t181.length co15] (0, 0) _ rfl (bp2_ BK179) Tryd.underlying26 rfl (by kernel_rfl)) rfl ?_
  exact ⟨_, by first | rfl | (simp [errW_none, errW_some] <;> rfl) | (simp [*, errW_none, errW_some] <;> rfl), rt_ HO183 BK179, bl_ HB⟩
 ·rw [if_neg c3] at H
  have c3b0 : (a0_0 == 0) = false := beq_eq_false_iff_ne.mpr c3
  have c3b1 : (a0_0 != 0) = true := bne_iff_ne.mpr c3
  by_cases c16 : a1_0 = 0
  ·rw [if_pos c16] at H
   have c16b0 : (a1_0 == 0) = true := beq_iff_eq.mpr c16
   have c16b1 : (a1_0 != 0) = false := bne_eq_false_iff_eq.mpr c16
   clear c16
   replace H := Option.bind_eq_some_iff.mp H
   obtain ⟨⟨t184, t185⟩, A170, H⟩ := H
   replace H : (some (t184, t185)) = some (r1, r2) := H
   have A17 := Aside0.mk A170; clear A170
   simp only [Option.some.injEq, Prod.mk.injEq] at H
   obtain ⟨rfl, rfl⟩ := H
   go_enter Tryd.func105, Tryd.ntmps105
   go_wp2_with (first | ((with_reducible refine gate_dst (N := 2) rfl ?_); refine bx_ 2 #[.int .i64 a0_0, .slice A0_1 l0_1.length c0_1] 26 ?_; intro gb177 hg w18 hbox hb; obtain ⟨BK177, GW177, GE177⟩ := nb_ hbox hg HB; replace HB := bs_ HB hb; clear hb hbox hg) | ((with_reducible refine gate_dst (N := 3) rfl ?_); refine bx_ 3 #[.int .i64 a1_0, .slice A1_1 l1_1.length c1_1] 26 ?_; intro gb178 hg w19 hbox hb; obtain ⟨BK178, GW178, GE178⟩ := nb_ hbox hg HB; obtain ⟨NB177_178, NB178_177⟩ := nn_ hg BK177; replace BK177 := bb_ BK177 hb; replace HB := bs_ HB hb; clear hb hbox hg) | ((with_reducible refine gate_dst (N := 4) rfl ?_); refine bx_ 4 #[.int .i64 0, .slice none 0 0] 26 ?_; intro gb179 hg w20 hbox hb; obtain ⟨BK179, GW179, GE179⟩ := nb_ hbox hg HB; obtain ⟨NB177_179, NB179_177⟩ := nn_ hg BK177; obtain ⟨NB178_179, NB179_178⟩ := nn_ hg BK178; replace BK177 := bb_ BK177 hb; replace BK178 := bb_ BK178 hb; replace HB := bs_ HB hb; clear hb hbox hg; have hnb21 := NB177_178.out; have hnc21 := NB178_177.out; have hnb22 := NB177_179.out; have hnc22 := NB179_177.out; obtain ⟨hcz23_0, hcz23_1, hfz23_0, hfz23_1⟩ := ck2_ BK177; have hnb24 := NB178_179.out; have hnc24 := NB179_178.out; obtain ⟨hcz25_0, hcz25_1, hfz25_0, hfz25_1⟩ := ck2_ BK178) | ((with_reducible refine gate_callee (f := 87) rfl ?_); refine goesL_ (some 22) rfl rfl Tryd.func87 (by kernel_rfl) rfl #[.int .i64 a0_0, .slice A0_1 l0_1.length c0_1] rfl ma_ ?_; (with_reducible refine (spec_l02Make.calls k a0_0 _ _ l0_1 t184 t185 _ ?side1 ?side2 A17.out).mono ?_); (case side1 => exact cb_ HR0_1 HB); (case side2 => exact HC0_1.out); rintro e w26 ⟨v186, rfl, ho0, hb⟩; refine ⟨_, rfl, ?_⟩; have HO187 := am_ (Kd.R_lower ho0 (below_size (bl_ HB))); replace BK177 := bb_ BK177 hb; replace BK178 := bb_ BK178 hb; replace BK179 := bb_ BK179 hb; replace HB := bs_ HB hb; (try clear hb); (try clear hb2); (try clear hk); (try clear hi); (try clear ho0); obtain ⟨hcz27_0, hcz27_1, hfz27_0, hfz27_1⟩ := ck2_ BK179; obtain ⟨Ao28, co28, eo28⟩ := Kd.R_slice HO187.out; subst eo28))
   refine bodyPost_ret (results_cell_row rfl _ _ gb179 26 #[.int .i64 t184, .slice Ao28 t185.length co28] (0, 0) _ rfl (bp2_ BK179) Tryd.underlying26 rfl (by kernel_rfl)) rfl ?_
   exact ⟨_, by first | rfl | (simp [errW_none, errW_some] <;> rfl) | (simp [*, errW_none, errW_some] <;> rfl), rt_ HO187 BK179, bl_ HB⟩
  ·rw [if_neg c16] at H
   have c16b0 : (a1_0 == 0) = false := beq_eq_false_iff_ne.mpr c16
   have c16b1 : (a1_0 != 0) = true := bne_iff_ne.mpr c16
   by_cases c29 : a0_0 = a1_0
   ·rw [if_pos c29] at H
    have c29b0 : (a0_0 == a1_0) = true := beq_iff_eq.mpr c29
    have c29b1 : (a0_0 != a1_0) = false := bne_eq_false_iff_eq.mpr c29
    clear c29
    replace H := Option.bind_eq_some_iff.mp H
    obtain ⟨t188, A300, H⟩ := H
    replace H : ((spec_l02Make.f k a0_0 t188).bind fun bt191 => (some (bt191.1, bt191.2))) = some (r1, r2) := H
    have A30 := Aside0.mk A300; clear A300
    replace H := Option.bind_eq_some_iff.mp H
    obtain ⟨⟨t191, t192⟩, A310, H⟩ := H
    replace H : (some (t191, t192)) = some (r1, r2) := H
    have A31 := Aside0.mk A310; clear A310
    simp only [Option.some.injEq, Prod.mk.injEq] at H
    obtain ⟨rfl, rfl⟩ := H
    go_enter Tryd.func105, Tryd.ntmps105
    try go_wp2_with (first | ((with_reducible refine gate_dst (N := 2) rfl ?_); refine bx_ 2 #[.int .i64 a0_0, .slice A0_1 l0_1.length c0_1] 26 ?_; intro gb177 hg w32 hbox hb; obtain ⟨BK177, GW177, GE177⟩ := nb_ hbox hg HB; replace HB := bs_ HB hb; clear hb hbox hg) | ((with_reducible refine gate_dst (N := 3) rfl ?_); refine bx_ 3 #[.int .i64 a1_0, .slice A1_1 l1_1.length c1_1] 26 ?_; intro gb178 hg w33 hbox hb; obtain ⟨BK178, GW178, GE178⟩ := nb_ hbox hg HB; obtain ⟨NB177_178, NB178_177⟩ := nn_ hg BK177; replace BK177 := bb_ BK177 hb; replace HB := bs_ HB hb; clear hb hbox hg) | ((with_reducible refine gate_dst (N := 4) rfl ?_); refine bx_ 4 #[.int .i64 0, .slice none 0 0] 26 ?_; intro gb179 hg w34 hbox hb; obtain ⟨BK179, GW179, GE179⟩ := nb_ hbox hg HB; obtain ⟨NB177_179, NB179_177⟩ := nn_ hg BK177; obtain ⟨NB178_179, NB179_178⟩ := nn_ hg BK178; replace BK177 := bb_ BK177 hb; replace BK178 := bb_ BK178 hb; replace HB := bs_ HB hb; clear hb hbox hg; have hnb35 := NB177_178.out; have hnc35 := NB178_177.out; have hnb36 := NB177_179.out; have hnc36 := NB179_177.out; obtain ⟨hcz37_0, hcz37_1, hfz37_0, hfz37_1⟩ := ck2_ BK177; have hnb38 := NB178_179.out; have hnc38 := NB179_178.out; obtain ⟨hcz39_0, hcz39_1, hfz39_0, hfz39_1⟩ := ck2_ BK178))
    replace BK177 := am_ (blk_drew BK177.out); replace BK178 := am_ (blk_drew BK178.out); replace BK179 := am_ (blk_drew BK179.out); replace HB := am_ (below_drew1 HB.out)
    refine start_ (n := 9) (S := fun w' => w'.cell? ⟨gb177, 0, none⟩ = some (.int .i64 a0_0) ∧ w'.cell? ⟨gb177, 1, none⟩ = some (.slice A0_1 l0_1.length c0_1) ∧ w'.cell? ⟨gb178, 0, none⟩ = some (.int .i64 a1_0) ∧ w'.cell? ⟨gb178, 1, none⟩ = some (.slice A1_1 l1_1.length c1_1)) (ds := []) #[false, false, false, false, false, false, false, false, false] (by kernel_rfl) rfl rfl ⟨bc_ BK177 0, bc_ BK177 1, bc_ BK178 0, bc_ BK178 1⟩ (fun hHeld => ?_); refine with_tabW spec_l02Add.tab6 spec_l02Add.bits6 (fun HT_ HW_ => ?_)
    generalize w34.drew = w40 at BK177 BK178 BK179 HB hHeld ⊢
    refine pu_ #[true, false, false, false, false, false, false, false, false] 0 29 (any_of HT_.out (by kernel_rfl)) ?_
    refine pu_ #[true, false, true, false, false, false, false, false, false] 2 31 (any_of HT_.out (by kernel_rfl)) ?_
    refine pu_ #[true, false, true, false, true, false, false, false, false] 4 33 (any_of HT_.out (by kernel_rfl)) ?_
    refine tk_ #[true, true, true, false, true, false, false, false, false] 1 30 (take_ofW HT_.out HW_.out (by kernel_rfl)) hHeld ?_
    refine tk_ #[true, true, true, true, true, false, false, false, false] 3 32 (take_ofW HT_.out HW_.out (by kernel_rfl)) hHeld ?_
    refine tk_ #[true, true, true, true, true, true, false, false, false] 5 34 (take_ofW HT_.out HW_.out (by kernel_rfl)) hHeld ?_
    refine one_ (i := 6) (N := some 35) #[true, true, true, true, true, true, true, false, false] rfl rfl (one_of HT_.out (by kernel_rfl)) (by decide) (fun K hK => ?_)
    refine goes_ Tryd.func130 (by kernel_rfl) rfl #[.slice A0_1 l0_1.length c0_1, .slice A1_1 l1_1.length c1_1] (by rfl) rfl rfl ma_ ?_
    with_reducible refine (spec_l02Plus.calls k _ _ l0_1 _ _ l1_1 t188 _ ?side1 ?side2 ?side3 ?side4 A30.out).mono ?_
    (case side1 => exact cb_ HR0_1 HB)
    (case side2 => exact HC0_1.out)
    (case side3 => exact cb_ HR1_1 HB)
    (case side4 => exact HC1_1.out)
    rintro e w41 ⟨v189, rfl, ho0, hb⟩
    refine ⟨_, rfl, ?_⟩
    have HO190 := am_ (Kd.R_lower ho0 (below_size (bl_ HB))); replace BK177 := am_ (blk_below (bk_ BK177) hb); replace BK178 := am_ (blk_below (bk_ BK178) hb); replace BK179 := am_ (blk_below (bk_ BK179) hb); replace HB := am_ (below_step (bl_ HB) hb); (try clear hb); (try clear hb2); (try clear hk); (try clear hi); (try clear ho0)
    obtain ⟨Ao42, co42, eo42⟩ := Kd.R_slice HO190.out
    (first | subst eo42 | (injection eo42 with f1_ f2_ f3_; have f4_ := f1_.symm; have f5_ := f3_.symm; clear f1_ f2_ f3_; subst f4_; subst f5_))
    refine hK.out _ _ ⟨bc_ BK177 0, bc_ BK177 1, bc_ BK178 0, bc_ BK178 1⟩ (fun hHeld => ?_)
    clear hK K
    refine nr_ ?_
    refine one_ (i := 7) (N := some 36) #[true, true, true, true, true, true, true, true, false] rfl rfl (one_of HT_.out (by kernel_rfl)) (by decide) (fun K hK => ?_)
    refine goes_ Tryd.func87 (by kernel_rfl) rfl #[.int .i64 a0_0, .slice Ao42 t188.length co42] (by rfl) rfl rfl ma_ ?_
    with_reducible refine (spec_l02Make.calls k a0_0 _ _ t188 t191 t192 _ ?side1 ?side2 A31.out).mono ?_
    (case side1 => exact cr_ HO190)
    (case side2 => exact (Kd.R_reads' HO190.out).2.1)
    rintro e w43 ⟨v193, rfl, ho0, hb⟩
    refine ⟨_, rfl, ?_⟩
    have HO194 := am_ (Kd.R_lower (Kd.R_new' ho0 (Kd.R_lt (kr_ HO190))) (below_size (bl_ HB))); replace HO190 := am_ (Kd.R_elder' (kr_ HO190) (Kd.R_base ho0) hb); replace BK177 := am_ (blk_below (bk_ BK177) hb); replace BK178 := am_ (blk_below (bk_ BK178) hb); replace BK179 := am_ (blk_below (bk_ BK179) hb); replace HB := am_ (below_step (bl_ HB) hb); (try clear hb); (try clear hb2); (try clear hk); (try clear hi); (try clear ho0)
    obtain ⟨Ao45, co45, eo45⟩ := Kd.R_slice HO194.out
    (first | subst eo45 | (injection eo45 with f1_ f2_ f3_; have f4_ := f1_.symm; have f5_ := f3_.symm; clear f1_ f2_ f3_; subst f4_; subst f5_))
    refine hK.out _ _ ⟨bc_ BK177 0, bc_ BK177 1, bc_ BK178 0, bc_ BK178 1⟩ (fun hHeld => ?_)
    clear hK K
    refine nr_ ?_
    refine one_ (i := 8) (N := none) #[true, true, true, true, true, true, true, true, true] rfl rfl (one_of HT_.out (by kernel_rfl)) (by decide) (fun K hK => ?_)
    have hs44 : w43.cell? ⟨gb179, 0, none⟩ = some (.int .i64 0) := bc_ BK179 0
    have hfs44 := blk_frozen BK179.out 0; have hns44_0 := NB177_179.out; have hns44_1 := NB178_179.out; have hms44_0 := NB179_177.out; have hms44_1 := NB179_178.out
    have hs46 : w43.cell? ⟨gb179, 1, none⟩ = some (.slice none 0 0) := bc_ BK179 1
    have hfs46 := blk_frozen BK179.out 1; have hns46_0 := NB177_179.out; have hns46_1 := NB178_179.out; have hms46_0 := NB179_177.out; have hms46_1 := NB179_178.out
    refine skip_ (w1 := ?_) (by rfl) rfl ?_ ?_
    rotate_left
    ·go_simp
     rfl
    refine hK.out _ _ ⟨((cell_far (p := ⟨gb179, _, none⟩) NB177_179.out _).trans (((cell_far (p := ⟨gb179, _, none⟩) NB177_179.out _).trans (hHeld.1)))), ((cell_far (p := ⟨gb179, _, none⟩) NB177_179.out _).trans (((cell_far (p := ⟨gb179, _, none⟩) NB177_179.out _).trans (hHeld.2.1)))), ((cell_far (p := ⟨gb179, _, none⟩) NB178_179.out _).trans (((cell_far (p := ⟨gb179, _, none⟩) NB178_179.out _).trans (hHeld.2.2.1)))), ((cell_far (p := ⟨gb179, _, none⟩) NB178_179.out _).trans (((cell_far (p := ⟨gb179, _, none⟩) NB178_179.out _).trans (hHeld.2.2.2))))⟩ (fun hHeld => ?_)
    clear hK K
    refine done_ (done_of HT_.out (by kernel_rfl)) ?_
    try go_wp2
    refine bodyPost_ret (results_cell_row rfl _ _ gb179 26 #[.int .i64 t191, .slice Ao45 t192.length co45] (0, 0) _ rfl (bp2_ BK179) Tryd.underlying26 rfl (by kernel_rfl)) rfl ?_
    exact ⟨_, by first | rfl | (simp [errW_none, errW_some] <;> rfl) | (simp [*, errW_none, errW_some] <;> rfl), rt_ HO194 BK179, bl_ HB⟩
   ·rw [if_neg c29] at H
    have c29b0 : (a0_0 == a1_0) = false := beq_eq_false_iff_ne.mpr c29
    have c29b1 : (a0_0 != a1_0) = true := bne_iff_ne.mpr c29
    replace H := Option.bind_eq_some_iff.mp H
    obtain ⟨t195, A470, H⟩ := H
    replace H : (if t195 ≥ 0 then ((spec_l02Minus.f k l0_1 l1_1).bind fun t196 => ((spec_l02Make.f k a0_0 t196).bind fun bt199 => (some (bt199.1, bt199.2)))) else ((spec_l02Minus.f k l1_1 l0_1).bind fun t203 => ((spec_l02Make.f k a1_0 t203).bind fun bt206 => (some (bt206.1, bt206.2))))) = some (r1, r2) := H
    have A47 := Aside0.mk A470; clear A470
    by_cases c48 : t195 ≥ 0
    ·rw [if_pos c48] at H
     have c48b0 : decide (0 ≤ t195) = true := decide_eq_true c48
     clear c48
     replace H := Option.bind_eq_some_iff.mp H
     obtain ⟨t196, A490, H⟩ := H
     replace H : ((spec_l02Make.f k a0_0 t196).bind fun bt199 => (some (bt199.1, bt199.2))) = some (r1, r2) := H
     have A49 := Aside0.mk A490; clear A490
     replace H := Option.bind_eq_some_iff.mp H
     obtain ⟨⟨t199, t200⟩, A500, H⟩ := H
     replace H : (some (t199, t200)) = some (r1, r2) := H
     have A50 := Aside0.mk A500; clear A500
     simp only [Option.some.injEq, Prod.mk.injEq] at H
     obtain ⟨rfl, rfl⟩ := H
     go_enter Tryd.func105, Tryd.ntmps105
     try go_wp2_with (first | ((with_reducible refine gate_dst (N := 2) rfl ?_); refine bx_ 2 #[.int .i64 a0_0, .slice A0_1 l0_1.length c0_1] 26 ?_; intro gb177 hg w51 hbox hb; obtain ⟨BK177, GW177, GE177⟩ := nb_ hbox hg HB; replace HB := bs_ HB hb; clear hb hbox hg) | ((with_reducible refine gate_dst (N := 3) rfl ?_); refine bx_ 3 #[.int .i64 a1_0, .slice A1_1 l1_1.length c1_1] 26 ?_; intro gb178 hg w52 hbox hb; obtain ⟨BK178, GW178, GE178⟩ := nb_ hbox hg HB; obtain ⟨NB177_178, NB178_177⟩ := nn_ hg BK177; replace BK177 := bb_ BK177 hb; replace HB := bs_ HB hb; clear hb hbox hg) | ((with_reducible refine gate_dst (N := 4) rfl ?_); refine bx_ 4 #[.int .i64 0, .slice none 0 0] 26 ?_; intro gb179 hg w53 hbox hb; obtain ⟨BK179, GW179, GE179⟩ := nb_ hbox hg HB; obtain ⟨NB177_179, NB179_177⟩ := nn_ hg BK177; obtain ⟨NB178_179, NB179_178⟩ := nn_ hg BK178; replace BK177 := bb_ BK177 hb; replace BK178 := bb_ BK178 hb; replace HB := bs_ HB hb; clear hb hbox hg; have hnb54 := NB177_178.out; have hnc54 := NB178_177.out; have hnb55 := NB177_179.out; have hnc55 := NB179_177.out; obtain ⟨hcz56_0, hcz56_1, hfz56_0, hfz56_1⟩ := ck2_ BK177; have hnb57 := NB178_179.out; have hnc57 := NB179_178.out; obtain ⟨hcz58_0, hcz58_1, hfz58_0, hfz58_1⟩ := ck2_ BK178) | ((with_reducible refine gate_callee (f := 131) rfl ?_); refine goesL_ (some 42) rfl rfl Tryd.func131 (by kernel_rfl) rfl #[.slice A0_1 l0_1.length c0_1, .slice A1_1 l1_1.length c1_1] rfl ma_ ?_; (with_reducible refine (spec_l02CompareLimbs.calls k _ _ l0_1 _ _ l1_1 t195 _ ?side1 ?side2 ?side3 ?side4 A47.out).mono ?_); (case side1 => exact cb_ HR0_1 HB); (case side2 => exact HC0_1.out); (case side3 => exact cb_ HR1_1 HB); (case side4 => exact HC1_1.out); rintro e w' ⟨rfl, ⟨nd, rfl⟩⟩; refine ⟨_, rfl, ?_⟩; (try (rw [drewN_self w53]; generalize hq_ : World.drewN w53 _ = w53; have n0_ : Aside0 (w53.heap[gb177]? = some (.cells #[.int .i64 a0_0, .slice A0_1 l0_1.length c0_1] 26 (0, 0))) := ⟨by rw [← hq_]; exact (bk_ BK177)⟩; have n1_ : Aside0 (w53.heap[gb178]? = some (.cells #[.int .i64 a1_0, .slice A1_1 l1_1.length c1_1] 26 (0, 0))) := ⟨by rw [← hq_]; exact (bk_ BK178)⟩; have n2_ : Aside0 (w53.heap[gb179]? = some (.cells #[.int .i64 0, .slice none 0 0] 26 (0, 0))) := ⟨by rw [← hq_]; exact (bk_ BK179)⟩; have n3_ : Aside0 (Below w.heap.size w w53) := ⟨by rw [← hq_]; exact (bl_ HB)⟩; clear BK177 BK178 BK179 HB hq_; have BK177 := n0_; have BK178 := n1_; have BK179 := n2_; have HB := n3_; clear n0_ n1_ n2_ n3_))))
     replace BK177 := am_ (blk_drew BK177.out); replace BK178 := am_ (blk_drew BK178.out); replace BK179 := am_ (blk_drew BK179.out); replace HB := am_ (below_drew1 HB.out)
     refine start_ (n := 9) (S := fun w' => w'.cell? ⟨gb177, 0, none⟩ = some (.int .i64 a0_0) ∧ w'.cell? ⟨gb177, 1, none⟩ = some (.slice A0_1 l0_1.length c0_1) ∧ w'.cell? ⟨gb178, 0, none⟩ = some (.int .i64 a1_0) ∧ w'.cell? ⟨gb178, 1, none⟩ = some (.slice A1_1 l1_1.length c1_1)) (ds := []) #[false, false, false, false, false, false, false, false, false] (by kernel_rfl) rfl rfl ⟨bc_ BK177 0, bc_ BK177 1, bc_ BK178 0, bc_ BK178 1⟩ (fun hHeld => ?_); refine with_tabW spec_l02Add.tab8 spec_l02Add.bits8 (fun HT_ HW_ => ?_)
     generalize w53.drew = w59 at BK177 BK178 BK179 HB hHeld ⊢
     refine pu_ #[true, false, false, false, false, false, false, false, false] 0 44 (any_of HT_.out (by kernel_rfl)) ?_
     refine pu_ #[true, false, true, false, false, false, false, false, false] 2 46 (any_of HT_.out (by kernel_rfl)) ?_
     refine pu_ #[true, false, true, false, true, false, false, false, false] 4 48 (any_of HT_.out (by kernel_rfl)) ?_
     refine tk_ #[true, true, true, false, true, false, false, false, false] 1 45 (take_ofW HT_.out HW_.out (by kernel_rfl)) hHeld ?_
     refine tk_ #[true, true, true, true, true, false, false, false, false] 3 47 (take_ofW HT_.out HW_.out (by kernel_rfl)) hHeld ?_
     refine tk_ #[true, true, true, true, true, true, false, false, false] 5 49 (take_ofW HT_.out HW_.out (by kernel_rfl)) hHeld ?_
     refine one_ (i := 6) (N := some 50) #[true, true, true, true, true, true, true, false, false] rfl rfl (one_of HT_.out (by kernel_rfl)) (by decide) (fun K hK => ?_)
     refine goes_ Tryd.func132 (by kernel_rfl) rfl #[.slice A0_1 l0_1.length c0_1, .slice A1_1 l1_1.length c1_1] (by rfl) rfl rfl ma_ ?_
     with_reducible refine (spec_l02Minus.calls k _ _ l0_1 _ _ l1_1 t196 _ ?side1 ?side2 ?side3 ?side4 A49.out).mono ?_
     (case side1 => exact cb_ HR0_1 HB)
     (case side2 => exact HC0_1.out)
     (case side3 => exact cb_ HR1_1 HB)
     (case side4 => exact HC1_1.out)
     rintro e w60 ⟨v197, rfl, ho0, hb⟩
     refine ⟨_, rfl, ?_⟩
     have HO198 := am_ (Kd.R_lower ho0 (below_size (bl_ HB))); replace BK177 := am_ (blk_below (bk_ BK177) hb); replace BK178 := am_ (blk_below (bk_ BK178) hb); replace BK179 := am_ (blk_below (bk_ BK179) hb); replace HB := am_ (below_step (bl_ HB) hb); (try clear hb); (try clear hb2); (try clear hk); (try clear hi); (try clear ho0)
     obtain ⟨Ao61, co61, eo61⟩ := Kd.R_slice HO198.out
     (first | subst eo61 | (injection eo61 with f1_ f2_ f3_; have f4_ := f1_.symm; have f5_ := f3_.symm; clear f1_ f2_ f3_; subst f4_; subst f5_))
     refine hK.out _ _ ⟨bc_ BK177 0, bc_ BK177 1, bc_ BK178 0, bc_ BK178 1⟩ (fun hHeld => ?_)
     clear hK K
     refine nr_ ?_
     refine one_ (i := 7) (N := some 51) #[true, true, true, true, true, true, true, true, false] rfl rfl (one_of HT_.out (by kernel_rfl)) (by decide) (fun K hK => ?_)
     refine goes_ Tryd.func87 (by kernel_rfl) rfl #[.int .i64 a0_0, .slice Ao61 t196.length co61] (by rfl) rfl rfl ma_ ?_
     with_reducible refine (spec_l02Make.calls k a0_0 _ _ t196 t199 t200 _ ?side1 ?side2 A50.out).mono ?_
     (case side1 => exact cr_ HO198)
     (case side2 => exact (Kd.R_reads' HO198.out).2.1)
     rintro e w62 ⟨v201, rfl, ho0, hb⟩
     refine ⟨_, rfl, ?_⟩
     have HO202 := am_ (Kd.R_lower (Kd.R_new' ho0 (Kd.R_lt (kr_ HO198))) (below_size (bl_ HB))); replace HO198 := am_ (Kd.R_elder' (kr_ HO198) (Kd.R_base ho0) hb); replace BK177 := am_ (blk_below (bk_ BK177) hb); replace BK178 := am_ (blk_below (bk_ BK178) hb); replace BK179 := am_ (blk_below (bk_ BK179) hb); replace HB := am_ (below_step (bl_ HB) hb); (try clear hb); (try clear hb2); (try clear hk); (try clear hi); (try clear ho0)
     obtain ⟨Ao64, co64, eo64⟩ := Kd.R_slice HO202.out
     (first | subst eo64 | (injection eo64 with f1_ f2_ f3_; have f4_ := f1_.symm; have f5_ := f3_.symm; clear f1_ f2_ f3_; subst f4_; subst f5_))
     refine hK.out _ _ ⟨bc_ BK177 0, bc_ BK177 1, bc_ BK178 0, bc_ BK178 1⟩ (fun hHeld => ?_)
     clear hK K
     refine nr_ ?_
     refine one_ (i := 8) (N := none) #[true, true, true, true, true, true, true, true, true] rfl rfl (one_of HT_.out (by kernel_rfl)) (by decide) (fun K hK => ?_)
     have hs63 : w62.cell? ⟨gb179, 0, none⟩ = some (.int .i64 0) := bc_ BK179 0
     have hfs63 := blk_frozen BK179.out 0; have hns63_0 := NB177_179.out; have hns63_1 := NB178_179.out; have hms63_0 := NB179_177.out; have hms63_1 := NB179_178.out
     have hs65 : w62.cell? ⟨gb179, 1, none⟩ = some (.slice none 0 0) := bc_ BK179 1
     have hfs65 := blk_frozen BK179.out 1; have hns65_0 := NB177_179.out; have hns65_1 := NB178_179.out; have hms65_0 := NB179_177.out; have hms65_1 := NB179_178.out
     refine skip_ (w1 := ?_) (by rfl) rfl ?_ ?_
     rotate_left
     ·go_simp
      rfl
     refine hK.out _ _ ⟨((cell_far (p := ⟨gb179, _, none⟩) NB177_179.out _).trans (((cell_far (p := ⟨gb179, _, none⟩) NB177_179.out _).trans (hHeld.1)))), ((cell_far (p := ⟨gb179, _, none⟩) NB177_179.out _).trans (((cell_far (p := ⟨gb179, _, none⟩) NB177_179.out _).trans (hHeld.2.1)))), ((cell_far (p := ⟨gb179, _, none⟩) NB178_179.out _).trans (((cell_far (p := ⟨gb179, _, none⟩) NB178_179.out _).trans (hHeld.2.2.1)))), ((cell_far (p := ⟨gb179, _, none⟩) NB178_179.out _).trans (((cell_far (p := ⟨gb179, _, none⟩) NB178_179.out _).trans (hHeld.2.2.2))))⟩ (fun hHeld => ?_)
     clear hK K
     refine done_ (done_of HT_.out (by kernel_rfl)) ?_
     try go_wp2
     refine bodyPost_ret (results_cell_row rfl _ _ gb179 26 #[.int .i64 t199, .slice Ao64 t200.length co64] (0, 0) _ rfl (bp2_ BK179) Tryd.underlying26 rfl (by kernel_rfl)) rfl ?_
     exact ⟨_, by first | rfl | (simp [errW_none, errW_some] <;> rfl) | (simp [*, errW_none, errW_some] <;> rfl), rt_ HO202 BK179, bl_ HB⟩
    ·rw [if_neg c48] at H
     have c48b0 : decide (0 ≤ t195) = false := decide_eq_false c48
     clear c48
     replace H := Option.bind_eq_some_iff.mp H
     obtain ⟨t203, A660, H⟩ := H
     replace H : ((spec_l02Make.f k a1_0 t203).bind fun bt206 => (some (bt206.1, bt206.2))) = some (r1, r2) := H
     have A66 := Aside0.mk A660; clear A660
     replace H := Option.bind_eq_some_iff.mp H
     obtain ⟨⟨t206, t207⟩, A670, H⟩ := H
     replace H : (some (t206, t207)) = some (r1, r2) := H
     have A67 := Aside0.mk A670; clear A670
     simp only [Option.some.injEq, Prod.mk.injEq] at H
     obtain ⟨rfl, rfl⟩ := H
     go_enter Tryd.func105, Tryd.ntmps105
     try go_wp2_with (first | ((with_reducible refine gate_dst (N := 2) rfl ?_); refine bx_ 2 #[.int .i64 a0_0, .slice A0_1 l0_1.length c0_1] 26 ?_; intro gb177 hg w68 hbox hb; obtain ⟨BK177, GW177, GE177⟩ := nb_ hbox hg HB; replace HB := bs_ HB hb; clear hb hbox hg) | ((with_reducible refine gate_dst (N := 3) rfl ?_); refine bx_ 3 #[.int .i64 a1_0, .slice A1_1 l1_1.length c1_1] 26 ?_; intro gb178 hg w69 hbox hb; obtain ⟨BK178, GW178, GE178⟩ := nb_ hbox hg HB; obtain ⟨NB177_178, NB178_177⟩ := nn_ hg BK177; replace BK177 := bb_ BK177 hb; replace HB := bs_ HB hb; clear hb hbox hg) | ((with_reducible refine gate_dst (N := 4) rfl ?_); refine bx_ 4 #[.int .i64 0, .slice none 0 0] 26 ?_; intro gb179 hg w70 hbox hb; obtain ⟨BK179, GW179, GE179⟩ := nb_ hbox hg HB; obtain ⟨NB177_179, NB179_177⟩ := nn_ hg BK177; obtain ⟨NB178_179, NB179_178⟩ := nn_ hg BK178; replace BK177 := bb_ BK177 hb; replace BK178 := bb_ BK178 hb; replace HB := bs_ HB hb; clear hb hbox hg; have hnb71 := NB177_178.out; have hnc71 := NB178_177.out; have hnb72 := NB177_179.out; have hnc72 := NB179_177.out; obtain ⟨hcz73_0, hcz73_1, hfz73_0, hfz73_1⟩ := ck2_ BK177; have hnb74 := NB178_179.out; have hnc74 := NB179_178.out; obtain ⟨hcz75_0, hcz75_1, hfz75_0, hfz75_1⟩ := ck2_ BK178) | ((with_reducible refine gate_callee (f := 131) rfl ?_); refine goesL_ (some 42) rfl rfl Tryd.func131 (by kernel_rfl) rfl #[.slice A0_1 l0_1.length c0_1, .slice A1_1 l1_1.length c1_1] rfl ma_ ?_; (with_reducible refine (spec_l02CompareLimbs.calls k _ _ l0_1 _ _ l1_1 t195 _ ?side1 ?side2 ?side3 ?side4 A47.out).mono ?_); (case side1 => exact cb_ HR0_1 HB); (case side2 => exact HC0_1.out); (case side3 => exact cb_ HR1_1 HB); (case side4 => exact HC1_1.out); rintro e w' ⟨rfl, ⟨nd, rfl⟩⟩; refine ⟨_, rfl, ?_⟩; (try (rw [drewN_self w70]; generalize hq_ : World.drewN w70 _ = w70; have n0_ : Aside0 (w70.heap[gb177]? = some (.cells #[.int .i64 a0_0, .slice A0_1 l0_1.length c0_1] 26 (0, 0))) := ⟨by rw [← hq_]; exact (bk_ BK177)⟩; have n1_ : Aside0 (w70.heap[gb178]? = some (.cells #[.int .i64 a1_0, .slice A1_1 l1_1.length c1_1] 26 (0, 0))) := ⟨by rw [← hq_]; exact (bk_ BK178)⟩; have n2_ : Aside0 (w70.heap[gb179]? = some (.cells #[.int .i64 0, .slice none 0 0] 26 (0, 0))) := ⟨by rw [← hq_]; exact (bk_ BK179)⟩; have n3_ : Aside0 (Below w.heap.size w w70) := ⟨by rw [← hq_]; exact (bl_ HB)⟩; clear BK177 BK178 BK179 HB hq_; have BK177 := n0_; have BK178 := n1_; have BK179 := n2_; have HB := n3_; clear n0_ n1_ n2_ n3_))))
     replace BK177 := am_ (blk_drew BK177.out); replace BK178 := am_ (blk_drew BK178.out); replace BK179 := am_ (blk_drew BK179.out); replace HB := am_ (below_drew1 HB.out)
     refine start_ (n := 9) (S := fun w' => w'.cell? ⟨gb178, 0, none⟩ = some (.int .i64 a1_0) ∧ w'.cell? ⟨gb178, 1, none⟩ = some (.slice A1_1 l1_1.length c1_1) ∧ w'.cell? ⟨gb177, 0, none⟩ = some (.int .i64 a0_0) ∧ w'.cell? ⟨gb177, 1, none⟩ = some (.slice A0_1 l0_1.length c0_1)) (ds := []) #[false, false, false, false, false, false, false, false, false] (by kernel_rfl) rfl rfl ⟨bc_ BK178 0, bc_ BK178 1, bc_ BK177 0, bc_ BK177 1⟩ (fun hHeld => ?_); refine with_tabW spec_l02Add.tab9 spec_l02Add.bits9 (fun HT_ HW_ => ?_)
     generalize w70.drew = w76 at BK177 BK178 BK179 HB hHeld ⊢
     refine pu_ #[true, false, false, false, false, false, false, false, false] 0 52 (any_of HT_.out (by kernel_rfl)) ?_
     refine pu_ #[true, false, true, false, false, false, false, false, false] 2 54 (any_of HT_.out (by kernel_rfl)) ?_
     refine pu_ #[true, false, true, false, true, false, false, false, false] 4 56 (any_of HT_.out (by kernel_rfl)) ?_
     refine tk_ #[true, true, true, false, true, false, false, false, false] 1 53 (take_ofW HT_.out HW_.out (by kernel_rfl)) hHeld ?_
     refine tk_ #[true, true, true, true, true, false, false, false, false] 3 55 (take_ofW HT_.out HW_.out (by kernel_rfl)) hHeld ?_
     refine tk_ #[true, true, true, true, true, true, false, false, false] 5 57 (take_ofW HT_.out HW_.out (by kernel_rfl)) hHeld ?_
     refine one_ (i := 6) (N := some 58) #[true, true, true, true, true, true, true, false, false] rfl rfl (one_of HT_.out (by kernel_rfl)) (by decide) (fun K hK => ?_)
     refine goes_ Tryd.func132 (by kernel_rfl) rfl #[.slice A1_1 l1_1.length c1_1, .slice A0_1 l0_1.length c0_1] (by rfl) rfl rfl ma_ ?_
     with_reducible refine (spec_l02Minus.calls k _ _ l1_1 _ _ l0_1 t203 _ ?side1 ?side2 ?side3 ?side4 A66.out).mono ?_
     (case side1 => exact cb_ HR1_1 HB)
     (case side2 => exact HC1_1.out)
     (case side3 => exact cb_ HR0_1 HB)
     (case side4 => exact HC0_1.out)
     rintro e w77 ⟨v204, rfl, ho0, hb⟩
     refine ⟨_, rfl, ?_⟩
     have HO205 := am_ (Kd.R_lower ho0 (below_size (bl_ HB))); replace BK177 := am_ (blk_below (bk_ BK177) hb); replace BK178 := am_ (blk_below (bk_ BK178) hb); replace BK179 := am_ (blk_below (bk_ BK179) hb); replace HB := am_ (below_step (bl_ HB) hb); (try clear hb); (try clear hb2); (try clear hk); (try clear hi); (try clear ho0)
     obtain ⟨Ao78, co78, eo78⟩ := Kd.R_slice HO205.out
     (first | subst eo78 | (injection eo78 with f1_ f2_ f3_; have f4_ := f1_.symm; have f5_ := f3_.symm; clear f1_ f2_ f3_; subst f4_; subst f5_))
     refine hK.out _ _ ⟨bc_ BK178 0, bc_ BK178 1, bc_ BK177 0, bc_ BK177 1⟩ (fun hHeld => ?_)
     clear hK K
     refine nr_ ?_
     refine one_ (i := 7) (N := some 59) #[true, true, true, true, true, true, true, true, false] rfl rfl (one_of HT_.out (by kernel_rfl)) (by decide) (fun K hK => ?_)
     refine goes_ Tryd.func87 (by kernel_rfl) rfl #[.int .i64 a1_0, .slice Ao78 t203.length co78] (by rfl) rfl rfl ma_ ?_
     with_reducible refine (spec_l02Make.calls k a1_0 _ _ t203 t206 t207 _ ?side1 ?side2 A67.out).mono ?_
     (case side1 => exact cr_ HO205)
     (case side2 => exact (Kd.R_reads' HO205.out).2.1)
     rintro e w79 ⟨v208, rfl, ho0, hb⟩
     refine ⟨_, rfl, ?_⟩
     have HO209 := am_ (Kd.R_lower (Kd.R_new' ho0 (Kd.R_lt (kr_ HO205))) (below_size (bl_ HB))); replace HO205 := am_ (Kd.R_elder' (kr_ HO205) (Kd.R_base ho0) hb); replace BK177 := am_ (blk_below (bk_ BK177) hb); replace BK178 := am_ (blk_below (bk_ BK178) hb); replace BK179 := am_ (blk_below (bk_ BK179) hb); replace HB := am_ (below_step (bl_ HB) hb); (try clear hb); (try clear hb2); (try clear hk); (try clear hi); (try clear ho0)
     obtain ⟨Ao81, co81, eo81⟩ := Kd.R_slice HO209.out
     (first | subst eo81 | (injection eo81 with f1_ f2_ f3_; have f4_ := f1_.symm; have f5_ := f3_.symm; clear f1_ f2_ f3_; subst f4_; subst f5_))
     refine hK.out _ _ ⟨bc_ BK178 0, bc_ BK178 1, bc_ BK177 0, bc_ BK177 1⟩ (fun hHeld => ?_)
     clear hK K
     refine nr_ ?_
     refine one_ (i := 8) (N := none) #[true, true, true, true, true, true, true, true, true] rfl rfl (one_of HT_.out (by kernel_rfl)) (by decide) (fun K hK => ?_)
     have hs80 : w79.cell? ⟨gb179, 0, none⟩ = some (.int .i64 0) := bc_ BK179 0
     have hfs80 := blk_frozen BK179.out 0; have hns80_0 := NB177_179.out; have hns80_1 := NB178_179.out; have hms80_0 := NB179_177.out; have hms80_1 := NB179_178.out
     have hs82 : w79.cell? ⟨gb179, 1, none⟩ = some (.slice none 0 0) := bc_ BK179 1
     have hfs82 := blk_frozen BK179.out 1; have hns82_0 := NB177_179.out; have hns82_1 := NB178_179.out; have hms82_0 := NB179_177.out; have hms82_1 := NB179_178.out
     refine skip_ (w1 := ?_) (by rfl) rfl ?_ ?_
     rotate_left
     ·go_simp
      rfl
     refine hK.out _ _ ⟨((cell_far (p := ⟨gb179, _, none⟩) NB178_179.out _).trans (((cell_far (p := ⟨gb179, _, none⟩) NB178_179.out _).trans (hHeld.1)))), ((cell_far (p := ⟨gb179, _, none⟩) NB178_179.out _).trans (((cell_far (p := ⟨gb179, _, none⟩) NB178_179.out _).trans (hHeld.2.1)))), ((cell_far (p := ⟨gb179, _, none⟩) NB177_179.out _).trans (((cell_far (p := ⟨gb179, _, none⟩) NB177_179.out _).trans (hHeld.2.2.1)))), ((cell_far (p := ⟨gb179, _, none⟩) NB177_179.out _).trans (((cell_far (p := ⟨gb179, _, none⟩) NB177_179.out _).trans (hHeld.2.2.2))))⟩ (fun hHeld => ?_)
     clear hK K
     refine done_ (done_of HT_.out (by kernel_rfl)) ?_
     try go_wp2
     refine bodyPost_ret (results_cell_row rfl _ _ gb179 26 #[.int .i64 t206, .slice Ao81 t207.length co81] (0, 0) _ rfl (bp2_ BK179) Tryd.underlying26 rfl (by kernel_rfl)) rfl ?_
     exact ⟨_, by first | rfl | (simp [errW_none, errW_some] <;> rfl) | (simp [*, errW_none, errW_some] <;> rfl), rt_ HO209 BK179, bl_ HB⟩
def spec_l02Left.l0 : Nat → Int → List Int → Int → Int → Int → List Int → Option (Int × List Int)
  | 0, _, _, _, _, _, _ => none
  | k + 1, x1, x5, x6, x7, x211000, x211001 => if x7 < (x211001.length : Int) then (if 0 ≤ x7 then (if 0 ≤ (IntKind.u64.wrap (Int.tmod x1 24)) then (if x5.length < 17592186044416 then (spec_l02Left.l0 k x1 (x5 ++ [Int.tmod (wrap64 (x6 + (shl .i64 (rd x211001 x7) (IntKind.u64.wrap (Int.tmod x1 24))))) 16777216]) (wrap64 (Int.tdiv (wrap64 (x6 + (shl .i64 (rd x211001 x7) (IntKind.u64.wrap (Int.tmod x1 24))))) 16777216)) (wrap64 (x7 + 1)) x211000 x211001) else (none)) else (none)) else (none)) else (if x5.length < 17592186044416 then ((spec_l02Make.f k x211000 (x5 ++ [x6])).bind fun bt222 => (some (bt222.1, bt222.2))) else (none))
def spec_l02Left.f (k : Nat) (a0_0 : Int) (l0_1 : List Int) (a1 : Int) : Option (Int × List Int) := if 0 ≤ (wrap64 (Int.tdiv a1 24)) then (if (wrap64 (Int.tdiv a1 24) : Int).toNat ≤ 35184372088832 then (spec_l02Left.l0 k a1 (List.replicate (wrap64 (Int.tdiv a1 24) : Int).toNat 0) 0 0 a0_0 l0_1) else (none)) else (none)
theorem spec_l02Left.mono_l : ∀ k, (∀ y0 y1 y2 y3 y4 y5, LeO (spec_l02Left.l0 k y0 y1 y2 y3 y4 y5) (spec_l02Left.l0 (k + 1) y0 y1 y2 y3 y4 y5))
  | 0 => fun _ _ _ _ _ _ r h => by simp [spec_l02Left.l0] at h
  | k + 1 => by
    have ih0 := spec_l02Left.mono_l k
    · intro y0 y1 y2 y3 y4 y5
      unfold spec_l02Left.l0
      repeat' first
      | (with_reducible exact ih0 _ _ _ _ _ _)
      | (with_reducible exact spec_l02Make.mono _ _ _)
      | (with_reducible exact LeO.refl _)
      | (with_reducible exact LeO.none _)
      | (with_reducible refine LeO.ite ?_ ?_)
      | (with_reducible refine LeO.bind ?_ (fun _ => ?_))
      | exact ih0 _ _ _ _ _ _
      | exact spec_l02Make.mono _ _ _
      | exact LeO.none _
      | refine LeO.ite ?_ ?_
      | refine LeO.bind ?_ (fun _ => ?_)
theorem spec_l02Left.mono : ∀ a0 a1 a2 k, LeO (spec_l02Left.f k a0 a1 a2) (spec_l02Left.f (k + 1) a0 a1 a2) := by
  intro a0 a1 a2 k
  have ih0 := spec_l02Left.mono_l k
  unfold spec_l02Left.f
  repeat' first
      | (with_reducible exact ih0 _ _ _ _ _ _)
      | (with_reducible exact spec_l02Make.mono _ _ _)
      | (with_reducible exact LeO.refl _)
      | (with_reducible exact LeO.none _)
      | (with_reducible refine LeO.ite ?_ ?_)
      | (with_reducible refine LeO.bind ?_ (fun _ => ?_))
      | exact ih0 _ _ _ _ _ _
      | exact spec_l02Make.mono _ _ _
      | exact LeO.none _
      | refine LeO.ite ?_ ?_
      | refine LeO.bind ?_ (fun _ => ?_)
def spec_l02Left.T9 : Bool × List (List Nat × List Nat) := (true, [([], []), ([0], [0]), ([], []), ([], []), ([3], [3]), ([2, 4], [2, 4]), ([1, 5, 5], [1, 5]), ([6, 6, 0, 1, 2, 3, 4, 5, 6], [6])])
def spec_l02Left.B9 : List Nat := [0, 1, 0, 0, 8, 28, 63, 127]
theorem spec_l02Left.tab9 : rtab .any (opsOf Tryd.f106 9) = spec_l02Left.T9 := by kernel_rfl
theorem spec_l02Left.bits9 : waitsOk spec_l02Left.T9.2 spec_l02Left.B9 = true := by kernel_rfl
set_option maxHeartbeats 8000000 in
set_option maxRecDepth 100000 in
theorem spec_l02Left.calls (k : Nat) (a0_0 : Int) (A0_1 : Option Addr) (c0_1 : Nat) (l0_1 : List Int) (a1 : Int) (r1 : Int) (r2 : List Int) (w : World) (hr0_1 : Kd.C (Kd.int .i64) w A0_1 l0_1.length l0_1) (hc0_1 : l0_1.length ≤ c0_1) (h : spec_l02Left.f k a0_0 l0_1 a1 = some (r1, r2)) :
  Calls Tryd.prog 106 #[.agg #[.int .i64 a0_0, .slice A0_1 l0_1.length c0_1], .int .i64 a1] w fun e w' => ∃ v1_ : Value, e = .returned (.agg #[.int .i64 r1, v1_]) ∧ Kd.R (Kd.int .i64) 2 w' w.heap.size (fun _ => True) v1_ r2 ∧ Below w.heap.size w w' := by
 have hu26 := Tryd.underlying26; have HR0_1 := Aside0.mk hr0_1; have HC0_1 := Aside0.mk hc0_1; clear hr0_1 hc0_1; have HB := am_ (Below.refl w.heap.size w)
 have H : (if 0 ≤ (wrap64 (Int.tdiv a1 24)) then (if (wrap64 (Int.tdiv a1 24) : Int).toNat ≤ 35184372088832 then (spec_l02Left.l0 k a1 (List.replicate (wrap64 (Int.tdiv a1 24) : Int).toNat 0) 0 0 a0_0 l0_1) else (none)) else (none)) = some (r1, r2) := h
 clear h
 obtain ⟨ji3, hji3⟩ : ∃ j_ : Int, (wrap64 (Int.tdiv a1 24)) = j_ := ⟨_, rfl⟩
 replace H : (if 0 ≤ (ji3) then (if (ji3 : Int).toNat ≤ 35184372088832 then (spec_l02Left.l0 k a1 (List.replicate (ji3 : Int).toNat 0) 0 0 a0_0 l0_1) else (none)) else (none)) = some (r1, r2) := by first | (rw [hji3] at H; exact H) | (simp only [hji3] at H ⊢; exact H)
 have hji3w : (IntKind.i64.wrap (Int.tdiv a1 24)) = ji3 := (i64_w _).trans hji3
 by_cases c4 : 0 ≤ (ji3)
 ·rw [if_pos c4] at H
  have c4b0 := eq_true c4
  have c4b1 : decide (0 ≤ (ji3)) = true := decide_eq_true c4
  clear c4
  by_cases c5 : (ji3 : Int).toNat ≤ 35184372088832
  ·rw [if_pos c5] at H
   have c5b0 := eq_true c5
   have c5b1 : decide ((ji3 : Int).toNat ≤ 35184372088832) = true := decide_eq_true c5
   clear c5
   obtain ⟨y212, hy212⟩ : ∃ y_ : List Int, y_ = (List.replicate (ji3 : Int).toNat 0) := ⟨_, rfl⟩
   replace H : (spec_l02Left.l0 k a1 y212 0 0 a0_0 l0_1) = some (r1, r2) := by first | (rw [hy212]; with_reducible exact H) | (have H2_ := (Option.bind_some _ _).symm.trans H; rw [hy212]; with_reducible exact H2_) | (have H2_ := (Option.bind_some _ _).symm.trans H; with_reducible exact H2_) | with_reducible exact H | (rw [hy212]; exact H) | exact H
   have Ny212 := Aside0.mk hy212; clear hy212
   have H' := Aside0.mk H
   clear H
   go_enter Tryd.func106, Tryd.ntmps106
   go_wp2_with (first | ((with_reducible refine gate_dst (N := 2) rfl ?_); refine bx_ 2 #[.int .i64 a0_0, .slice A0_1 l0_1.length c0_1] 26 ?_; intro gb210 hg w6 hbox hb; obtain ⟨BK210, GW210, GE210⟩ := nb_ hbox hg HB; replace HB := bs_ HB hb; clear hb hbox hg) | ((with_reducible refine gate_dst (N := 4) rfl ?_); refine bx_ 4 #[.int .i64 0, .slice none 0 0] 26 ?_; intro gb211 hg w7 hbox hb; obtain ⟨BK211, GW211, GE211⟩ := nb_ hbox hg HB; obtain ⟨NB210_211, NB211_210⟩ := nn_ hg BK210; replace BK210 := bb_ BK210 hb; replace HB := bs_ HB hb; clear hb hbox hg) | ((with_reducible refine gate_dst (N := 10) rfl ?_); refine Kd.R_make (Kd.int .i64) _ 2 rfl (N := 10) rfl 22 _ _ rfl ji3 rfl rfl Tryd.underlying22 (.int .i64 0) 8 info2 rfl (by decide) (by omega) 0 (ok := fun _ => True) (okp := fun _ => True) rfl (fun _ hk => hk) trivial (of_decide_eq_true (by first | (with_reducible assumption) | assumption)) (Nat.le_trans (Nat.mul_le_mul_right _ (of_decide_eq_true (by first | (with_reducible assumption) | assumption) : ji3.toNat ≤ 35184372088832)) (by omega)) (Below.refl _ _) (Nat.le_refl _) ?_; intro v213 w8 ho9 hb hg_ hnew_; clear hg_ hnew_; (first | rw [← Ny212.out] at ho9 | (simp only [Int.reduceToNat] at ho9; rw [← Ny212.out] at ho9)); have HO214 := am_ (Kd.R_lower ho9 (below_size (bl_ HB))); replace BK210 := bb_ BK210 hb; replace BK211 := bb_ BK211 hb; replace HB := bs_ HB hb; clear hb ho9))
   go_loopg [5, 6, 7] k (fun kq v5 v6 v7 w' => ∃ (x5_1 : List Int) (x6_1 : Int) (x7_1 : Int), v6 = .int .i64 x6_1 ∧ v7 = .int .i64 x7_1 ∧ Aside0 (spec_l02Left.l0 kq a1 x5_1 x6_1 x7_1 a0_0 l0_1 = some (r1, r2)) ∧ Aside0 (kq ≤ k) ∧ Aside0 (Kd.R (Kd.int .i64) 2 w' w.heap.size (fun _ => True) v5 x5_1) ∧ Aside0 (w'.heap[gb210]? = some (.cells #[.int .i64 a0_0, (.slice A0_1 l0_1.length c0_1)] 26 (0, 0))) ∧ Aside0 (w'.heap[gb211]? = some (.cells #[.int .i64 0, (.slice none 0 0)] 26 (0, 0))) ∧ Aside0 (Below w.heap.size w w'))
   case atStart => exact ⟨(y212), (0), (0), (by first | rfl | (simp; done) | (simp [*]; done)), (by first | rfl | (simp; done) | (simp [*]; done)), H', ⟨Nat.le_refl _⟩, ⟨kr_ HO214⟩, ⟨bk_ BK210⟩, ⟨bk_ BK211⟩, ⟨bl_ HB⟩⟩
   case round =>
    clear H'; try clear c1; try clear p2; try clear c4; try clear c4b0; try clear c4b1; try clear c5; try clear c5b0; try clear c5b1; try clear p6
    obtain ⟨x5_1, x6_1, x7_1, rfl, rfl, HA, HK1, HO_5, BK210, BK211, HB⟩ := hrel
    cases gk with
    | zero => exact absurd HA.out (by simp [spec_l02Left.l0])
    | succ k1 =>
     have H := HA.out; clear HA
     simp only [spec_l02Left.l0] at H
     by_cases c10 : x7_1 < (l0_1.length : Int)
     ·rw [if_pos c10] at H
      have c10b0 : decide (x7_1 < (l0_1.length : Int)) = true := decide_eq_true c10
      clear c10
      by_cases c11 : 0 ≤ x7_1
      ·rw [if_pos c11] at H
       have c11b0 : decide (0 ≤ x7_1) = true := decide_eq_true c11
       clear c11
       obtain ⟨ji12, hji12⟩ : ∃ j_ : Int, (IntKind.u64.wrap (Int.tmod a1 24)) = j_ := ⟨_, rfl⟩
       replace H : (if 0 ≤ (ji12) then (if x5_1.length < 17592186044416 then (spec_l02Left.l0 k1 a1 (x5_1 ++ [Int.tmod (wrap64 (x6_1 + (shl .i64 (rd l0_1 x7_1) (ji12)))) 16777216]) (wrap64 (Int.tdiv (wrap64 (x6_1 + (shl .i64 (rd l0_1 x7_1) (ji12)))) 16777216)) (wrap64 (x7_1 + 1)) a0_0 l0_1) else (none)) else (none)) = some (r1, r2) := by first | (rw [hji12] at H; exact H) | (simp only [hji12] at H ⊢; exact H)
       by_cases c13 : 0 ≤ (ji12)
       ·rw [if_pos c13] at H
        have c13b0 := eq_true c13
        have c13b1 : decide (0 ≤ (ji12)) = true := decide_eq_true c13
        clear c13
        obtain ⟨ji14, hji14⟩ : ∃ j_ : Int, (shl .i64 (rd l0_1 x7_1) (ji12)) = j_ := ⟨_, rfl⟩
        replace H : (if x5_1.length < 17592186044416 then (spec_l02Left.l0 k1 a1 (x5_1 ++ [Int.tmod (wrap64 (x6_1 + (ji14))) 16777216]) (wrap64 (Int.tdiv (wrap64 (x6_1 + (ji14))) 16777216)) (wrap64 (x7_1 + 1)) a0_0 l0_1) else (none)) = some (r1, r2) := by first | (rw [hji14] at H; exact H) | (simp only [hji14] at H ⊢; exact H)
        have hji14_ : (IntKind.i64.wrap ((rd l0_1 x7_1) * 2 ^ min (ji12).toNat 64)) = ji14 := hji14
        have hji14z : (ji12) ≤ 64 → (IntKind.i64.wrap ((rd l0_1 x7_1) * 2 ^ (ji12).toNat)) = ji14 := shl_small hji14
        have hji14y : (wrap64 ((rd l0_1 x7_1) * 2 ^ min (ji12).toNat 64)) = ji14 := (i64_w _).symm.trans hji14_
        have hji14x : (ji12) ≤ 64 → (wrap64 ((rd l0_1 x7_1) * 2 ^ (ji12).toNat)) = ji14 := fun h_ => (i64_w _).symm.trans (hji14z h_)
        by_cases c15 : x5_1.length < 17592186044416
        ·rw [if_pos c15] at H
         have LMc15 := Aside0.mk c15; clear c15
         obtain ⟨y216, hy216⟩ : ∃ y_ : List Int, y_ = (x5_1 ++ [Int.tmod (wrap64 (x6_1 + (ji14))) 16777216]) := ⟨_, rfl⟩
         replace H : (spec_l02Left.l0 k1 a1 y216 (wrap64 (Int.tdiv (wrap64 (x6_1 + (ji14))) 16777216)) (wrap64 (x7_1 + 1)) a0_0 l0_1) = some (r1, r2) := by first | (rw [hy216]; with_reducible exact H) | (have H2_ := (Option.bind_some _ _).symm.trans H; rw [hy216]; with_reducible exact H2_) | (have H2_ := (Option.bind_some _ _).symm.trans H; with_reducible exact H2_) | with_reducible exact H | (rw [hy216]; exact H) | exact H
         have Ny216 := Aside0.mk hy216; clear hy216
         have H' := Aside0.mk H
         clear H; have hnb16 := NB210_211.out; have hnc16 := NB211_210.out
         obtain ⟨hcz17_0, hcz17_1, hfz17_0, hfz17_1⟩ := ck2_ BK210
         have p215 : 0 ≤ (x7_1 : Int) := of_decide_eq_true (by first | (with_reducible assumption) | assumption)
         have q215 : x7_1 < (l0_1.length : Int) := of_decide_eq_true (by first | (with_reducible assumption) | assumption)
         obtain ⟨ad215, e215, hx215_0⟩ := Kd.at_int HR0_1.out x7_1 p215 q215
         cases e215
         replace hx215_0 := (HB.out.cell (World.block_lt_of_cell? w _ hx215_0)).trans hx215_0
         replace p215 := eq_true p215
         replace q215 := eq_true q215
         go_wp2_with (first | ((with_reducible refine gate_builtin (b := .append) (xs := #[.tmp 29, .tmp 32]) rfl ?_); at_builtin; refine Kd.R_append (Kd.int .i64) (w0 := w) w.heap.size rfl (.tmp 29) (.tmp 32) 22 2 (.int .i64 0) 8 rfl Tryd.underlying22 info2 rfl (by decide) (by omega) u5 x5_1 (Int.tmod (wrap64 (x6_1 + (ji14))) 16777216) [.int .i64 (Int.tmod (wrap64 (x6_1 + (ji14))) 16777216)] (fun _ => True) (fun _ => False) rfl rfl ?aP (fun _ hk => hk.elim) ?aF ?aO ?aB ?aS ?aL ?_; (case aP => exact rfl); (case aB => exact (bl_ HB)); (case aF => exact (fun _ _ => trivial)); (case aO => exact (kr_ HO_5)); (case aS => exact (below_size (bl_ HB))); (case aL => have := LMc15.out; omega); intro v217 w18 ho hb hg hat; rw [← Ny216.out] at ho; have n0_ := am_ (blk_grown (g := gb210) (o := .cells #[.int .i64 a0_0, .slice (some ad215) l0_1.length c0_1] 26 (0, 0)) (bk_ BK210) hg (Kd.R_ne HO_5.out BK210.out (by decide))); have n1_ := am_ (blk_grown (g := gb211) (o := .cells #[.int .i64 0, .slice none 0 0] 26 (0, 0)) (bk_ BK211) hg (Kd.R_ne HO_5.out BK211.out (by decide))); have n2_ := am_ (hb); have n3_ := am_ (ho); clear BK210; clear BK211; clear HB; clear HO_5; have BK210 := n0_; have BK211 := n1_; have HB := n2_; have HO218 := n3_; clear n0_ n1_ n2_ n3_; clear ho hb hg hat))
         go_roundg k1
         case measure => have := HK1.out; omega
         case rel => exact ⟨(y216), (wrap64 (Int.tdiv (wrap64 (x6_1 + (ji14))) 16777216)), (wrap64 (x7_1 + 1)), (by first | rfl | (simp; done) | (simp only [← hji14] <;> (first | rfl | simp)) | (simp [*]; done)), (by first | rfl | (simp; done) | (simp [*]; done)), H', ⟨by have := HK1.out; omega⟩, ⟨kr_ HO218⟩, ⟨bk_ BK210⟩, ⟨bk_ BK211⟩, ⟨bl_ HB⟩⟩
        ·rw [if_neg c15] at H
         exact absurd H (by simp)
       ·rw [if_neg c13] at H
        exact absurd H (by simp)
      ·rw [if_neg c11] at H
       exact absurd H (by simp)
     ·rw [if_neg c10] at H
      have c10b0 : decide (x7_1 < (l0_1.length : Int)) = false := decide_eq_false c10
      clear c10
      by_cases c19 : x5_1.length < 17592186044416
      ·rw [if_pos c19] at H
       have LMc19 := Aside0.mk c19; clear c19
       obtain ⟨y219, hy219⟩ : ∃ y_ : List Int, y_ = (x5_1 ++ [x6_1]) := ⟨_, rfl⟩
       replace H : ((spec_l02Make.f k1 a0_0 y219).bind fun bt222 => (some (bt222.1, bt222.2))) = some (r1, r2) := by first | (rw [hy219]; with_reducible exact H) | (have H2_ := (Option.bind_some _ _).symm.trans H; rw [hy219]; with_reducible exact H2_) | (have H2_ := (Option.bind_some _ _).symm.trans H; with_reducible exact H2_) | with_reducible exact H | (rw [hy219]; exact H) | exact H
       have Ny219 := Aside0.mk hy219; clear hy219
       replace H := Option.bind_eq_some_iff.mp H
       obtain ⟨⟨t222, t223⟩, A200, H⟩ := H
       replace H : (some (t222, t223)) = some (r1, r2) := H
       have A20 := Aside0.mk A200; clear A200
       simp only [Option.some.injEq, Prod.mk.injEq] at H
       obtain ⟨rfl, rfl⟩ := H
       have hnb21 := NB210_211.out; have hnc21 := NB211_210.out
       obtain ⟨hcz22_0, hcz22_1, hfz22_0, hfz22_1⟩ := ck2_ BK210
       try go_wp2
       replace HO_5 := am_ (Kd.R_drew HO_5.out); replace BK210 := am_ (blk_drew BK210.out); replace BK211 := am_ (blk_drew BK211.out); replace HB := am_ (below_drew1 HB.out)
       refine start_ (n := 8) (S := fun w' => w'.cell? ⟨gb210, 0, none⟩ = some (.int .i64 a0_0) ∧ w'.cell? ⟨gb210, 1, none⟩ = some (.slice A0_1 l0_1.length c0_1)) (ds := []) #[false, false, false, false, false, false, false, false] (by kernel_rfl) rfl rfl ⟨bc_ BK210 0, bc_ BK210 1⟩ (fun hHeld => ?_); refine with_tabW spec_l02Left.tab9 spec_l02Left.bits9 (fun HT_ HW_ => ?_)
       generalize wr.drew = w23 at HO_5 BK210 BK211 HB hHeld ⊢
       refine pu_ #[true, false, false, false, false, false, false, false] 0 36 (any_of HT_.out (by kernel_rfl)) ?_
       refine pu_ #[true, false, true, false, false, false, false, false] 2 38 (any_of HT_.out (by kernel_rfl)) ?_
       refine pu_ #[true, false, true, true, false, false, false, false] 3 39 (any_of HT_.out (by kernel_rfl)) ?_
       refine tk_ #[true, true, true, true, false, false, false, false] 1 37 (take_ofW HT_.out HW_.out (by kernel_rfl)) hHeld ?_
       refine one_ (i := 4) (N := some 40) #[true, true, true, true, true, false, false, false] rfl rfl (one_of HT_.out (by kernel_rfl)) (by decide) (fun K hK => ?_)
       refine value_ (w1 := ?_) (v := ?_) (by rfl) rfl ?_ ?_
       rotate_left 2
       ·go_simp
        constructor
        ·rfl
        ·rfl
       refine hK.out _ _ ⟨(blk_cell (blk_alloc BK210.out _) 0).trans rfl, (blk_cell (blk_alloc BK210.out _) 1).trans rfl⟩ (fun hHeld => ?_)
       clear hK K
       refine nr_ ?_
       refine one_ (i := 5) (N := some 41) #[true, true, true, true, true, true, false, false] rfl rfl (one_of HT_.out (by kernel_rfl)) (by decide) (fun K hK => ?_)
       refine Kd.R_append_step (Kd.int .i64) (w0 := w) w.heap.size (by rfl) (.tmp 38) (.tmp 40) 22 2 (.int .i64 0) 8 rfl Tryd.underlying22 info2 rfl (by decide) (by omega) u5 x5_1 x6_1 [.int .i64 x6_1] (fun _ => True) (fun _ => False) rfl rfl ?aP (fun _ hk => hk.elim) ?aF ?aO ?aB ?aS ?aL ?_
       (case aP => exact rfl)
       (case aB => exact (bl_ HB))
       (case aF => exact (fun _ _ => trivial))
       (case aO => exact (kr_ HO_5))
       (case aS => exact (below_size (bl_ HB)))
       (case aL => have := LMc19.out; omega)
       intro v220 w24 ho hb hg hat
       rw [← Ny219.out] at ho
       have n0_ := am_ (blk_grown (g := gb210) (o := .cells #[.int .i64 a0_0, .slice A0_1 l0_1.length c0_1] 26 (0, 0)) (bk_ BK210) hg (Kd.R_ne HO_5.out BK210.out (by decide)))
       have n1_ := am_ (blk_grown (g := gb211) (o := .cells #[.int .i64 0, .slice none 0 0] 26 (0, 0)) (bk_ BK211) hg (Kd.R_ne HO_5.out BK211.out (by decide)))
       have n2_ := am_ (hb); have n3_ := am_ (ho); clear BK210 BK211 HB HO_5; have BK210 := n0_; have BK211 := n1_; have HB := n2_; have HO221 := n3_; clear n0_ n1_ n2_ n3_ ho hb hg hat
       obtain ⟨Ao25, co25, eo25⟩ := Kd.R_slice HO221.out
       (first | subst eo25 | (injection eo25 with f1_ f2_ f3_; have f4_ := f1_.symm; have f5_ := f3_.symm; clear f1_ f2_ f3_; subst f4_; subst f5_))
       refine hK.out _ _ ⟨bc_ BK210 0, bc_ BK210 1⟩ (fun hHeld => ?_)
       clear hK K
       refine nr_ ?_
       refine one_ (i := 6) (N := some 42) #[true, true, true, true, true, true, true, false] rfl rfl (one_of HT_.out (by kernel_rfl)) (by decide) (fun K hK => ?_)
       refine goes_ Tryd.func87 (by kernel_rfl) rfl #[.int .i64 a0_0, .slice Ao25 y219.length co25] (by rfl) rfl rfl ma_ ?_
       with_reducible refine (spec_l02Make.calls k1 a0_0 _ _ y219 t222 t223 _ ?side1 ?side2 A20.out).mono ?_
       (case side1 => exact cr_ HO221)
       (case side2 => exact (Kd.R_reads' HO221.out).2.1)
       rintro e w26 ⟨v224, rfl, ho0, hb⟩
       refine ⟨_, rfl, ?_⟩
       have HO225 := am_ (Kd.R_lower (Kd.R_new' ho0 (Kd.R_lt (kr_ HO221))) (below_size (bl_ HB))); replace HO221 := am_ (Kd.R_elder' (kr_ HO221) (Kd.R_base ho0) hb); replace BK210 := am_ (blk_below (bk_ BK210) hb); replace BK211 := am_ (blk_below (bk_ BK211) hb); replace HB := am_ (below_step (bl_ HB) hb); (try clear hb); (try clear hb2); (try clear hk); (try clear hi); (try clear ho0)
       obtain ⟨Ao28, co28, eo28⟩ := Kd.R_slice HO225.out
       (first | subst eo28 | (injection eo28 with f1_ f2_ f3_; have f4_ := f1_.symm; have f5_ := f3_.symm; clear f1_ f2_ f3_; subst f4_; subst f5_))
       refine hK.out _ _ ⟨bc_ BK210 0, bc_ BK210 1⟩ (fun hHeld => ?_)
       clear hK K
       refine nr_ ?_
       refine one_ (i := 7) (N := none) #[true, true, true, true, true, true, true, true] rfl rfl (one_of HT_.out (by kernel_rfl)) (by decide) (fun K hK => ?_)
       have hs27 : w26.cell? ⟨gb211, 0, none⟩ = some (.int .i64 0) := bc_ BK211 0
       have hfs27 := blk_frozen BK211.out 0; have hns27_0 := NB210_211.out; have hms27_0 := NB211_210.out
       have hs29 : w26.cell? ⟨gb211, 1, none⟩ = some (.slice none 0 0) := bc_ BK211 1
       have hfs29 := blk_frozen BK211.out 1; have hns29_0 := NB210_211.out; have hms29_0 := NB211_210.out
       refine skip_ (w1 := ?_) (by rfl) rfl ?_ ?_
       rotate_left
       ·go_simp
        rfl
       refine hK.out _ _ ⟨((cell_far (p := ⟨gb211, _, none⟩) NB210_211.out _).trans (((cell_far (p := ⟨gb211, _, none⟩) NB210_211.out _).trans (hHeld.1)))), ((cell_far (p := ⟨gb211, _, none⟩) NB210_211.out _).trans (((cell_far (p := ⟨gb211, _, none⟩) NB210_211.out _).trans (hHeld.2))))⟩ (fun hHeld => ?_)
       clear hK K
       refine done_ (done_of HT_.out (by kernel_rfl)) ?_
       try go_wp2
       refine bodyPost_ret (results_cell_row rfl _ _ gb211 26 #[.int .i64 t222, .slice Ao28 t223.length co28] (0, 0) _ rfl (bp2_ BK211) Tryd.underlying26 rfl (by kernel_rfl)) rfl ?_
       exact ⟨_, by first | rfl | (simp [errW_none, errW_some] <;> rfl) | (simp only [← hji3]; first | rfl | (simp [errW_none, errW_some] <;> rfl)) | (simp [*, errW_none, errW_some] <;> rfl), rt_ HO225 BK211, bl_ HB⟩
      ·rw [if_neg c19] at H
       exact absurd H (by simp)
  ·rw [if_neg c5] at H
   exact absurd H (by simp)
 ·rw [if_neg c4] at H
  exact absurd H (by simp)
def spec_l02Bit.f (a0_0 : Int) (l0_1 : List Int) (a1 : Int) : Option (Int) := if (wrap64 (Int.tdiv a1 24)) ≥ (l0_1.length : Int) then (some 0) else (if 0 ≤ (wrap64 (Int.tdiv a1 24)) then (if (wrap64 (Int.tdiv a1 24)) < (l0_1.length : Int) then (if 0 ≤ (IntKind.u64.wrap (Int.tmod a1 24)) then (some (Go.bits .and .i64 (shr .i64 (rd l0_1 (wrap64 (Int.tdiv a1 24))) (IntKind.u64.wrap (Int.tmod a1 24))) 1)) else (none)) else (none)) else (none))
set_option maxHeartbeats 8000000 in
set_option maxRecDepth 100000 in
theorem spec_l02Bit.calls (a0_0 : Int) (A0_1 : Option Addr) (c0_1 : Nat) (l0_1 : List Int) (a1 : Int) (r : Int) (w : World) (hr0_1 : Kd.C (Kd.int .i64) w A0_1 l0_1.length l0_1) (hc0_1 : l0_1.length ≤ c0_1) (h : spec_l02Bit.f a0_0 l0_1 a1 = some r) :
  Calls Tryd.prog 86 #[.agg #[.int .i64 a0_0, .slice A0_1 l0_1.length c0_1], .int .i64 a1] w fun e w' => e = .returned (.int .i64 r) ∧ Below w.heap.size w w' := by
 have hu26 := Tryd.underlying26; have HR0_1 := Aside0.mk hr0_1; have HC0_1 := Aside0.mk hc0_1; clear hr0_1 hc0_1; have HB := am_ (Below.refl w.heap.size w)
 have H : (if (wrap64 (Int.tdiv a1 24)) ≥ (l0_1.length : Int) then (some 0) else (if 0 ≤ (wrap64 (Int.tdiv a1 24)) then (if (wrap64 (Int.tdiv a1 24)) < (l0_1.length : Int) then (if 0 ≤ (IntKind.u64.wrap (Int.tmod a1 24)) then (some (Go.bits .and .i64 (shr .i64 (rd l0_1 (wrap64 (Int.tdiv a1 24))) (IntKind.u64.wrap (Int.tmod a1 24))) 1)) else (none)) else (none)) else (none))) = some r := h
 clear h
 by_cases c3 : (wrap64 (Int.tdiv a1 24)) ≥ (l0_1.length : Int)
 ·rw [if_pos c3] at H
  have c3b0 : decide ((l0_1.length : Int) ≤ (wrap64 (Int.tdiv a1 24))) = true := decide_eq_true c3
  clear c3; obtain rfl := Option.some.inj H
  go_enter Tryd.func86, Tryd.ntmps86
  go_wp2_with (first | ((with_reducible refine gate_dst (N := 2) rfl ?_); refine bx_ 2 #[.int .i64 a0_0, .slice A0_1 l0_1.length c0_1] 26 ?_; intro gb226 hg w4 hbox hb; obtain ⟨BK226, GW226, GE226⟩ := nb_ hbox hg HB; replace HB := bs_ HB hb; clear hb hbox hg; obtain ⟨hcz5_0, hcz5_1, hfz5_0, hfz5_1⟩ := ck2_ BK226))
  go_ret
  exact ⟨by first | rfl | (simp [errW_none, errW_some] <;> rfl) | (simp [*, errW_none, errW_some] <;> rfl), bl_ HB⟩
 ·rw [if_neg c3] at H
  have c3b0 : decide ((l0_1.length : Int) ≤ (wrap64 (Int.tdiv a1 24))) = false := decide_eq_false c3
  clear c3
  obtain ⟨ji6, hji6⟩ : ∃ j_ : Int, (wrap64 (Int.tdiv a1 24)) = j_ := ⟨_, rfl⟩
  replace H : (if 0 ≤ (ji6) then (if (ji6) < (l0_1.length : Int) then (if 0 ≤ (IntKind.u64.wrap (Int.tmod a1 24)) then (some (Go.bits .and .i64 (shr .i64 (rd l0_1 (ji6)) (IntKind.u64.wrap (Int.tmod a1 24))) 1)) else (none)) else (none)) else (none)) = some r := by first | (rw [hji6] at H; exact H) | (simp only [hji6] at H ⊢; exact H)
  (try rw [hji6] at c3b0)
  have hji6w : (IntKind.i64.wrap (Int.tdiv a1 24)) = ji6 := (i64_w _).trans hji6
  by_cases c7 : 0 ≤ (ji6)
  ·rw [if_pos c7] at H
   have c7b0 : decide (0 ≤ (ji6)) = true := decide_eq_true c7
   clear c7
   by_cases c8 : (ji6) < (l0_1.length : Int)
   ·rw [if_pos c8] at H
    have c8b0 : decide ((ji6) < (l0_1.length : Int)) = true := decide_eq_true c8
    clear c8
    obtain ⟨ji9, hji9⟩ : ∃ j_ : Int, (IntKind.u64.wrap (Int.tmod a1 24)) = j_ := ⟨_, rfl⟩
    replace H : (if 0 ≤ (ji9) then (some (Go.bits .and .i64 (shr .i64 (rd l0_1 (ji6)) (ji9)) 1)) else (none)) = some r := by first | (rw [hji9] at H; exact H) | (simp only [hji9] at H ⊢; exact H)
    by_cases c10 : 0 ≤ (ji9)
    ·rw [if_pos c10] at H
     have c10b0 := eq_true c10
     have c10b1 : decide (0 ≤ (ji9)) = true := decide_eq_true c10
     clear c10
     obtain ⟨ji11, hji11⟩ : ∃ j_ : Int, (shr .i64 (rd l0_1 (ji6)) (ji9)) = j_ := ⟨_, rfl⟩
     replace H : (some (Go.bits .and .i64 (ji11) 1)) = some r := by first | (rw [hji11] at H; exact H) | (simp only [hji11] at H ⊢; exact H)
     have hji11_ : ((rd l0_1 (ji6)) / 2 ^ min (ji9).toNat 64) = ji11 := hji11
     have hji11z : (ji9) ≤ 64 → ((rd l0_1 (ji6)) / 2 ^ (ji9).toNat) = ji11 := shr_small hji11
     obtain rfl := Option.some.inj H
     go_enter Tryd.func86, Tryd.ntmps86
     go_wp2_with (first | ((with_reducible refine gate_dst (N := 2) rfl ?_); refine bx_ 2 #[.int .i64 a0_0, .slice A0_1 l0_1.length c0_1] 26 ?_; intro gb226 hg w12 hbox hb; obtain ⟨BK226, GW226, GE226⟩ := nb_ hbox hg HB; replace HB := bs_ HB hb; clear hb hbox hg; obtain ⟨hcz13_0, hcz13_1, hfz13_0, hfz13_1⟩ := ck2_ BK226; have p227 : 0 ≤ ((ji6) : Int) := of_decide_eq_true (by first | (with_reducible assumption) | assumption); have q227 : (ji6) < (l0_1.length : Int) := of_decide_eq_true (by first | (with_reducible assumption) | assumption); obtain ⟨ad227, e227, hx227_0⟩ := Kd.at_int HR0_1.out (ji6) p227 q227; cases e227; replace hx227_0 := (HB.out.cell (World.block_lt_of_cell? w _ hx227_0)).trans hx227_0; replace p227 := eq_true p227; replace q227 := eq_true q227))
     go_ret
     exact ⟨by first | rfl | (simp [errW_none, errW_some] <;> rfl) | (simp only [← hji6, ← hji9, ← hji11]; first | rfl | (simp [errW_none, errW_some] <;> rfl)) | (simp [*, errW_none, errW_some] <;> rfl), bl_ HB⟩
    ·rw [if_neg c10] at H
     exact absurd H (by simp)
   ·rw [if_neg c8] at H
    exact absurd H (by simp)
  ·rw [if_neg c7] at H
   exact absurd H (by simp)
end Go.Proofs.YtghhphndbbefjaaDoor.X
namespace Go.Proofs.YtghhphndbbefjaaDoor.X
open Go.RowKit Go.Proofs.YtghhphndbbefjaaDoorW.PrintWords Go.Proofs.YtghhphndbbefjaaDoorW.PrintLast Go.Proofs.YtghhphndbbefjaaDoorW.PrintMore Go.Proofs.YtghhphndbbefjaaDoor.Sq
attribute [local go_sem] max2_int min2_int max_two min_two max_three min_three max_four min_four   -- for this text's walks alone
set_option linter.unusedVariables false
set_option linter.unusedSimpArgs false
def spec_l02Twos.l0 : Nat → Int → Int → List Int → Option (Int)
  | 0, _, _, _ => none
  | k + 1, x3, x229000, x229001 => (spec_l02Bit.f x229000 x229001 x3).bind fun t229 => (if t229 = 0 then (spec_l02Twos.l0 k (wrap64 (x3 + 1)) x229000 x229001) else (some x3))
def spec_l02Twos.f (k : Nat) (a0_0 : Int) (l0_1 : List Int) : Option (Int) := spec_l02Twos.l0 k 0 a0_0 l0_1
theorem spec_l02Twos.mono_l : ∀ k, (∀ y0 y1 y2, LeO (spec_l02Twos.l0 k y0 y1 y2) (spec_l02Twos.l0 (k + 1) y0 y1 y2))
  | 0 => fun _ _ _ r h => by simp [spec_l02Twos.l0] at h
  | k + 1 => by
    have ih0 := spec_l02Twos.mono_l k
    · intro y0 y1 y2
      unfold spec_l02Twos.l0
      repeat' first
      | (with_reducible exact ih0 _ _ _)
      | (with_reducible exact LeO.refl _)
      | (with_reducible exact LeO.none _)
      | (with_reducible refine LeO.ite ?_ ?_)
      | (with_reducible refine LeO.bind ?_ (fun _ => ?_))
      | exact ih0 _ _ _
      | exact LeO.none _
      | refine LeO.ite ?_ ?_
      | refine LeO.bind ?_ (fun _ => ?_)
theorem spec_l02Twos.mono : ∀ a0 a1 k, LeO (spec_l02Twos.f k a0 a1) (spec_l02Twos.f (k + 1) a0 a1) := by
  intro a0 a1 k
  have ih0 := spec_l02Twos.mono_l k
  unfold spec_l02Twos.f
  repeat' first
      | (with_reducible exact ih0 _ _ _)
      | (with_reducible exact LeO.refl _)
      | (with_reducible exact LeO.none _)
      | (with_reducible refine LeO.ite ?_ ?_)
      | (with_reducible refine LeO.bind ?_ (fun _ => ?_))
      | exact ih0 _ _ _
      | exact LeO.none _
      | refine LeO.ite ?_ ?_
      | refine LeO.bind ?_ (fun _ => ?_)
set_option maxHeartbeats 8000000 in
set_option maxRecDepth 100000 in
theorem spec_l02Twos.calls (k : Nat) (a0_0 : Int) (A0_1 : Option Addr) (c0_1 : Nat) (l0_1 : List Int) (r : Int) (w : World) (hr0_1 : Kd.C (Kd.int .i64) w A0_1 l0_1.length l0_1) (hc0_1 : l0_1.length ≤ c0_1) (h : spec_l02Twos.f k a0_0 l0_1 = some r) :
  Calls Tryd.prog 112 #[.agg #[.int .i64 a0_0, .slice A0_1 l0_1.length c0_1]] w fun e w' => e = .returned (.int .i64 r) ∧ Below w.heap.size w w' := by
 have hu26 := Tryd.underlying26; have HR0_1 := Aside0.mk hr0_1; have HC0_1 := Aside0.mk hc0_1; clear hr0_1 hc0_1; have HB := am_ (Below.refl w.heap.size w)
 have H : (spec_l02Twos.l0 k 0 a0_0 l0_1) = some r := h
 clear h
 have H' := Aside0.mk H
 clear H
 go_enter Tryd.func112, Tryd.ntmps112
 go_wp2_with (first | ((with_reducible refine gate_dst (N := 1) rfl ?_); refine bx_ 1 #[.int .i64 a0_0, .slice A0_1 l0_1.length c0_1] 26 ?_; intro gb228 hg w2 hbox hb; obtain ⟨BK228, GW228, GE228⟩ := nb_ hbox hg HB; replace HB := bs_ HB hb; clear hb hbox hg))
 go_loopg [3] k (fun kq v3 w' => ∃ (x3_1 : Int), v3 = .int .i64 x3_1 ∧ Aside0 (spec_l02Twos.l0 kq x3_1 a0_0 l0_1 = some r) ∧ Aside0 (kq ≤ k) ∧ Aside0 (w'.heap[gb228]? = some (.cells #[.int .i64 a0_0, (.slice A0_1 l0_1.length c0_1)] 26 (0, 0))) ∧ Aside0 (Below w.heap.size w w'))
 case atStart => exact ⟨(0), (by first | rfl | (simp; done) | (simp [*]; done)), H', ⟨Nat.le_refl _⟩, ⟨bk_ BK228⟩, ⟨bl_ HB⟩⟩
 case round =>
  clear H'; try clear c1; try clear p2
  obtain ⟨x3_1, rfl, HA, HK1, BK228, HB⟩ := hrel
  cases gk with
  | zero => exact absurd HA.out (by simp [spec_l02Twos.l0])
  | succ k1 =>
   have H := HA.out; clear HA
   simp only [spec_l02Twos.l0] at H
   replace H := Option.bind_eq_some_iff.mp H
   obtain ⟨t229, A30, H⟩ := H
   replace H : (if t229 = 0 then (spec_l02Twos.l0 k1 (wrap64 (x3_1 + 1)) a0_0 l0_1) else (some x3_1)) = some r := H
   have A3 := Aside0.mk A30; clear A30
   by_cases c4 : t229 = 0
   ·rw [if_pos c4] at H
    have c4b0 : (t229 == 0) = true := beq_iff_eq.mpr c4
    have c4b1 : (t229 != 0) = false := bne_eq_false_iff_eq.mpr c4
    clear c4
    have H' := Aside0.mk H
    clear H
    obtain ⟨hcz5_0, hcz5_1, hfz5_0, hfz5_1⟩ := ck2_ BK228
    go_wp2_with (first | ((with_reducible refine gate_callee (f := 86) rfl ?_); refine goesL_ (some 6) rfl rfl Tryd.func86 (by kernel_rfl) rfl #[.agg #[.int .i64 a0_0, .slice A0_1 l0_1.length c0_1], .int .i64 x3_1] rfl ma_ ?_; (with_reducible refine (spec_l02Bit.calls a0_0 _ _ l0_1 x3_1 t229 _ ?side1 ?side2 A3.out).mono ?_); (case side1 => exact cb_ HR0_1 HB); (case side2 => exact HC0_1.out); rintro e w6 ⟨rfl, hb⟩; refine ⟨_, rfl, ?_⟩; replace BK228 := bb_ BK228 hb; replace HB := bs_ HB hb; (try clear hb); (try clear hb2); (try clear hk); (try clear hi)))
    go_roundg k1
    case measure => have := HK1.out; omega
    case rel => exact ⟨(wrap64 (x3_1 + 1)), (by first | rfl | (simp; done) | (simp [*]; done)), H', ⟨by have := HK1.out; omega⟩, ⟨bk_ BK228⟩, ⟨bl_ HB⟩⟩
   ·rw [if_neg c4] at H
    have c4b0 : (t229 == 0) = false := beq_eq_false_iff_ne.mpr c4
    have c4b1 : (t229 != 0) = true := bne_iff_ne.mpr c4
    obtain rfl := Option.some.inj H
    obtain ⟨hcz7_0, hcz7_1, hfz7_0, hfz7_1⟩ := ck2_ BK228
    go_wp2_with (first | ((with_reducible refine gate_callee (f := 86) rfl ?_); refine goesL_ (some 6) rfl rfl Tryd.func86 (by kernel_rfl) rfl #[.agg #[.int .i64 a0_0, .slice A0_1 l0_1.length c0_1], .int .i64 x3_1] rfl ma_ ?_; (with_reducible refine (spec_l02Bit.calls a0_0 _ _ l0_1 x3_1 t229 _ ?side1 ?side2 A3.out).mono ?_); (case side1 => exact cb_ HR0_1 HB); (case side2 => exact HC0_1.out); rintro e w8 ⟨rfl, hb⟩; refine ⟨_, rfl, ?_⟩; replace BK228 := bb_ BK228 hb; replace HB := bs_ HB hb; (try clear hb); (try clear hb2); (try clear hk); (try clear hi)))
    go_ret
    exact ⟨by first | rfl | (simp [errW_none, errW_some] <;> rfl) | (simp [*, errW_none, errW_some] <;> rfl), bl_ HB⟩
def spec_l02Cut.l0 : Nat → Int → List Int → Int → Int → List Int → Option (Int × List Int)
  | 0, _, _, _, _, _ => none
  | k + 1, x1, x5, x6, x231000, x231001 => if x6 < (x231001.length : Int) then (if 0 ≤ x6 then (if 0 ≤ (IntKind.u64.wrap (Int.tmod x1 24)) then (if (wrap64 (x6 + 1)) < (x231001.length : Int) then (if 0 ≤ (wrap64 (x6 + 1)) then (if 0 ≤ (IntKind.u64.wrap (wrap64 (24 - (Int.tmod x1 24)))) then (if x5.length < 17592186044416 then (spec_l02Cut.l0 k x1 (x5 ++ [Int.tmod (wrap64 ((shr .i64 (rd x231001 x6) (IntKind.u64.wrap (Int.tmod x1 24))) + (shl .i64 (rd x231001 (wrap64 (x6 + 1))) (IntKind.u64.wrap (wrap64 (24 - (Int.tmod x1 24))))))) 16777216]) (wrap64 (x6 + 1)) x231000 x231001) else (none)) else (none)) else (none)) else (if x5.length < 17592186044416 then (spec_l02Cut.l0 k x1 (x5 ++ [shr .i64 (rd x231001 x6) (IntKind.u64.wrap (Int.tmod x1 24))]) (wrap64 (x6 + 1)) x231000 x231001) else (none))) else (none)) else (none)) else ((spec_l02Make.f k x231000 x5).bind fun bt243 => (some (bt243.1, bt243.2)))
def spec_l02Cut.f (k : Nat) (a0_0 : Int) (l0_1 : List Int) (a1 : Int) : Option (Int × List Int) := spec_l02Cut.l0 k a1 (([] : List Int)) (wrap64 (Int.tdiv a1 24)) a0_0 l0_1
theorem spec_l02Cut.mono_l : ∀ k, (∀ y0 y1 y2 y3 y4, LeO (spec_l02Cut.l0 k y0 y1 y2 y3 y4) (spec_l02Cut.l0 (k + 1) y0 y1 y2 y3 y4))
  | 0 => fun _ _ _ _ _ r h => by simp [spec_l02Cut.l0] at h
  | k + 1 => by
    have ih0 := spec_l02Cut.mono_l k
    · intro y0 y1 y2 y3 y4
      unfold spec_l02Cut.l0
      repeat' first
      | (with_reducible exact ih0 _ _ _ _ _)
      | (with_reducible exact spec_l02Make.mono _ _ _)
      | (with_reducible exact LeO.refl _)
      | (with_reducible exact LeO.none _)
      | (with_reducible refine LeO.ite ?_ ?_)
      | (with_reducible refine LeO.bind ?_ (fun _ => ?_))
      | exact ih0 _ _ _ _ _
      | exact spec_l02Make.mono _ _ _
      | exact LeO.none _
      | refine LeO.ite ?_ ?_
      | refine LeO.bind ?_ (fun _ => ?_)
theorem spec_l02Cut.mono : ∀ a0 a1 a2 k, LeO (spec_l02Cut.f k a0 a1 a2) (spec_l02Cut.f (k + 1) a0 a1 a2) := by
  intro a0 a1 a2 k
  have ih0 := spec_l02Cut.mono_l k
  unfold spec_l02Cut.f
  repeat' first
      | (with_reducible exact ih0 _ _ _ _ _)
      | (with_reducible exact spec_l02Make.mono _ _ _)
      | (with_reducible exact LeO.refl _)
      | (with_reducible exact LeO.none _)
      | (with_reducible refine LeO.ite ?_ ?_)
      | (with_reducible refine LeO.bind ?_ (fun _ => ?_))
      | exact ih0 _ _ _ _ _
      | exact spec_l02Make.mono _ _ _
      | exact LeO.none _
      | refine LeO.ite ?_ ?_
      | refine LeO.bind ?_ (fun _ => ?_)
set_option maxHeartbeats 8000000 in
set_option maxRecDepth 100000 in
theorem spec_l02Cut.calls (k : Nat) (a0_0 : Int) (A0_1 : Option Addr) (c0_1 : Nat) (l0_1 : List Int) (a1 : Int) (r1 : Int) (r2 : List Int) (w : World) (hr0_1 : Kd.C (Kd.int .i64) w A0_1 l0_1.length l0_1) (hc0_1 : l0_1.length ≤ c0_1) (h : spec_l02Cut.f k a0_0 l0_1 a1 = some (r1, r2)) :
  Calls Tryd.prog 113 #[.agg #[.int .i64 a0_0, .slice A0_1 l0_1.length c0_1], .int .i64 a1] w fun e w' => ∃ v1_ : Value, e = .returned (.agg #[.int .i64 r1, v1_]) ∧ Kd.R (Kd.int .i64) 2 w' w.heap.size (fun _ => True) v1_ r2 ∧ Below w.heap.size w w' := by
 have hu26 := Tryd.underlying26; have HR0_1 := Aside0.mk hr0_1; have HC0_1 := Aside0.mk hc0_1; clear hr0_1 hc0_1; have HB := am_ (Below.refl w.heap.size w)
 have H : (spec_l02Cut.l0 k a1 (([] : List Int)) (wrap64 (Int.tdiv a1 24)) a0_0 l0_1) = some (r1, r2) := h
 clear h
 obtain ⟨y232, hy232⟩ : ∃ y_ : List Int, y_ = (([] : List Int)) := ⟨_, rfl⟩
 replace H : (spec_l02Cut.l0 k a1 y232 (wrap64 (Int.tdiv a1 24)) a0_0 l0_1) = some (r1, r2) := by first | (rw [hy232]; with_reducible exact H) | (have H2_ := (Option.bind_some _ _).symm.trans H; rw [hy232]; with_reducible exact H2_) | (have H2_ := (Option.bind_some _ _).symm.trans H; with_reducible exact H2_) | with_reducible exact H | (rw [hy232]; exact H) | exact H
 have Ny232 := Aside0.mk hy232; clear hy232
 have H' := Aside0.mk H
 clear H
 go_enter Tryd.func113, Tryd.ntmps113
 go_wp2_with (first | ((with_reducible refine gate_dst (N := 2) rfl ?_); refine bx_ 2 #[.int .i64 a0_0, .slice A0_1 l0_1.length c0_1] 26 ?_; intro gb230 hg w3 hbox hb; obtain ⟨BK230, GW230, GE230⟩ := nb_ hbox hg HB; replace HB := bs_ HB hb; clear hb hbox hg) | ((with_reducible refine gate_dst (N := 4) rfl ?_); refine bx_ 4 #[.int .i64 0, .slice none 0 0] 26 ?_; intro gb231 hg w4 hbox hb; obtain ⟨BK231, GW231, GE231⟩ := nb_ hbox hg HB; obtain ⟨NB230_231, NB231_230⟩ := nn_ hg BK230; replace BK230 := bb_ BK230 hb; replace HB := bs_ HB hb; clear hb hbox hg) | ((with_reducible refine gate_dst (N := 8) rfl ?_); refine Kd.R_lit (Kd.int .i64) _ 2 ?hg (N := 8) ?hd (xs := ([] : List Int)) (inner := []) (ok := fun _ => True) (okp := fun _ => True) ?hr ?hp (fun _ hk => hk) trivial (Below.refl _ _) (Nat.le_refl _) (by simp) ?_; (case hd => rfl); (case hg => rfl); (case hr => first | (go_simp; done) | (go_simp; rfl)); (case hp => exact (Reps.none _ _)); intro v233 w5 ho6 hb hg_ hnew_; clear hg_ hnew_; (first | rw [← Ny232.out] at ho6 | (simp only [Int.reduceToNat] at ho6; rw [← Ny232.out] at ho6)); have HO234 := am_ (Kd.R_lower ho6 (below_size (bl_ HB))); replace BK230 := bb_ BK230 hb; replace BK231 := bb_ BK231 hb; replace HB := bs_ HB hb; clear hb ho6))
 go_loopg [5, 6] k (fun kq v5 v6 w' => ∃ (x5_1 : List Int) (x6_1 : Int), v6 = .int .i64 x6_1 ∧ Aside0 (spec_l02Cut.l0 kq a1 x5_1 x6_1 a0_0 l0_1 = some (r1, r2)) ∧ Aside0 (kq ≤ k) ∧ Aside0 (Kd.R (Kd.int .i64) 2 w' w.heap.size (fun _ => True) v5 x5_1) ∧ Aside0 (w'.heap[gb230]? = some (.cells #[.int .i64 a0_0, (.slice A0_1 l0_1.length c0_1)] 26 (0, 0))) ∧ Aside0 (w'.heap[gb231]? = some (.cells #[.int .i64 0, (.slice none 0 0)] 26 (0, 0))) ∧ Aside0 (Below w.heap.size w w'))
 case atStart => exact ⟨(y232), (wrap64 (Int.tdiv a1 24)), (by first | rfl | (simp; done) | (simp [*]; done)), H', ⟨Nat.le_refl _⟩, ⟨kr_ HO234⟩, ⟨bk_ BK230⟩, ⟨bk_ BK231⟩, ⟨bl_ HB⟩⟩
 case round =>
  clear H'; try clear c1; try clear p2; try clear p6
  obtain ⟨x5_1, x6_1, rfl, HA, HK1, HO_5, BK230, BK231, HB⟩ := hrel
  cases gk with
  | zero => exact absurd HA.out (by simp [spec_l02Cut.l0])
  | succ k1 =>
   have H := HA.out; clear HA
   simp only [spec_l02Cut.l0] at H
   by_cases c7 : x6_1 < (l0_1.length : Int)
   ·rw [if_pos c7] at H
    have c7b0 : decide (x6_1 < (l0_1.length : Int)) = true := decide_eq_true c7
    clear c7
    by_cases c8 : 0 ≤ x6_1
    ·rw [if_pos c8] at H
     have c8b0 : decide (0 ≤ x6_1) = true := decide_eq_true c8
     clear c8
     obtain ⟨ji9, hji9⟩ : ∃ j_ : Int, (IntKind.u64.wrap (Int.tmod a1 24)) = j_ := ⟨_, rfl⟩
     replace H : (if 0 ≤ (ji9) then (if (wrap64 (x6_1 + 1)) < (l0_1.length : Int) then (if 0 ≤ (wrap64 (x6_1 + 1)) then (if 0 ≤ (IntKind.u64.wrap (wrap64 (24 - (Int.tmod a1 24)))) then (if x5_1.length < 17592186044416 then (spec_l02Cut.l0 k1 a1 (x5_1 ++ [Int.tmod (wrap64 ((shr .i64 (rd l0_1 x6_1) (ji9)) + (shl .i64 (rd l0_1 (wrap64 (x6_1 + 1))) (IntKind.u64.wrap (wrap64 (24 - (Int.tmod a1 24))))))) 16777216]) (wrap64 (x6_1 + 1)) a0_0 l0_1) else (none)) else (none)) else (none)) else (if x5_1.length < 17592186044416 then (spec_l02Cut.l0 k1 a1 (x5_1 ++ [shr .i64 (rd l0_1 x6_1) (ji9)]) (wrap64 (x6_1 + 1)) a0_0 l0_1) else (none))) else (none)) = some (r1, r2) := by first | (rw [hji9] at H; exact H) | (simp only [hji9] at H ⊢; exact H)
     by_cases c10 : 0 ≤ (ji9)
     ·rw [if_pos c10] at H
      have c10b0 := eq_true c10
      have c10b1 : decide (0 ≤ (ji9)) = true := decide_eq_true c10
      clear c10
      obtain ⟨ji11, hji11⟩ : ∃ j_ : Int, (shr .i64 (rd l0_1 x6_1) (ji9)) = j_ := ⟨_, rfl⟩
      replace H : (if (wrap64 (x6_1 + 1)) < (l0_1.length : Int) then (if 0 ≤ (wrap64 (x6_1 + 1)) then (if 0 ≤ (IntKind.u64.wrap (wrap64 (24 - (Int.tmod a1 24)))) then (if x5_1.length < 17592186044416 then (spec_l02Cut.l0 k1 a1 (x5_1 ++ [Int.tmod (wrap64 ((ji11) + (shl .i64 (rd l0_1 (wrap64 (x6_1 + 1))) (IntKind.u64.wrap (wrap64 (24 - (Int.tmod a1 24))))))) 16777216]) (wrap64 (x6_1 + 1)) a0_0 l0_1) else (none)) else (none)) else (none)) else (if x5_1.length < 17592186044416 then (spec_l02Cut.l0 k1 a1 (x5_1 ++ [ji11]) (wrap64 (x6_1 + 1)) a0_0 l0_1) else (none))) = some (r1, r2) := by first | (rw [hji11] at H; exact H) | (simp only [hji11] at H ⊢; exact H)
      have hji11_ : ((rd l0_1 x6_1) / 2 ^ min (ji9).toNat 64) = ji11 := hji11
      have hji11z : (ji9) ≤ 64 → ((rd l0_1 x6_1) / 2 ^ (ji9).toNat) = ji11 := shr_small hji11
      by_cases c12 : (wrap64 (x6_1 + 1)) < (l0_1.length : Int)
      ·rw [if_pos c12] at H
       have c12b0 : decide ((wrap64 (x6_1 + 1)) < (l0_1.length : Int)) = true := decide_eq_true c12
       clear c12
       obtain ⟨ji13, hji13⟩ : ∃ j_ : Int, (wrap64 (x6_1 + 1)) = j_ := ⟨_, rfl⟩
       replace H : (if 0 ≤ (ji13) then (if 0 ≤ (IntKind.u64.wrap (wrap64 (24 - (Int.tmod a1 24)))) then (if x5_1.length < 17592186044416 then (spec_l02Cut.l0 k1 a1 (x5_1 ++ [Int.tmod (wrap64 ((ji11) + (shl .i64 (rd l0_1 (ji13)) (IntKind.u64.wrap (wrap64 (24 - (Int.tmod a1 24))))))) 16777216]) ji13 a0_0 l0_1) else (none)) else (none)) else (none)) = some (r1, r2) := by first | (rw [hji13] at H; exact H) | (simp only [hji13] at H ⊢; exact H)
       (try rw [hji13] at c12b0)
       have hji13w : (IntKind.i64.wrap (x6_1 + 1)) = ji13 := (i64_w _).trans hji13
       by_cases c14 : 0 ≤ (ji13)
       ·rw [if_pos c14] at H
        have c14b0 : decide (0 ≤ (ji13)) = true := decide_eq_true c14
        clear c14
        obtain ⟨ji15, hji15⟩ : ∃ j_ : Int, (IntKind.u64.wrap (wrap64 (24 - (Int.tmod a1 24)))) = j_ := ⟨_, rfl⟩
        replace H : (if 0 ≤ (ji15) then (if x5_1.length < 17592186044416 then (spec_l02Cut.l0 k1 a1 (x5_1 ++ [Int.tmod (wrap64 ((ji11) + (shl .i64 (rd l0_1 (ji13)) (ji15)))) 16777216]) ji13 a0_0 l0_1) else (none)) else (none)) = some (r1, r2) := by first | (rw [hji15] at H; exact H) | (simp only [hji15] at H ⊢; exact H)
        by_cases c16 : 0 ≤ (ji15)
        ·rw [if_pos c16] at H
         have c16b0 := eq_true c16
         have c16b1 : decide (0 ≤ (ji15)) = true := decide_eq_true c16
         clear c16
         obtain ⟨ji17, hji17⟩ : ∃ j_ : Int, (shl .i64 (rd l0_1 (ji13)) (ji15)) = j_ := ⟨_, rfl⟩
         replace H : (if x5_1.length < 17592186044416 then (spec_l02Cut.l0 k1 a1 (x5_1 ++ [Int.tmod (wrap64 ((ji11) + (ji17))) 16777216]) ji13 a0_0 l0_1) else (none)) = some (r1, r2) := by first | (rw [hji17] at H; exact H) | (simp only [hji17] at H ⊢; exact H)
         have hji17_ : (IntKind.i64.wrap ((rd l0_1 (ji13)) * 2 ^ min (ji15).toNat 64)) = ji17 := hji17
         have hji17z : (ji15) ≤ 64 → (IntKind.i64.wrap ((rd l0_1 (ji13)) * 2 ^ (ji15).toNat)) = ji17 := shl_small hji17
         have hji17y : (wrap64 ((rd l0_1 (ji13)) * 2 ^ min (ji15).toNat 64)) = ji17 := (i64_w _).symm.trans hji17_
         have hji17x : (ji15) ≤ 64 → (wrap64 ((rd l0_1 (ji13)) * 2 ^ (ji15).toNat)) = ji17 := fun h_ => (i64_w _).symm.trans (hji17z h_)
         by_cases c18 : x5_1.length < 17592186044416
         ·rw [if_pos c18] at H
          have LMc18 := Aside0.mk c18; clear c18
          obtain ⟨y237, hy237⟩ : ∃ y_ : List Int, y_ = (x5_1 ++ [Int.tmod (wrap64 ((ji11) + (ji17))) 16777216]) := ⟨_, rfl⟩
          replace H : (spec_l02Cut.l0 k1 a1 y237 ji13 a0_0 l0_1) = some (r1, r2) := by first | (rw [hy237]; with_reducible exact H) | (have H2_ := (Option.bind_some _ _).symm.trans H; rw [hy237]; with_reducible exact H2_) | (have H2_ := (Option.bind_some _ _).symm.trans H; with_reducible exact H2_) | with_reducible exact H | (rw [hy237]; exact H) | exact H
          have Ny237 := Aside0.mk hy237; clear hy237
          have H' := Aside0.mk H
          clear H; have hnb19 := NB230_231.out; have hnc19 := NB231_230.out
          obtain ⟨hcz20_0, hcz20_1, hfz20_0, hfz20_1⟩ := ck2_ BK230
          have p235 : 0 ≤ (x6_1 : Int) := of_decide_eq_true (by first | (with_reducible assumption) | assumption)
          have q235 : x6_1 < (l0_1.length : Int) := of_decide_eq_true (by first | (with_reducible assumption) | assumption)
          obtain ⟨ad235, e235, hx235_0⟩ := Kd.at_int HR0_1.out x6_1 p235 q235
          cases e235
          replace hx235_0 := (HB.out.cell (World.block_lt_of_cell? w _ hx235_0)).trans hx235_0
          replace p235 := eq_true p235
          replace q235 := eq_true q235
          have p236 : 0 ≤ ((ji13) : Int) := of_decide_eq_true (by first | (with_reducible assumption) | assumption)
          have q236 : (ji13) < (l0_1.length : Int) := of_decide_eq_true (by first | (with_reducible assumption) | assumption)
          obtain ⟨ad236, e236, hx236_0⟩ := Kd.at_int HR0_1.out (ji13) p236 q236
          obtain rfl : ad235 = ad236 := (by injection e236)
          replace hx236_0 := (HB.out.cell (World.block_lt_of_cell? w _ hx236_0)).trans hx236_0
          replace p236 := eq_true p236
          replace q236 := eq_true q236
          go_wp2_with (first | ((with_reducible refine gate_builtin (b := .append) (xs := #[.tmp 47, .tmp 49]) rfl ?_); at_builtin; refine Kd.R_append (Kd.int .i64) (w0 := w) w.heap.size rfl (.tmp 47) (.tmp 49) 22 2 (.int .i64 0) 8 rfl Tryd.underlying22 info2 rfl (by decide) (by omega) u5 x5_1 (Int.tmod (wrap64 ((ji11) + (ji17))) 16777216) [.int .i64 (Int.tmod (wrap64 ((ji11) + (ji17))) 16777216)] (fun _ => True) (fun _ => False) rfl rfl ?aP (fun _ hk => hk.elim) ?aF ?aO ?aB ?aS ?aL ?_; (case aP => exact rfl); (case aB => exact (bl_ HB)); (case aF => exact (fun _ _ => trivial)); (case aO => exact (kr_ HO_5)); (case aS => exact (below_size (bl_ HB))); (case aL => have := LMc18.out; omega); intro v238 w21 ho hb hg hat; rw [← Ny237.out] at ho; have n0_ := am_ (blk_grown (g := gb230) (o := .cells #[.int .i64 a0_0, .slice (some ad235) l0_1.length c0_1] 26 (0, 0)) (bk_ BK230) hg (Kd.R_ne HO_5.out BK230.out (by decide))); have n1_ := am_ (blk_grown (g := gb231) (o := .cells #[.int .i64 0, .slice none 0 0] 26 (0, 0)) (bk_ BK231) hg (Kd.R_ne HO_5.out BK231.out (by decide))); have n2_ := am_ (hb); have n3_ := am_ (ho); clear BK230; clear BK231; clear HB; clear HO_5; have BK230 := n0_; have BK231 := n1_; have HB := n2_; have HO239 := n3_; clear n0_ n1_ n2_ n3_; clear ho hb hg hat))
          go_roundg k1
          case measure => have := HK1.out; omega
          case rel => exact ⟨(y237), (ji13), (by first | rfl | (simp; done) | (simp only [← hji13] <;> (first | rfl | simp)) | (simp [*]; done)), H', ⟨by have := HK1.out; omega⟩, ⟨kr_ HO239⟩, ⟨bk_ BK230⟩, ⟨bk_ BK231⟩, ⟨bl_ HB⟩⟩
         ·rw [if_neg c18] at H
          exact absurd H (by simp)
        ·rw [if_neg c16] at H
         exact absurd H (by simp)
       ·rw [if_neg c14] at H
        exact absurd H (by simp)
      ·rw [if_neg c12] at H
       have c12b0 : decide ((wrap64 (x6_1 + 1)) < (l0_1.length : Int)) = false := decide_eq_false c12
       clear c12
       by_cases c22 : x5_1.length < 17592186044416
       ·rw [if_pos c22] at H
        have LMc22 := Aside0.mk c22; clear c22
        obtain ⟨y240, hy240⟩ : ∃ y_ : List Int, y_ = (x5_1 ++ [ji11]) := ⟨_, rfl⟩
        replace H : (spec_l02Cut.l0 k1 a1 y240 (wrap64 (x6_1 + 1)) a0_0 l0_1) = some (r1, r2) := by first | (rw [hy240]; with_reducible exact H) | (have H2_ := (Option.bind_some _ _).symm.trans H; rw [hy240]; with_reducible exact H2_) | (have H2_ := (Option.bind_some _ _).symm.trans H; with_reducible exact H2_) | with_reducible exact H | (rw [hy240]; exact H) | exact H
        have Ny240 := Aside0.mk hy240; clear hy240
        have H' := Aside0.mk H
        clear H; have hnb23 := NB230_231.out; have hnc23 := NB231_230.out
        obtain ⟨hcz24_0, hcz24_1, hfz24_0, hfz24_1⟩ := ck2_ BK230
        have p235 : 0 ≤ (x6_1 : Int) := of_decide_eq_true (by first | (with_reducible assumption) | assumption)
        have q235 : x6_1 < (l0_1.length : Int) := of_decide_eq_true (by first | (with_reducible assumption) | assumption)
        obtain ⟨ad235, e235, hx235_0⟩ := Kd.at_int HR0_1.out x6_1 p235 q235
        cases e235
        replace hx235_0 := (HB.out.cell (World.block_lt_of_cell? w _ hx235_0)).trans hx235_0
        replace p235 := eq_true p235
        replace q235 := eq_true q235
        go_wp2_with (first | ((with_reducible refine gate_builtin (b := .append) (xs := #[.tmp 47, .tmp 49]) rfl ?_); at_builtin; refine Kd.R_append (Kd.int .i64) (w0 := w) w.heap.size rfl (.tmp 47) (.tmp 49) 22 2 (.int .i64 0) 8 rfl Tryd.underlying22 info2 rfl (by decide) (by omega) u5 x5_1 ji11 [.int .i64 ji11] (fun _ => True) (fun _ => False) rfl rfl ?aP (fun _ hk => hk.elim) ?aF ?aO ?aB ?aS ?aL ?_; (case aP => exact rfl); (case aB => exact (bl_ HB)); (case aF => exact (fun _ _ => trivial)); (case aO => exact (kr_ HO_5)); (case aS => exact (below_size (bl_ HB))); (case aL => have := LMc22.out; omega); intro v241 w25 ho hb hg hat; rw [← Ny240.out] at ho; have n0_ := am_ (blk_grown (g := gb230) (o := .cells #[.int .i64 a0_0, .slice (some ad235) l0_1.length c0_1] 26 (0, 0)) (bk_ BK230) hg (Kd.R_ne HO_5.out BK230.out (by decide))); have n1_ := am_ (blk_grown (g := gb231) (o := .cells #[.int .i64 0, .slice none 0 0] 26 (0, 0)) (bk_ BK231) hg (Kd.R_ne HO_5.out BK231.out (by decide))); have n2_ := am_ (hb); have n3_ := am_ (ho); clear BK230; clear BK231; clear HB; clear HO_5; have BK230 := n0_; have BK231 := n1_; have HB := n2_; have HO242 := n3_; clear n0_ n1_ n2_ n3_; clear ho hb hg hat))
        go_roundg k1
        case measure => have := HK1.out; omega
        case rel => exact ⟨(y240), (wrap64 (x6_1 + 1)), (by first | rfl | (simp; done) | (simp [*]; done)), H', ⟨by have := HK1.out; omega⟩, ⟨kr_ HO242⟩, ⟨bk_ BK230⟩, ⟨bk_ BK231⟩, ⟨bl_ HB⟩⟩
       ·rw [if_neg c22] at H
        exact absurd H (by simp)
     ·rw [if_neg c10] at H
      exact absurd H (by simp)
    ·rw [if_neg c8] at H
     exact absurd H (by simp)
   ·rw [if_neg c7] at H
    have c7b0 : decide (x6_1 < (l0_1.length : Int)) = false := decide_eq_false c7
    clear c7
    replace H := Option.bind_eq_some_iff.mp H
    obtain ⟨⟨t243, t244⟩, A260, H⟩ := H
    replace H : (some (t243, t244)) = some (r1, r2) := H
    have A26 := Aside0.mk A260; clear A260
    simp only [Option.some.injEq, Prod.mk.injEq] at H
    obtain ⟨rfl, rfl⟩ := H
    have hnb27 := NB230_231.out; have hnc27 := NB231_230.out
    obtain ⟨hcz28_0, hcz28_1, hfz28_0, hfz28_1⟩ := ck2_ BK230
    obtain ⟨Ao29, co29, eo29⟩ := Kd.R_slice HO_5.out
    subst eo29
    go_wp2_with (first | ((with_reducible refine gate_callee (f := 87) rfl ?_); refine goesL_ (some 54) rfl rfl Tryd.func87 (by kernel_rfl) rfl #[.int .i64 a0_0, .slice Ao29 x5_1.length co29] rfl ma_ ?_; (with_reducible refine (spec_l02Make.calls k1 a0_0 _ _ x5_1 t243 t244 _ ?side1 ?side2 A26.out).mono ?_); (case side1 => exact cr_ HO_5); (case side2 => exact (Kd.R_reads' HO_5.out).2.1); rintro e w30 ⟨v245, rfl, ho0, hb⟩; refine ⟨_, rfl, ?_⟩; have HO246 := am_ (Kd.R_lower (Kd.R_new' ho0 (Kd.R_lt (kr_ HO_5))) (below_size (bl_ HB))); replace HO_5 := am_ (Kd.R_elder' (kr_ HO_5) (Kd.R_base ho0) hb); replace BK230 := bb_ BK230 hb; replace BK231 := bb_ BK231 hb; replace HB := bs_ HB hb; (try clear hb); (try clear hb2); (try clear hk); (try clear hi); (try clear ho0); obtain ⟨hcz31_0, hcz31_1, hfz31_0, hfz31_1⟩ := ck2_ BK231; obtain ⟨Ao32, co32, eo32⟩ := Kd.R_slice HO246.out; subst eo32))
    refine bodyPost_ret (results_cell_row rfl _ _ gb231 26 #[.int .i64 t243, .slice Ao32 t244.length co32] (0, 0) _ rfl (bp2_ BK231) Tryd.underlying26 rfl (by kernel_rfl)) rfl ?_
    exact ⟨_, by first | rfl | (simp [errW_none, errW_some] <;> rfl) | (simp [*, errW_none, errW_some] <;> rfl), rt_ HO246 BK231, bl_ HB⟩
def spec_l03Make.f (k : Nat) (a0_0 : Int) (l0_1 : List Int) (a1 : Int) : Option (Int × List Int × Int) := if a0_0 = 0 then (some (0, ([] : List Int), 0)) else ((spec_l02Twos.f k a0_0 l0_1).bind fun t249 => ((spec_l02Cut.f k a0_0 l0_1 t249).bind fun bt250 => (some (bt250.1, bt250.2, wrap64 (a1 + t249)))))
theorem spec_l03Make.mono : ∀ a0 a1 a2 k, LeO (spec_l03Make.f k a0 a1 a2) (spec_l03Make.f (k + 1) a0 a1 a2) := by
  intro a0 a1 a2 k
  unfold spec_l03Make.f
  repeat' first
      | (with_reducible exact spec_l02Cut.mono _ _ _ _)
      | (with_reducible exact spec_l02Twos.mono _ _ _)
      | (with_reducible exact LeO.refl _)
      | (with_reducible exact LeO.none _)
      | (with_reducible refine LeO.ite ?_ ?_)
      | (with_reducible refine LeO.bind ?_ (fun _ => ?_))
      | exact spec_l02Cut.mono _ _ _ _
      | exact spec_l02Twos.mono _ _ _
      | exact LeO.none _
      | refine LeO.ite ?_ ?_
      | refine LeO.bind ?_ (fun _ => ?_)
set_option maxHeartbeats 8000000 in
set_option maxRecDepth 100000 in
theorem spec_l03Make.calls (k : Nat) (a0_0 : Int) (A0_1 : Option Addr) (c0_1 : Nat) (l0_1 : List Int) (a1 : Int) (r1 : Int) (r2 : List Int) (r3 : Int) (w : World) (hr0_1 : Kd.C (Kd.int .i64) w A0_1 l0_1.length l0_1) (hc0_1 : l0_1.length ≤ c0_1) (h : spec_l03Make.f k a0_0 l0_1 a1 = some (r1, r2, r3)) :
  Calls Tryd.prog 118 #[.agg #[.int .i64 a0_0, .slice A0_1 l0_1.length c0_1], .int .i64 a1] w fun e w' => ∃ v1_ : Value, e = .returned (.agg #[.int .i64 r1, v1_, .int .i64 r3]) ∧ Kd.R (Kd.int .i64) 2 w' w.heap.size (fun _ => True) v1_ r2 ∧ Below w.heap.size w w' := by
 have hu26 := Tryd.underlying26; have hu45 := Tryd.underlying45; have HR0_1 := Aside0.mk hr0_1; have HC0_1 := Aside0.mk hc0_1; clear hr0_1 hc0_1; have HB := am_ (Below.refl w.heap.size w)
 have H : (if a0_0 = 0 then (some (0, ([] : List Int), 0)) else ((spec_l02Twos.f k a0_0 l0_1).bind fun t249 => ((spec_l02Cut.f k a0_0 l0_1 t249).bind fun bt250 => (some (bt250.1, bt250.2, wrap64 (a1 + t249)))))) = some (r1, r2, r3) := h
 clear h
 by_cases c3 : a0_0 = 0
 ·rw [if_pos c3] at H
  have c3b0 : (a0_0 == 0) = true := beq_iff_eq.mpr c3
  have c3b1 : (a0_0 != 0) = false := bne_eq_false_iff_eq.mpr c3
  clear c3
  simp only [Option.some.injEq, Prod.mk.injEq] at H
  obtain ⟨rfl, rfl, rfl⟩ := H
  go_enter Tryd.func118, Tryd.ntmps118
  go_wp2_with (first | ((with_reducible refine gate_dst (N := 2) rfl ?_); refine bx_ 2 #[.int .i64 a0_0, .slice A0_1 l0_1.length c0_1] 26 ?_; intro gb247 hg w4 hbox hb; obtain ⟨BK247, GW247, GE247⟩ := nb_ hbox hg HB; replace HB := bs_ HB hb; clear hb hbox hg) | ((with_reducible refine gate_dst (N := 4) rfl ?_); refine bx_ 4 #[.int .i64 0, .slice none 0 0, .int .i64 0] 45 ?_; intro gb248 hg w5 hbox hb; obtain ⟨BK248, GW248, GE248⟩ := nb_ hbox hg HB; obtain ⟨NB247_248, NB248_247⟩ := nn_ hg BK247; replace BK247 := bb_ BK247 hb; replace HB := bs_ HB hb; clear hb hbox hg; have hnb6 := NB247_248.out; have hnc6 := NB248_247.out; obtain ⟨hcz7_0, hcz7_1, hfz7_0, hfz7_1⟩ := ck2_ BK247; obtain ⟨hcz8_0, hcz8_1, hcz8_2, hfz8_0, hfz8_1, hfz8_2⟩ := ck3_ BK248))
  refine bodyPost_ret (results_cell_row rfl _ _ gb248 45 #[.int .i64 0, .slice none 0 0, .int .i64 0] (0, 0) _ rfl (bp3_ BK248) Tryd.underlying45 rfl (by kernel_rfl)) rfl ?_
  exact ⟨_, by first | rfl | (simp [errW_none, errW_some] <;> rfl) | (simp [*, errW_none, errW_some] <;> rfl), by first | exact Kd.R_nil _ _ _ _ _ | exact Kd.N_nil _ _ _ _ _ | exact Kd.V_nil _ _ _ _ _ | exact Kd.Q_nil _ _ _ _ _ | exact Kd.S_nil _ _ _ _ _, bl_ HB⟩
 ·rw [if_neg c3] at H
  have c3b0 : (a0_0 == 0) = false := beq_eq_false_iff_ne.mpr c3
  have c3b1 : (a0_0 != 0) = true := bne_iff_ne.mpr c3
  replace H := Option.bind_eq_some_iff.mp H
  obtain ⟨t249, A90, H⟩ := H
  replace H : ((spec_l02Cut.f k a0_0 l0_1 t249).bind fun bt250 => (some (bt250.1, bt250.2, wrap64 (a1 + t249)))) = some (r1, r2, r3) := H
  have A9 := Aside0.mk A90; clear A90
  replace H := Option.bind_eq_some_iff.mp H
  obtain ⟨⟨t250, t251⟩, A100, H⟩ := H
  replace H : (some (t250, t251, wrap64 (a1 + t249))) = some (r1, r2, r3) := H
  have A10 := Aside0.mk A100; clear A100
  simp only [Option.some.injEq, Prod.mk.injEq] at H
  obtain ⟨rfl, rfl, rfl⟩ := H
  go_enter Tryd.func118, Tryd.ntmps118
  go_wp2_with (first | ((with_reducible refine gate_dst (N := 2) rfl ?_); refine bx_ 2 #[.int .i64 a0_0, .slice A0_1 l0_1.length c0_1] 26 ?_; intro gb247 hg w11 hbox hb; obtain ⟨BK247, GW247, GE247⟩ := nb_ hbox hg HB; replace HB := bs_ HB hb; clear hb hbox hg) | ((with_reducible refine gate_dst (N := 4) rfl ?_); refine bx_ 4 #[.int .i64 0, .slice none 0 0, .int .i64 0] 45 ?_; intro gb248 hg w12 hbox hb; obtain ⟨BK248, GW248, GE248⟩ := nb_ hbox hg HB; obtain ⟨NB247_248, NB248_247⟩ := nn_ hg BK247; replace BK247 := bb_ BK247 hb; replace HB := bs_ HB hb; clear hb hbox hg; have hnb13 := NB247_248.out; have hnc13 := NB248_247.out; obtain ⟨hcz14_0, hcz14_1, hfz14_0, hfz14_1⟩ := ck2_ BK247) | ((with_reducible refine gate_callee (f := 112) rfl ?_); refine goesL_ (some 11) rfl rfl Tryd.func112 (by kernel_rfl) rfl #[.agg #[.int .i64 a0_0, .slice A0_1 l0_1.length c0_1]] rfl ma_ ?_; (with_reducible refine (spec_l02Twos.calls k a0_0 _ _ l0_1 t249 _ ?side1 ?side2 A9.out).mono ?_); (case side1 => exact cb_ HR0_1 HB); (case side2 => exact HC0_1.out); rintro e w15 ⟨rfl, hb⟩; refine ⟨_, rfl, ?_⟩; replace BK247 := bb_ BK247 hb; replace BK248 := bb_ BK248 hb; replace HB := bs_ HB hb; (try clear hb); (try clear hb2); (try clear hk); (try clear hi); obtain ⟨hcz16_0, hcz16_1, hfz16_0, hfz16_1⟩ := ck2_ BK247) | ((with_reducible refine gate_callee (f := 113) rfl ?_); refine goesL_ (some 14) rfl rfl Tryd.func113 (by kernel_rfl) rfl #[.agg #[.int .i64 a0_0, .slice A0_1 l0_1.length c0_1], .int .i64 t249] rfl ma_ ?_; (with_reducible refine (spec_l02Cut.calls k a0_0 _ _ l0_1 t249 t250 t251 _ ?side1 ?side2 A10.out).mono ?_); (case side1 => exact cb_ HR0_1 HB); (case side2 => exact HC0_1.out); rintro e w17 ⟨v252, rfl, ho0, hb⟩; refine ⟨_, rfl, ?_⟩; have HO253 := am_ (Kd.R_lower ho0 (below_size (bl_ HB))); replace BK247 := bb_ BK247 hb; replace BK248 := bb_ BK248 hb; replace HB := bs_ HB hb; (try clear hb); (try clear hb2); (try clear hk); (try clear hi); (try clear ho0); obtain ⟨Ao18, co18, eo18⟩ := Kd.R_slice HO253.out; subst eo18; obtain ⟨hcz19_0, hcz19_1, hcz19_2, hfz19_0, hfz19_1, hfz19_2⟩ := ck3_ BK248))
  refine bodyPost_ret (results_cell_row rfl _ _ gb248 45 #[.int .i64 t250, .slice Ao18 t251.length co18, .int .i64 (wrap64 (a1 + t249))] (0, 0) _ rfl (bp3_ BK248) Tryd.underlying45 rfl (by kernel_rfl)) rfl ?_
  exact ⟨_, by first | rfl | (simp [errW_none, errW_some] <;> rfl) | (simp [*, errW_none, errW_some] <;> rfl), by (with_reducible repeat (first | apply Kd.R_alloc | apply Kd.R_drewN | apply Kd.R_drew)); exact Kd.R_mono (Kd.R_far (p := ⟨gb248, 2, none⟩) (Kd.R_far (p := ⟨gb248, 1, none⟩) (Kd.R_far (p := ⟨gb248, 0, none⟩) (Kd.R_types HO253.out BK248.out (by decide)) (fun _ hk => hk.2) (.int .i64 t250)) (fun _ hk => hk.2) (.slice Ao18 t251.length co18)) (fun _ hk => hk.2) (.int .i64 (wrap64 (a1 + t249)))) (fun _ hk => trivial), bl_ HB⟩
def spec_l03Add.f (k : Nat) (a0_0 : Int) (l0_1 : List Int) (a0_2 : Int) (a1_0 : Int) (l1_1 : List Int) (a1_2 : Int) : Option (Int × List Int × Int) := if a0_0 = 0 then ((spec_l03Make.f k a1_0 l1_1 a1_2).bind fun bt257 => (some (bt257.1, bt257.2.1, bt257.2.2))) else (if a1_0 = 0 then ((spec_l03Make.f k a0_0 l0_1 a0_2).bind fun bt262 => (some (bt262.1, bt262.2.1, bt262.2.2))) else ((spec_l02Left.f k a0_0 l0_1 (wrap64 (a0_2 - (mn a0_2 a1_2)))).bind fun bt267 => ((spec_l02Left.f k a1_0 l1_1 (wrap64 (a1_2 - (mn a0_2 a1_2)))).bind fun bt271 => ((spec_l02Add.f k bt267.1 bt267.2 bt271.1 bt271.2).bind fun bt275 => ((spec_l03Make.f k bt275.1 bt275.2 (mn a0_2 a1_2)).bind fun bt279 => (some (bt279.1, bt279.2.1, bt279.2.2)))))))
theorem spec_l03Add.mono : ∀ a0 a1 a2 a3 a4 a5 k, LeO (spec_l03Add.f k a0 a1 a2 a3 a4 a5) (spec_l03Add.f (k + 1) a0 a1 a2 a3 a4 a5) := by
  intro a0 a1 a2 a3 a4 a5 k
  unfold spec_l03Add.f
  repeat' first
      | (with_reducible exact spec_l02Add.mono _ _ _ _ _)
      | (with_reducible exact spec_l02Left.mono _ _ _ _)
      | (with_reducible exact spec_l03Make.mono _ _ _ _)
      | (with_reducible exact LeO.refl _)
      | (with_reducible exact LeO.none _)
      | (with_reducible refine LeO.ite ?_ ?_)
      | (with_reducible refine LeO.bind ?_ (fun _ => ?_))
      | exact spec_l02Add.mono _ _ _ _ _
      | exact spec_l02Left.mono _ _ _ _
      | exact spec_l03Make.mono _ _ _ _
      | exact LeO.none _
      | refine LeO.ite ?_ ?_
      | refine LeO.bind ?_ (fun _ => ?_)
def spec_l03Add.T6 : Bool × List (List Nat × List Nat) := (true, [([], []), ([0], [0]), ([], []), ([2], [2]), ([], []), ([3, 4], [3, 4]), ([1, 5], [1, 5]), ([], []), ([7], [7]), ([], []), ([9], [9]), ([], []), ([10, 11], [10, 11]), ([8, 12, 6], [8, 12]), ([6, 13, 13], [6, 13]), ([], []), ([14, 15, 14], [14, 15]), ([16, 16, 0, 1, 2, 3, 4, 5, 6, 7, 8, 9, 10, 11, 12, 13, 14, 15, 16], [16])])
def spec_l03Add.B6 : List Nat := [0, 1, 0, 4, 0, 28, 63, 0, 128, 0, 512, 0, 3584, 8191, 16383, 0, 65535, 131071]
theorem spec_l03Add.tab6 : rtab .any (opsOf Tryd.f115 6) = spec_l03Add.T6 := by kernel_rfl
theorem spec_l03Add.bits6 : waitsOk spec_l03Add.T6.2 spec_l03Add.B6 = true := by kernel_rfl
set_option maxHeartbeats 8000000 in
set_option maxRecDepth 100000 in
theorem spec_l03Add.calls (k : Nat) (a0_0 : Int) (A0_1 : Option Addr) (c0_1 : Nat) (l0_1 : List Int) (a0_2 : Int) (a1_0 : Int) (A1_1 : Option Addr) (c1_1 : Nat) (l1_1 : List Int) (a1_2 : Int) (r1 : Int) (r2 : List Int) (r3 : Int) (w : World) (hr0_1 : Kd.C (Kd.int .i64) w A0_1 l0_1.length l0_1) (hc0_1 : l0_1.length ≤ c0_1) (hr1_1 : Kd.C (Kd.int .i64) w A1_1 l1_1.length l1_1) (hc1_1 : l1_1.length ≤ c1_1) (h : spec_l03Add.f k a0_0 l0_1 a0_2 a1_0 l1_1 a1_2 = some (r1, r2, r3)) :
  Calls Tryd.prog 115 #[.agg #[.int .i64 a0_0, .slice A0_1 l0_1.length c0_1, .int .i64 a0_2], .agg #[.int .i64 a1_0, .slice A1_1 l1_1.length c1_1, .int .i64 a1_2]] w fun e w' => ∃ v1_ : Value, e = .returned (.agg #[.int .i64 r1, v1_, .int .i64 r3]) ∧ Kd.R (Kd.int .i64) 2 w' w.heap.size (fun _ => True) v1_ r2 ∧ Below w.heap.size w w' := by
 have hu45 := Tryd.underlying45; have hu26 := Tryd.underlying26; have HR0_1 := Aside0.mk hr0_1; have HC0_1 := Aside0.mk hc0_1; clear hr0_1 hc0_1; have HR1_1 := Aside0.mk hr1_1; have HC1_1 := Aside0.mk hc1_1; clear hr1_1 hc1_1; have HB := am_ (Below.refl w.heap.size w)
 have H : (if a0_0 = 0 then ((spec_l03Make.f k a1_0 l1_1 a1_2).bind fun bt257 => (some (bt257.1, bt257.2.1, bt257.2.2))) else (if a1_0 = 0 then ((spec_l03Make.f k a0_0 l0_1 a0_2).bind fun bt262 => (some (bt262.1, bt262.2.1, bt262.2.2))) else ((spec_l02Left.f k a0_0 l0_1 (wrap64 (a0_2 - (mn a0_2 a1_2)))).bind fun bt267 => ((spec_l02Left.f k a1_0 l1_1 (wrap64 (a1_2 - (mn a0_2 a1_2)))).bind fun bt271 => ((spec_l02Add.f k bt267.1 bt267.2 bt271.1 bt271.2).bind fun bt275 => ((spec_l03Make.f k bt275.1 bt275.2 (mn a0_2 a1_2)).bind fun bt279 => (some (bt279.1, bt279.2.1, bt279.2.2)))))))) = some (r1, r2, r3) := h
 clear h
 by_cases c3 : a0_0 = 0
 ·rw [if_pos c3] at H
  have c3b0 : (a0_0 == 0) = true := beq_iff_eq.mpr c3
  have c3b1 : (a0_0 != 0) = false := bne_eq_false_iff_eq.mpr c3
  clear c3
  replace H := Option.bind_eq_some_iff.mp H
  obtain ⟨⟨t257, t258, t261⟩, A40, H⟩ := H
  replace H : (some (t257, t258, t261)) = some (r1, r2, r3) := H
  have A4 := Aside0.mk A40; clear A40
  simp only [Option.some.injEq, Prod.mk.injEq] at H
  obtain ⟨rfl, rfl, rfl⟩ := H
  go_enter Tryd.func115, Tryd.ntmps115
  go_wp2_with (first | ((with_reducible refine gate_dst (N := 2) rfl ?_); refine bx_ 2 #[.int .i64 a0_0, .slice A0_1 l0_1.length c0_1, .int .i64 a0_2] 45 ?_; intro gb254 hg w5 hbox hb; obtain ⟨BK254, GW254, GE254⟩ := nb_ hbox hg HB; replace HB := bs_ HB hb; clear hb hbox hg) | ((with_reducible refine gate_dst (N := 3) rfl ?_); refine bx_ 3 #[.int .i64 a1_0, .slice A1_1 l1_1.length c1_1, .int .i64 a1_2] 45 ?_; intro gb255 hg w6 hbox hb; obtain ⟨BK255, GW255, GE255⟩ := nb_ hbox hg HB; obtain ⟨NB254_255, NB255_254⟩ := nn_ hg BK254; replace BK254 := bb_ BK254 hb; replace HB := bs_ HB hb; clear hb hbox hg) | ((with_reducible refine gate_dst (N := 4) rfl ?_); refine bx_ 4 #[.int .i64 0, .slice none 0 0, .int .i64 0] 45 ?_; intro gb256 hg w7 hbox hb; obtain ⟨BK256, GW256, GE256⟩ := nb_ hbox hg HB; obtain ⟨NB254_256, NB256_254⟩ := nn_ hg BK254; obtain ⟨NB255_256, NB256_255⟩ := nn_ hg BK255; replace BK254 := bb_ BK254 hb; replace BK255 := bb_ BK255 hb; replace HB := bs_ HB hb; clear hb hbox hg; have hnb8 := NB254_255.out; have hnc8 := NB255_254.out; have hnb9 := NB254_256.out; have hnc9 := NB256_254.out; obtain ⟨hcz10_0, hcz10_1, hcz10_2, hfz10_0, hfz10_1, hfz10_2⟩ := ck3_ BK254; have hnb11 := NB255_256.out; have hnc11 := NB256_255.out; obtain ⟨hcz12_0, hcz12_1, hcz12_2, hfz12_0, hfz12_1, hfz12_2⟩ := ck3_ BK255) | ((with_reducible refine gate_callee (f := 118) rfl ?_); refine goesL_ (some 14) rfl rfl Tryd.func118 (by kernel_rfl) rfl #[.agg #[.int .i64 a1_0, .slice A1_1 l1_1.length c1_1], .int .i64 a1_2] rfl ma_ ?_; (with_reducible refine (spec_l03Make.calls k a1_0 _ _ l1_1 a1_2 t257 t258 t261 _ ?side1 ?side2 A4.out).mono ?_); (case side1 => exact cb_ HR1_1 HB); (case side2 => exact HC1_1.out); rintro e w13 ⟨v259, rfl, ho0, hb⟩; refine ⟨_, rfl, ?_⟩; have HO260 := am_ (Kd.R_lower ho0 (below_size (bl_ HB))); replace BK254 := bb_ BK254 hb; replace BK255 := bb_ BK255 hb; replace BK256 := bb_ BK256 hb; replace HB := bs_ HB hb; (try clear hb); (try clear hb2); (try clear hk); (try clear hi); (try clear ho0); obtain ⟨hcz14_0, hcz14_1, hcz14_2, hfz14_0, hfz14_1, hfz14_2⟩ := ck3_ BK256; obtain ⟨Ao15, co15, eo15⟩ := Kd.R_slice HO260.out; subst eo15))
  refine bodyPost_ret (results_cell_row rfl _ _ gb256 45 #[.int .i64 t257, .slice Ao15 t258.length co15, .int .i64 t261] (0, 0) _ rfl (bp3_ BK256) Tryd.underlying45 rfl (by kernel_rfl)) rfl ?_
  exact ⟨_, by first | rfl | (simp [errW_none, errW_some] <;> rfl) | (simp [*, errW_none, errW_some] <;> rfl), ru_ HO260 BK256, bl_ HB⟩
 ·rw [if_neg c3] at H
  have c3b0 : (a0_0 == 0) = false := beq_eq_false_iff_ne.mpr c3
  have c3b1 : (a0_0 != 0) = true := bne_iff_ne.mpr c3
  by_cases c16 : a1_0 = 0
  ·rw [if_pos c16] at H
   have c16b0 : (a1_0 == 0) = true := beq_iff_eq.mpr c16
   have c16b1 : (a1_0 != 0) = false := bne_eq_false_iff_eq.mpr c16
   clear c16
   replace H := Option.bind_eq_some_iff.mp H
   obtain ⟨⟨t262, t263, t266⟩, A170, H⟩ := H
   replace H : (some (t262, t263, t266)) = some (r1, r2, r3) := H
   have A17 := Aside0.mk A170; clear A170
   simp only [Option.some.injEq, Prod.mk.injEq] at H
   obtain ⟨rfl, rfl, rfl⟩ := H
   go_enter Tryd.func115, Tryd.ntmps115
   go_wp2_with (first | ((with_reducible refine gate_dst (N := 2) rfl ?_); refine bx_ 2 #[.int .i64 a0_0, .slice A0_1 l0_1.length c0_1, .int .i64 a0_2] 45 ?_; intro gb254 hg w18 hbox hb; obtain ⟨BK254, GW254, GE254⟩ := nb_ hbox hg HB; replace HB := bs_ HB hb; clear hb hbox hg) | ((with_reducible refine gate_dst (N := 3) rfl ?_); refine bx_ 3 #[.int .i64 a1_0, .slice A1_1 l1_1.length c1_1, .int .i64 a1_2] 45 ?_; intro gb255 hg w19 hbox hb; obtain ⟨BK255, GW255, GE255⟩ := nb_ hbox hg HB; obtain ⟨NB254_255, NB255_254⟩ := nn_ hg BK254; replace BK254 := bb_ BK254 hb; replace HB := bs_ HB hb; clear hb hbox hg) | ((with_reducible refine gate_dst (N := 4) rfl ?_); refine bx_ 4 #[.int .i64 0, .slice none 0 0, .int .i64 0] 45 ?_; intro gb256 hg w20 hbox hb; obtain ⟨BK256, GW256, GE256⟩ := nb_ hbox hg HB; obtain ⟨NB254_256, NB256_254⟩ := nn_ hg BK254; obtain ⟨NB255_256, NB256_255⟩ := nn_ hg BK255; replace BK254 := bb_ BK254 hb; replace BK255 := bb_ BK255 hb; replace HB := bs_ HB hb; clear hb hbox hg; have hnb21 := NB254_255.out; have hnc21 := NB255_254.out; have hnb22 := NB254_256.out; have hnc22 := NB256_254.out; obtain ⟨hcz23_0, hcz23_1, hcz23_2, hfz23_0, hfz23_1, hfz23_2⟩ := ck3_ BK254; have hnb24 := NB255_256.out; have hnc24 := NB256_255.out; obtain ⟨hcz25_0, hcz25_1, hcz25_2, hfz25_0, hfz25_1, hfz25_2⟩ := ck3_ BK255) | ((with_reducible refine gate_callee (f := 118) rfl ?_); refine goesL_ (some 23) rfl rfl Tryd.func118 (by kernel_rfl) rfl #[.agg #[.int .i64 a0_0, .slice A0_1 l0_1.length c0_1], .int .i64 a0_2] rfl ma_ ?_; (with_reducible refine (spec_l03Make.calls k a0_0 _ _ l0_1 a0_2 t262 t263 t266 _ ?side1 ?side2 A17.out).mono ?_); (case side1 => exact cb_ HR0_1 HB); (case side2 => exact HC0_1.out); rintro e w26 ⟨v264, rfl, ho0, hb⟩; refine ⟨_, rfl, ?_⟩; have HO265 := am_ (Kd.R_lower ho0 (below_size (bl_ HB))); replace BK254 := bb_ BK254 hb; replace BK255 := bb_ BK255 hb; replace BK256 := bb_ BK256 hb; replace HB := bs_ HB hb; (try clear hb); (try clear hb2); (try clear hk); (try clear hi); (try clear ho0); obtain ⟨hcz27_0, hcz27_1, hcz27_2, hfz27_0, hfz27_1, hfz27_2⟩ := ck3_ BK256; obtain ⟨Ao28, co28, eo28⟩ := Kd.R_slice HO265.out; subst eo28))
   refine bodyPost_ret (results_cell_row rfl _ _ gb256 45 #[.int .i64 t262, .slice Ao28 t263.length co28, .int .i64 t266] (0, 0) _ rfl (bp3_ BK256) Tryd.underlying45 rfl (by kernel_rfl)) rfl ?_
   exact ⟨_, by first | rfl | (simp [errW_none, errW_some] <;> rfl) | (simp [*, errW_none, errW_some] <;> rfl), ru_ HO265 BK256, bl_ HB⟩
  ·rw [if_neg c16] at H
   have c16b0 : (a1_0 == 0) = false := beq_eq_false_iff_ne.mpr c16
   have c16b1 : (a1_0 != 0) = true := bne_iff_ne.mpr c16
   obtain ⟨ji29, hji29⟩ : ∃ j_ : Int, (mn a0_2 a1_2) = j_ := ⟨_, rfl⟩
   replace H : ((spec_l02Left.f k a0_0 l0_1 (wrap64 (a0_2 - (ji29)))).bind fun bt267 => ((spec_l02Left.f k a1_0 l1_1 (wrap64 (a1_2 - (ji29)))).bind fun bt271 => ((spec_l02Add.f k bt267.1 bt267.2 bt271.1 bt271.2).bind fun bt275 => ((spec_l03Make.f k bt275.1 bt275.2 (ji29)).bind fun bt279 => (some (bt279.1, bt279.2.1, bt279.2.2)))))) = some (r1, r2, r3) := by first | (rw [hji29] at H; exact H) | (simp only [hji29] at H ⊢; exact H)
   have hji29_ : (if a1_2 < a0_2 then a1_2 else a0_2) = ji29 := hji29
   replace H := Option.bind_eq_some_iff.mp H
   obtain ⟨⟨t267, t268⟩, A300, H⟩ := H
   replace H : ((spec_l02Left.f k a1_0 l1_1 (wrap64 (a1_2 - (ji29)))).bind fun bt271 => ((spec_l02Add.f k t267 t268 bt271.1 bt271.2).bind fun bt275 => ((spec_l03Make.f k bt275.1 bt275.2 (ji29)).bind fun bt279 => (some (bt279.1, bt279.2.1, bt279.2.2))))) = some (r1, r2, r3) := H
   have A30 := Aside0.mk A300; clear A300
   replace H := Option.bind_eq_some_iff.mp H
   obtain ⟨⟨t271, t272⟩, A310, H⟩ := H
   replace H : ((spec_l02Add.f k t267 t268 t271 t272).bind fun bt275 => ((spec_l03Make.f k bt275.1 bt275.2 (ji29)).bind fun bt279 => (some (bt279.1, bt279.2.1, bt279.2.2)))) = some (r1, r2, r3) := H
   have A31 := Aside0.mk A310; clear A310
   replace H := Option.bind_eq_some_iff.mp H
   obtain ⟨⟨t275, t276⟩, A320, H⟩ := H
   replace H : ((spec_l03Make.f k t275 t276 (ji29)).bind fun bt279 => (some (bt279.1, bt279.2.1, bt279.2.2))) = some (r1, r2, r3) := H
   have A32 := Aside0.mk A320; clear A320
   replace H := Option.bind_eq_some_iff.mp H
   obtain ⟨⟨t279, t280, t283⟩, A330, H⟩ := H
   replace H : (some (t279, t280, t283)) = some (r1, r2, r3) := H
   have A33 := Aside0.mk A330; clear A330
   simp only [Option.some.injEq, Prod.mk.injEq] at H
   obtain ⟨rfl, rfl, rfl⟩ := H
   go_enter Tryd.func115, Tryd.ntmps115
   try go_wp2_with (first | ((with_reducible refine gate_dst (N := 2) rfl ?_); refine bx_ 2 #[.int .i64 a0_0, .slice A0_1 l0_1.length c0_1, .int .i64 a0_2] 45 ?_; intro gb254 hg w34 hbox hb; obtain ⟨BK254, GW254, GE254⟩ := nb_ hbox hg HB; replace HB := bs_ HB hb; clear hb hbox hg) | ((with_reducible refine gate_dst (N := 3) rfl ?_); refine bx_ 3 #[.int .i64 a1_0, .slice A1_1 l1_1.length c1_1, .int .i64 a1_2] 45 ?_; intro gb255 hg w35 hbox hb; obtain ⟨BK255, GW255, GE255⟩ := nb_ hbox hg HB; obtain ⟨NB254_255, NB255_254⟩ := nn_ hg BK254; replace BK254 := bb_ BK254 hb; replace HB := bs_ HB hb; clear hb hbox hg) | ((with_reducible refine gate_dst (N := 4) rfl ?_); refine bx_ 4 #[.int .i64 0, .slice none 0 0, .int .i64 0] 45 ?_; intro gb256 hg w36 hbox hb; obtain ⟨BK256, GW256, GE256⟩ := nb_ hbox hg HB; obtain ⟨NB254_256, NB256_254⟩ := nn_ hg BK254; obtain ⟨NB255_256, NB256_255⟩ := nn_ hg BK255; replace BK254 := bb_ BK254 hb; replace BK255 := bb_ BK255 hb; replace HB := bs_ HB hb; clear hb hbox hg; have hnb37 := NB254_255.out; have hnc37 := NB255_254.out; have hnb38 := NB254_256.out; have hnc38 := NB256_254.out; obtain ⟨hcz39_0, hcz39_1, hcz39_2, hfz39_0, hfz39_1, hfz39_2⟩ := ck3_ BK254; have hnb40 := NB255_256.out; have hnc40 := NB256_255.out; obtain ⟨hcz41_0, hcz41_1, hcz41_2, hfz41_0, hfz41_1, hfz41_2⟩ := ck3_ BK255))
   replace BK254 := am_ (blk_drew BK254.out); replace BK255 := am_ (blk_drew BK255.out); replace BK256 := am_ (blk_drew BK256.out); replace HB := am_ (below_drew1 HB.out)
   refine start_ (n := 18) (S := fun w' => w'.cell? ⟨gb254, 0, none⟩ = some (.int .i64 a0_0) ∧ w'.cell? ⟨gb254, 1, none⟩ = some (.slice A0_1 l0_1.length c0_1) ∧ w'.cell? ⟨gb254, 2, none⟩ = some (.int .i64 a0_2) ∧ w'.cell? ⟨gb255, 0, none⟩ = some (.int .i64 a1_0) ∧ w'.cell? ⟨gb255, 1, none⟩ = some (.slice A1_1 l1_1.length c1_1) ∧ w'.cell? ⟨gb255, 2, none⟩ = some (.int .i64 a1_2)) (ds := []) #[false, false, false, false, false, false, false, false, false, false, false, false, false, false, false, false, false, false] (by kernel_rfl) rfl rfl ⟨bc_ BK254 0, bc_ BK254 1, bc_ BK254 2, bc_ BK255 0, bc_ BK255 1, bc_ BK255 2⟩ (fun hHeld => ?_); refine with_tabW spec_l03Add.tab6 spec_l03Add.bits6 (fun HT_ HW_ => ?_)
   generalize w36.drew = w42 at BK254 BK255 BK256 HB hHeld ⊢
   refine pu_ #[true, false, false, false, false, false, false, false, false, false, false, false, false, false, false, false, false, false] 0 29 (any_of HT_.out (by kernel_rfl)) ?_
   refine pu_ #[true, false, true, false, false, false, false, false, false, false, false, false, false, false, false, false, false, false] 2 31 (any_of HT_.out (by kernel_rfl)) ?_
   refine pu_ #[true, false, true, false, true, false, false, false, false, false, false, false, false, false, false, false, false, false] 4 33 (any_of HT_.out (by kernel_rfl)) ?_
   refine pu_ #[true, false, true, false, true, false, false, true, false, false, false, false, false, false, false, false, false, false] 7 36 (any_of HT_.out (by kernel_rfl)) ?_
   refine pu_ #[true, false, true, false, true, false, false, true, false, true, false, false, false, false, false, false, false, false] 9 38 (any_of HT_.out (by kernel_rfl)) ?_
   refine pu_ #[true, false, true, false, true, false, false, true, false, true, false, true, false, false, false, false, false, false] 11 40 (any_of HT_.out (by kernel_rfl)) ?_
   refine pu_ #[true, false, true, false, true, false, false, true, false, true, false, true, false, false, false, true, false, false] 15 44 (any_of HT_.out (by kernel_rfl)) ?_
   refine tk_ #[true, true, true, false, true, false, false, true, false, true, false, true, false, false, false, true, false, false] 1 30 (take_ofW HT_.out HW_.out (by kernel_rfl)) hHeld ?_
   refine tk_ #[true, true, true, true, true, false, false, true, false, true, false, true, false, false, false, true, false, false] 3 32 (take_ofW HT_.out HW_.out (by kernel_rfl)) hHeld ?_
   refine pu_ #[true, true, true, true, true, true, false, true, false, true, false, true, false, false, false, true, false, false] 5 34 (any_of HT_.out (by kernel_rfl)) ?_
   refine tk_ #[true, true, true, true, true, true, false, true, true, true, false, true, false, false, false, true, false, false] 8 37 (take_ofW HT_.out HW_.out (by kernel_rfl)) hHeld ?_
   refine tk_ #[true, true, true, true, true, true, false, true, true, true, true, true, false, false, false, true, false, false] 10 39 (take_ofW HT_.out HW_.out (by kernel_rfl)) hHeld ?_
   refine pu_ #[true, true, true, true, true, true, false, true, true, true, true, true, true, false, false, true, false, false] 12 41 (any_of HT_.out (by kernel_rfl)) ?_
   refine one_ (i := 6) (N := some 35) #[true, true, true, true, true, true, true, true, true, true, true, true, true, false, false, true, false, false] rfl rfl (one_of HT_.out (by kernel_rfl)) (by decide) (fun K hK => ?_)
   refine goes_ Tryd.func106 (by kernel_rfl) rfl #[.agg #[.int .i64 a0_0, .slice A0_1 l0_1.length c0_1], .int .i64 (wrap64 (a0_2 - (ji29)))] (by rfl) rfl rfl (by (try simp only [List.map_toArray, List.map_cons, List.map_nil]); first | done | (simp only [hji29]; rfl) | rfl | (simp only [List.length_drop, List.length_take]; rfl)) ?_
   with_reducible refine (spec_l02Left.calls k a0_0 _ _ l0_1 (wrap64 (a0_2 - (ji29))) t267 t268 _ ?side1 ?side2 A30.out).mono ?_
   (case side1 => exact cb_ HR0_1 HB)
   (case side2 => exact HC0_1.out)
   rintro e w43 ⟨v269, rfl, ho0, hb⟩
   refine ⟨_, rfl, ?_⟩
   have HO270 := am_ (Kd.R_lower ho0 (below_size (bl_ HB))); replace BK254 := am_ (blk_below (bk_ BK254) hb); replace BK255 := am_ (blk_below (bk_ BK255) hb); replace BK256 := am_ (blk_below (bk_ BK256) hb); replace HB := am_ (below_step (bl_ HB) hb); (try clear hb); (try clear hb2); (try clear hk); (try clear hi); (try clear ho0)
   refine hK.out _ _ ⟨bc_ BK254 0, bc_ BK254 1, bc_ BK254 2, bc_ BK255 0, bc_ BK255 1, bc_ BK255 2⟩ (fun hHeld => ?_)
   clear hK K
   refine nr_ ?_
   refine one_ (i := 13) (N := some 42) #[true, true, true, true, true, true, true, true, true, true, true, true, true, true, false, true, false, false] rfl rfl (one_of HT_.out (by kernel_rfl)) (by decide) (fun K hK => ?_)
   refine goes_ Tryd.func106 (by kernel_rfl) rfl #[.agg #[.int .i64 a1_0, .slice A1_1 l1_1.length c1_1], .int .i64 (wrap64 (a1_2 - (ji29)))] (by rfl) rfl rfl (by (try simp only [List.map_toArray, List.map_cons, List.map_nil]); first | done | (simp only [hji29]; rfl) | rfl | (simp only [List.length_drop, List.length_take]; rfl)) ?_
   with_reducible refine (spec_l02Left.calls k a1_0 _ _ l1_1 (wrap64 (a1_2 - (ji29))) t271 t272 _ ?side1 ?side2 A31.out).mono ?_
   (case side1 => exact cb_ HR1_1 HB)
   (case side2 => exact HC1_1.out)
   rintro e w44 ⟨v273, rfl, ho0, hb⟩
   refine ⟨_, rfl, ?_⟩
   have HO274 := am_ (Kd.R_lower (Kd.R_new' ho0 (Kd.R_lt (kr_ HO270))) (below_size (bl_ HB))); replace HO270 := am_ (Kd.R_elder' (kr_ HO270) (Kd.R_base ho0) hb); replace BK254 := am_ (blk_below (bk_ BK254) hb); replace BK255 := am_ (blk_below (bk_ BK255) hb); replace BK256 := am_ (blk_below (bk_ BK256) hb); replace HB := am_ (below_step (bl_ HB) hb); (try clear hb); (try clear hb2); (try clear hk); (try clear hi); (try clear ho0)
   obtain ⟨Ao45, co45, eo45⟩ := Kd.R_slice HO270.out
   (first | subst eo45 | (injection eo45 with f1_ f2_ f3_; have f4_ := f1_.symm; have f5_ := f3_.symm; clear f1_ f2_ f3_; subst f4_; subst f5_))
   obtain ⟨Ao46, co46, eo46⟩ := Kd.R_slice HO274.out
   (first | subst eo46 | (injection eo46 with f1_ f2_ f3_; have f4_ := f1_.symm; have f5_ := f3_.symm; clear f1_ f2_ f3_; subst f4_; subst f5_))
   refine hK.out _ _ ⟨bc_ BK254 0, bc_ BK254 1, bc_ BK254 2, bc_ BK255 0, bc_ BK255 1, bc_ BK255 2⟩ (fun hHeld => ?_)
   clear hK K
   refine nr_ ?_
   refine one_ (i := 14) (N := some 43) #[true, true, true, true, true, true, true, true, true, true, true, true, true, true, true, true, false, false] rfl rfl (one_of HT_.out (by kernel_rfl)) (by decide) (fun K hK => ?_)
   refine goes_ Tryd.func105 (by kernel_rfl) rfl #[.agg #[.int .i64 t267, .slice Ao45 t268.length co45], .agg #[.int .i64 t271, .slice Ao46 t272.length co46]] (by rfl) rfl rfl ma_ ?_
   with_reducible refine (spec_l02Add.calls k t267 _ _ t268 t271 _ _ t272 t275 t276 _ ?side1 ?side2 ?side3 ?side4 A32.out).mono ?_
   (case side1 => exact cr_ HO270)
   (case side2 => exact (Kd.R_reads' HO270.out).2.1)
   (case side3 => exact cr_ HO274)
   (case side4 => exact (Kd.R_reads' HO274.out).2.1)
   rintro e w47 ⟨v277, rfl, ho0, hb⟩
   refine ⟨_, rfl, ?_⟩
   have HO278 := am_ (Kd.R_lower (Kd.R_new' (Kd.R_new' ho0 (Kd.R_lt (kr_ HO270))) (Kd.R_lt (kr_ HO274))) (below_size (bl_ HB))); replace HO270 := am_ (Kd.R_elder' (kr_ HO270) (Kd.R_base ho0) hb); replace HO274 := am_ (Kd.R_elder' (kr_ HO274) (Kd.R_base ho0) hb); replace BK254 := am_ (blk_below (bk_ BK254) hb); replace BK255 := am_ (blk_below (bk_ BK255) hb); replace BK256 := am_ (blk_below (bk_ BK256) hb); replace HB := am_ (below_step (bl_ HB) hb); (try clear hb); (try clear hb2); (try clear hk); (try clear hi); (try clear ho0)
   obtain ⟨Ao48, co48, eo48⟩ := Kd.R_slice HO278.out
   (first | subst eo48 | (injection eo48 with f1_ f2_ f3_; have f4_ := f1_.symm; have f5_ := f3_.symm; clear f1_ f2_ f3_; subst f4_; subst f5_))
   refine hK.out _ _ ⟨bc_ BK254 0, bc_ BK254 1, bc_ BK254 2, bc_ BK255 0, bc_ BK255 1, bc_ BK255 2⟩ (fun hHeld => ?_)
   clear hK K
   refine nr_ ?_
   refine one_ (i := 16) (N := some 45) #[true, true, true, true, true, true, true, true, true, true, true, true, true, true, true, true, true, false] rfl rfl (one_of HT_.out (by kernel_rfl)) (by decide) (fun K hK => ?_)
   refine goes_ Tryd.func118 (by kernel_rfl) rfl #[.agg #[.int .i64 t275, .slice Ao48 t276.length co48], .int .i64 ji29] (by rfl) rfl rfl (by (try simp only [List.map_toArray, List.map_cons, List.map_nil]); first | done | (simp only [hji29]; rfl) | rfl | (simp only [List.length_drop, List.length_take]; rfl)) ?_
   with_reducible refine (spec_l03Make.calls k t275 _ _ t276 ji29 t279 t280 t283 _ ?side1 ?side2 A33.out).mono ?_
   (case side1 => exact cr_ HO278)
   (case side2 => exact (Kd.R_reads' HO278.out).2.1)
   rintro e w49 ⟨v281, rfl, ho0, hb⟩
   refine ⟨_, rfl, ?_⟩
   have HO282 := am_ (Kd.R_lower (Kd.R_new' (Kd.R_new' (Kd.R_new' ho0 (Kd.R_lt (kr_ HO270))) (Kd.R_lt (kr_ HO274))) (Kd.R_lt (kr_ HO278))) (below_size (bl_ HB))); replace HO270 := am_ (Kd.R_elder' (kr_ HO270) (Kd.R_base ho0) hb); replace HO274 := am_ (Kd.R_elder' (kr_ HO274) (Kd.R_base ho0) hb); replace HO278 := am_ (Kd.R_elder' (kr_ HO278) (Kd.R_base ho0) hb); replace BK254 := am_ (blk_below (bk_ BK254) hb); replace BK255 := am_ (blk_below (bk_ BK255) hb); replace BK256 := am_ (blk_below (bk_ BK256) hb); replace HB := am_ (below_step (bl_ HB) hb); (try clear hb); (try clear hb2); (try clear hk); (try clear hi); (try clear ho0)
   obtain ⟨Ao51, co51, eo51⟩ := Kd.R_slice HO282.out
   (first | subst eo51 | (injection eo51 with f1_ f2_ f3_; have f4_ := f1_.symm; have f5_ := f3_.symm; clear f1_ f2_ f3_; subst f4_; subst f5_))
   refine hK.out _ _ ⟨bc_ BK254 0, bc_ BK254 1, bc_ BK254 2, bc_ BK255 0, bc_ BK255 1, bc_ BK255 2⟩ (fun hHeld => ?_)
   clear hK K
   refine nr_ ?_
   refine one_ (i := 17) (N := none) #[true, true, true, true, true, true, true, true, true, true, true, true, true, true, true, true, true, true] rfl rfl (one_of HT_.out (by kernel_rfl)) (by decide) (fun K hK => ?_)
   have hs50 : w49.cell? ⟨gb256, 0, none⟩ = some (.int .i64 0) := bc_ BK256 0
   have hfs50 := blk_frozen BK256.out 0; have hns50_0 := NB254_256.out; have hns50_1 := NB255_256.out; have hms50_0 := NB256_254.out; have hms50_1 := NB256_255.out
   have hs52 : w49.cell? ⟨gb256, 1, none⟩ = some (.slice none 0 0) := bc_ BK256 1
   have hfs52 := blk_frozen BK256.out 1; have hns52_0 := NB254_256.out; have hns52_1 := NB255_256.out; have hms52_0 := NB256_254.out; have hms52_1 := NB256_255.out
   have hs53 : w49.cell? ⟨gb256, 2, none⟩ = some (.int .i64 0) := bc_ BK256 2
   have hfs53 := blk_frozen BK256.out 2; have hns53_0 := NB254_256.out; have hns53_1 := NB255_256.out; have hms53_0 := NB256_254.out; have hms53_1 := NB256_255.out
   refine skip_ (w1 := ?_) (by rfl) rfl ?_ ?_
   rotate_left
   ·go_simp
    rfl
   refine hK.out _ _ ⟨((cell_far (p := ⟨gb256, _, none⟩) NB254_256.out _).trans (((cell_far (p := ⟨gb256, _, none⟩) NB254_256.out _).trans (((cell_far (p := ⟨gb256, _, none⟩) NB254_256.out _).trans (hHeld.1)))))), ((cell_far (p := ⟨gb256, _, none⟩) NB254_256.out _).trans (((cell_far (p := ⟨gb256, _, none⟩) NB254_256.out _).trans (((cell_far (p := ⟨gb256, _, none⟩) NB254_256.out _).trans (hHeld.2.1)))))), ((cell_far (p := ⟨gb256, _, none⟩) NB254_256.out _).trans (((cell_far (p := ⟨gb256, _, none⟩) NB254_256.out _).trans (((cell_far (p := ⟨gb256, _, none⟩) NB254_256.out _).trans (hHeld.2.2.1)))))), ((cell_far (p := ⟨gb256, _, none⟩) NB255_256.out _).trans (((cell_far (p := ⟨gb256, _, none⟩) NB255_256.out _).trans (((cell_far (p := ⟨gb256, _, none⟩) NB255_256.out _).trans (hHeld.2.2.2.1)))))), ((cell_far (p := ⟨gb256, _, none⟩) NB255_256.out _).trans (((cell_far (p := ⟨gb256, _, none⟩) NB255_256.out _).trans (((cell_far (p := ⟨gb256, _, none⟩) NB255_256.out _).trans (hHeld.2.2.2.2.1)))))), ((cell_far (p := ⟨gb256, _, none⟩) NB255_256.out _).trans (((cell_far (p := ⟨gb256, _, none⟩) NB255_256.out _).trans (((cell_far (p := ⟨gb256, _, none⟩) NB255_256.out _).trans (hHeld.2.2.2.2.2))))))⟩ (fun hHeld => ?_)
   clear hK K
   refine done_ (done_of HT_.out (by kernel_rfl)) ?_
   try go_wp2
   refine bodyPost_ret (results_cell_row rfl _ _ gb256 45 #[.int .i64 t279, .slice Ao51 t280.length co51, .int .i64 t283] (0, 0) _ rfl (bp3_ BK256) Tryd.underlying45 rfl (by kernel_rfl)) rfl ?_
   exact ⟨_, by first | rfl | (simp [errW_none, errW_some] <;> rfl) | (simp only [← hji29]; first | rfl | (simp [errW_none, errW_some] <;> rfl)) | (simp [*, errW_none, errW_some] <;> rfl), ru_ HO282 BK256, bl_ HB⟩
def spec_l03Plus.f (k : Nat) (a0_0 : Int) (l0_1 : List Int) (a0_2 : Int) (a0_3 : Int) (l0_4 : List Int) (a0_5 : Int) (a1_0 : Int) (l1_1 : List Int) (a1_2 : Int) (a1_3 : Int) (l1_4 : List Int) (a1_5 : Int) : Option (Int × List Int × Int × Int × List Int × Int) := (spec_l03Add.f k a0_0 l0_1 a0_2 a1_0 l1_1 a1_2).bind fun bt287 => ((spec_l03Add.f k a0_3 l0_4 a0_5 a1_3 l1_4 a1_5).bind fun bt292 => (some (bt287.1, bt287.2.1, bt287.2.2, bt292.1, bt292.2.1, bt292.2.2)))
theorem spec_l03Plus.mono : ∀ a0 a1 a2 a3 a4 a5 a6 a7 a8 a9 a10 a11 k, LeO (spec_l03Plus.f k a0 a1 a2 a3 a4 a5 a6 a7 a8 a9 a10 a11) (spec_l03Plus.f (k + 1) a0 a1 a2 a3 a4 a5 a6 a7 a8 a9 a10 a11) := by
  intro a0 a1 a2 a3 a4 a5 a6 a7 a8 a9 a10 a11 k
  unfold spec_l03Plus.f
  repeat' first
      | (with_reducible exact spec_l03Add.mono _ _ _ _ _ _ _)
      | (with_reducible exact LeO.refl _)
      | (with_reducible exact LeO.none _)
      | (with_reducible refine LeO.ite ?_ ?_)
      | (with_reducible refine LeO.bind ?_ (fun _ => ?_))
      | exact spec_l03Add.mono _ _ _ _ _ _ _
      | exact LeO.none _
      | refine LeO.ite ?_ ?_
      | refine LeO.bind ?_ (fun _ => ?_)
def spec_l03Plus.T1 : Bool × List (List Nat × List Nat) := (true, [([], []), ([0], [0]), ([], []), ([2], [2]), ([1, 3], [1, 3]), ([], []), ([5], [5]), ([], []), ([7], [7]), ([6, 8, 4], [6, 8]), ([4, 9], [4, 9]), ([10, 9, 0, 1, 2, 3, 4, 5, 6, 7, 8, 9, 10], [10])])
def spec_l03Plus.B1 : List Nat := [0, 1, 0, 4, 15, 0, 32, 0, 128, 511, 1023, 2047]
theorem spec_l03Plus.tab1 : rtab .any (opsOf Tryd.f65 1) = spec_l03Plus.T1 := by kernel_rfl
theorem spec_l03Plus.bits1 : waitsOk spec_l03Plus.T1.2 spec_l03Plus.B1 = true := by kernel_rfl
set_option maxHeartbeats 8000000 in
set_option maxRecDepth 100000 in
theorem spec_l03Plus.calls (k : Nat) (a0_0 : Int) (A0_1 : Option Addr) (c0_1 : Nat) (l0_1 : List Int) (a0_2 : Int) (a0_3 : Int) (A0_4 : Option Addr) (c0_4 : Nat) (l0_4 : List Int) (a0_5 : Int) (a1_0 : Int) (A1_1 : Option Addr) (c1_1 : Nat) (l1_1 : List Int) (a1_2 : Int) (a1_3 : Int) (A1_4 : Option Addr) (c1_4 : Nat) (l1_4 : List Int) (a1_5 : Int) (r1 : Int) (r2 : List Int) (r3 : Int) (r4 : Int) (r5 : List Int) (r6 : Int) (w : World) (hr0_1 : Kd.C (Kd.int .i64) w A0_1 l0_1.length l0_1) (hc0_1 : l0_1.length ≤ c0_1) (hr0_4 : Kd.C (Kd.int .i64) w A0_4 l0_4.length l0_4) (hc0_4 : l0_4.length ≤ c0_4) (hr1_1 : Kd.C (Kd.int .i64) w A1_1 l1_1.length l1_1) (hc1_1 : l1_1.length ≤ c1_1) (hr1_4 : Kd.C (Kd.int .i64) w A1_4 l1_4.length l1_4) (hc1_4 : l1_4.length ≤ c1_4) (h : spec_l03Plus.f k a0_0 l0_1 a0_2 a0_3 l0_4 a0_5 a1_0 l1_1 a1_2 a1_3 l1_4 a1_5 = some (r1, r2, r3, r4, r5, r6)) :
  Calls Tryd.prog 65 #[.agg #[.int .i64 a0_0, .slice A0_1 l0_1.length c0_1, .int .i64 a0_2, .int .i64 a0_3, .slice A0_4 l0_4.length c0_4, .int .i64 a0_5], .agg #[.int .i64 a1_0, .slice A1_1 l1_1.length c1_1, .int .i64 a1_2, .int .i64 a1_3, .slice A1_4 l1_4.length c1_4, .int .i64 a1_5]] w fun e w' => ∃ v1_ v4_ : Value, e = .returned (.agg #[.int .i64 r1, v1_, .int .i64 r3, .int .i64 r4, v4_, .int .i64 r6]) ∧ Kd.R (Kd.int .i64) 2 w' w.heap.size (fun k_ => some k_ ≠ (v4_ : Value).ownBlock) v1_ r2 ∧ Kd.R (Kd.int .i64) 2 w' w.heap.size (fun k_ => some k_ ≠ (v1_ : Value).ownBlock) v4_ r5 ∧ Below w.heap.size w w' := by
 have hu47 := Tryd.underlying47; have hu45 := Tryd.underlying45; have HR0_1 := Aside0.mk hr0_1; have HC0_1 := Aside0.mk hc0_1; clear hr0_1 hc0_1; have HR0_4 := Aside0.mk hr0_4; have HC0_4 := Aside0.mk hc0_4; clear hr0_4 hc0_4; have HR1_1 := Aside0.mk hr1_1; have HC1_1 := Aside0.mk hc1_1; clear hr1_1 hc1_1; have HR1_4 := Aside0.mk hr1_4; have HC1_4 := Aside0.mk hc1_4; clear hr1_4 hc1_4; have HB := am_ (Below.refl w.heap.size w)
 have H : ((spec_l03Add.f k a0_0 l0_1 a0_2 a1_0 l1_1 a1_2).bind fun bt287 => ((spec_l03Add.f k a0_3 l0_4 a0_5 a1_3 l1_4 a1_5).bind fun bt292 => (some (bt287.1, bt287.2.1, bt287.2.2, bt292.1, bt292.2.1, bt292.2.2)))) = some (r1, r2, r3, r4, r5, r6) := h
 clear h
 replace H := Option.bind_eq_some_iff.mp H
 obtain ⟨⟨t287, t288, t291⟩, A30, H⟩ := H
 replace H : ((spec_l03Add.f k a0_3 l0_4 a0_5 a1_3 l1_4 a1_5).bind fun bt292 => (some (t287, t288, t291, bt292.1, bt292.2.1, bt292.2.2))) = some (r1, r2, r3, r4, r5, r6) := H
 have A3 := Aside0.mk A30; clear A30
 replace H := Option.bind_eq_some_iff.mp H
 obtain ⟨⟨t292, t293, t296⟩, A40, H⟩ := H
 replace H : (some (t287, t288, t291, t292, t293, t296)) = some (r1, r2, r3, r4, r5, r6) := H
 have A4 := Aside0.mk A40; clear A40
 simp only [Option.some.injEq, Prod.mk.injEq] at H
 obtain ⟨rfl, rfl, rfl, rfl, rfl, rfl⟩ := H
 go_enter Tryd.func65, Tryd.ntmps65
 try go_wp2_with (first | ((with_reducible refine gate_dst (N := 2) rfl ?_); refine bx_ 2 #[.int .i64 a0_0, .slice A0_1 l0_1.length c0_1, .int .i64 a0_2, .int .i64 a0_3, .slice A0_4 l0_4.length c0_4, .int .i64 a0_5] 47 ?_; intro gb284 hg w5 hbox hb; obtain ⟨BK284, GW284, GE284⟩ := nb_ hbox hg HB; replace HB := bs_ HB hb; clear hb hbox hg) | ((with_reducible refine gate_dst (N := 3) rfl ?_); refine bx_ 3 #[.int .i64 a1_0, .slice A1_1 l1_1.length c1_1, .int .i64 a1_2, .int .i64 a1_3, .slice A1_4 l1_4.length c1_4, .int .i64 a1_5] 47 ?_; intro gb285 hg w6 hbox hb; obtain ⟨BK285, GW285, GE285⟩ := nb_ hbox hg HB; obtain ⟨NB284_285, NB285_284⟩ := nn_ hg BK284; replace BK284 := bb_ BK284 hb; replace HB := bs_ HB hb; clear hb hbox hg) | ((with_reducible refine gate_dst (N := 4) rfl ?_); refine bx_ 4 #[.int .i64 0, .slice none 0 0, .int .i64 0, .int .i64 0, .slice none 0 0, .int .i64 0] 47 ?_; intro gb286 hg w7 hbox hb; obtain ⟨BK286, GW286, GE286⟩ := nb_ hbox hg HB; obtain ⟨NB284_286, NB286_284⟩ := nn_ hg BK284; obtain ⟨NB285_286, NB286_285⟩ := nn_ hg BK285; replace BK284 := bb_ BK284 hb; replace BK285 := bb_ BK285 hb; replace HB := bs_ HB hb; clear hb hbox hg))
 replace BK284 := am_ (blk_drew BK284.out); replace BK285 := am_ (blk_drew BK285.out); replace BK286 := am_ (blk_drew BK286.out); replace HB := am_ (below_drew1 HB.out)
 refine start_ (n := 12) (S := fun w' => w'.cell? ⟨gb284, 0, none⟩ = some (.int .i64 a0_0) ∧ w'.cell? ⟨gb284, 1, none⟩ = some (.slice A0_1 l0_1.length c0_1) ∧ w'.cell? ⟨gb284, 2, none⟩ = some (.int .i64 a0_2) ∧ w'.cell? ⟨gb284, 3, none⟩ = some (.int .i64 a0_3) ∧ w'.cell? ⟨gb284, 4, none⟩ = some (.slice A0_4 l0_4.length c0_4) ∧ w'.cell? ⟨gb284, 5, none⟩ = some (.int .i64 a0_5) ∧ w'.cell? ⟨gb285, 0, none⟩ = some (.int .i64 a1_0) ∧ w'.cell? ⟨gb285, 1, none⟩ = some (.slice A1_1 l1_1.length c1_1) ∧ w'.cell? ⟨gb285, 2, none⟩ = some (.int .i64 a1_2) ∧ w'.cell? ⟨gb285, 3, none⟩ = some (.int .i64 a1_3) ∧ w'.cell? ⟨gb285, 4, none⟩ = some (.slice A1_4 l1_4.length c1_4) ∧ w'.cell? ⟨gb285, 5, none⟩ = some (.int .i64 a1_5)) (ds := []) #[false, false, false, false, false, false, false, false, false, false, false, false] (by kernel_rfl) rfl rfl ⟨bc_ BK284 0, bc_ BK284 1, bc_ BK284 2, bc_ BK284 3, bc_ BK284 4, bc_ BK284 5, bc_ BK285 0, bc_ BK285 1, bc_ BK285 2, bc_ BK285 3, bc_ BK285 4, bc_ BK285 5⟩ (fun hHeld => ?_); refine with_tabW spec_l03Plus.tab1 spec_l03Plus.bits1 (fun HT_ HW_ => ?_)
 generalize w7.drew = w8 at BK284 BK285 BK286 HB hHeld ⊢
 refine pu_ #[true, false, false, false, false, false, false, false, false, false, false, false] 0 5 (any_of HT_.out (by kernel_rfl)) ?_
 refine pu_ #[true, false, true, false, false, false, false, false, false, false, false, false] 2 7 (any_of HT_.out (by kernel_rfl)) ?_
 refine pu_ #[true, false, true, false, false, true, false, false, false, false, false, false] 5 10 (any_of HT_.out (by kernel_rfl)) ?_
 refine pu_ #[true, false, true, false, false, true, false, true, false, false, false, false] 7 12 (any_of HT_.out (by kernel_rfl)) ?_
 refine tk_ #[true, true, true, false, false, true, false, true, false, false, false, false] 1 6 (take_ofW HT_.out HW_.out (by kernel_rfl)) hHeld ?_
 refine tk_ #[true, true, true, true, false, true, false, true, false, false, false, false] 3 8 (take_ofW HT_.out HW_.out (by kernel_rfl)) hHeld ?_
 refine tk_ #[true, true, true, true, false, true, true, true, false, false, false, false] 6 11 (take_ofW HT_.out HW_.out (by kernel_rfl)) hHeld ?_
 refine tk_ #[true, true, true, true, false, true, true, true, true, false, false, false] 8 13 (take_ofW HT_.out HW_.out (by kernel_rfl)) hHeld ?_
 refine one_ (i := 4) (N := some 9) #[true, true, true, true, true, true, true, true, true, false, false, false] rfl rfl (one_of HT_.out (by kernel_rfl)) (by decide) (fun K hK => ?_)
 refine goes_ Tryd.func115 (by kernel_rfl) rfl #[.agg #[.int .i64 a0_0, .slice A0_1 l0_1.length c0_1, .int .i64 a0_2], .agg #[.int .i64 a1_0, .slice A1_1 l1_1.length c1_1, .int .i64 a1_2]] (by rfl) rfl rfl ma_ ?_
 with_reducible refine (spec_l03Add.calls k a0_0 _ _ l0_1 a0_2 a1_0 _ _ l1_1 a1_2 t287 t288 t291 _ ?side1 ?side2 ?side3 ?side4 A3.out).mono ?_
 (case side1 => exact cb_ HR0_1 HB)
 (case side2 => exact HC0_1.out)
 (case side3 => exact cb_ HR1_1 HB)
 (case side4 => exact HC1_1.out)
 rintro e w9 ⟨v289, rfl, ho0, hb⟩
 refine ⟨_, rfl, ?_⟩
 have HO290 := am_ (Kd.R_lower ho0 (below_size (bl_ HB))); replace BK284 := am_ (blk_below (bk_ BK284) hb); replace BK285 := am_ (blk_below (bk_ BK285) hb); replace BK286 := am_ (blk_below (bk_ BK286) hb); replace HB := am_ (below_step (bl_ HB) hb); (try clear hb); (try clear hb2); (try clear hk); (try clear hi); (try clear ho0)
 refine hK.out _ _ ⟨bc_ BK284 0, bc_ BK284 1, bc_ BK284 2, bc_ BK284 3, bc_ BK284 4, bc_ BK284 5, bc_ BK285 0, bc_ BK285 1, bc_ BK285 2, bc_ BK285 3, bc_ BK285 4, bc_ BK285 5⟩ (fun hHeld => ?_)
 clear hK K
 refine nr_ ?_
 refine one_ (i := 9) (N := some 14) #[true, true, true, true, true, true, true, true, true, true, false, false] rfl rfl (one_of HT_.out (by kernel_rfl)) (by decide) (fun K hK => ?_)
 refine goes_ Tryd.func115 (by kernel_rfl) rfl #[.agg #[.int .i64 a0_3, .slice A0_4 l0_4.length c0_4, .int .i64 a0_5], .agg #[.int .i64 a1_3, .slice A1_4 l1_4.length c1_4, .int .i64 a1_5]] (by rfl) rfl rfl ma_ ?_
 with_reducible refine (spec_l03Add.calls k a0_3 _ _ l0_4 a0_5 a1_3 _ _ l1_4 a1_5 t292 t293 t296 _ ?side1 ?side2 ?side3 ?side4 A4.out).mono ?_
 (case side1 => exact cb_ HR0_4 HB)
 (case side2 => exact HC0_4.out)
 (case side3 => exact cb_ HR1_4 HB)
 (case side4 => exact HC1_4.out)
 rintro e w10 ⟨v294, rfl, ho0, hb⟩
 refine ⟨_, rfl, ?_⟩
 have HO295 := am_ (Kd.R_lower (Kd.R_new' ho0 (Kd.R_lt (kr_ HO290))) (below_size (bl_ HB))); replace HO290 := am_ (Kd.R_elder' (kr_ HO290) (Kd.R_base ho0) hb); replace BK284 := am_ (blk_below (bk_ BK284) hb); replace BK285 := am_ (blk_below (bk_ BK285) hb); replace BK286 := am_ (blk_below (bk_ BK286) hb); replace HB := am_ (below_step (bl_ HB) hb); (try clear hb); (try clear hb2); (try clear hk); (try clear hi); (try clear ho0)
 obtain ⟨Ao11, co11, eo11⟩ := Kd.R_slice HO295.out
 (first | subst eo11 | (injection eo11 with f1_ f2_ f3_; have f4_ := f1_.symm; have f5_ := f3_.symm; clear f1_ f2_ f3_; subst f4_; subst f5_))
 obtain ⟨Ao12, co12, eo12⟩ := Kd.R_slice HO290.out
 (first | subst eo12 | (injection eo12 with f1_ f2_ f3_; have f4_ := f1_.symm; have f5_ := f3_.symm; clear f1_ f2_ f3_; subst f4_; subst f5_))
 refine hK.out _ _ ⟨bc_ BK284 0, bc_ BK284 1, bc_ BK284 2, bc_ BK284 3, bc_ BK284 4, bc_ BK284 5, bc_ BK285 0, bc_ BK285 1, bc_ BK285 2, bc_ BK285 3, bc_ BK285 4, bc_ BK285 5⟩ (fun hHeld => ?_)
 clear hK K
 refine nr_ ?_
 refine pu_ #[true, true, true, true, true, true, true, true, true, true, true, false] 10 15 (any_of HT_.out (by kernel_rfl)) ?_
 refine one_ (i := 11) (N := none) #[true, true, true, true, true, true, true, true, true, true, true, true] rfl rfl (one_of HT_.out (by kernel_rfl)) (by decide) (fun K hK => ?_)
 have hs13 : w10.cell? ⟨gb286, 0, none⟩ = some (.int .i64 0) := bc_ BK286 0
 have hfs13 := blk_frozen BK286.out 0; have hns13_0 := NB284_286.out; have hns13_1 := NB285_286.out; have hms13_0 := NB286_284.out; have hms13_1 := NB286_285.out
 have hs14 : w10.cell? ⟨gb286, 1, none⟩ = some (.slice none 0 0) := bc_ BK286 1
 have hfs14 := blk_frozen BK286.out 1; have hns14_0 := NB284_286.out; have hns14_1 := NB285_286.out; have hms14_0 := NB286_284.out; have hms14_1 := NB286_285.out
 have hs15 : w10.cell? ⟨gb286, 2, none⟩ = some (.int .i64 0) := bc_ BK286 2
 have hfs15 := blk_frozen BK286.out 2; have hns15_0 := NB284_286.out; have hns15_1 := NB285_286.out; have hms15_0 := NB286_284.out; have hms15_1 := NB286_285.out
 have hs16 : w10.cell? ⟨gb286, 3, none⟩ = some (.int .i64 0) := bc_ BK286 3
 have hfs16 := blk_frozen BK286.out 3; have hns16_0 := NB284_286.out; have hns16_1 := NB285_286.out; have hms16_0 := NB286_284.out; have hms16_1 := NB286_285.out
 have hs17 : w10.cell? ⟨gb286, 4, none⟩ = some (.slice none 0 0) := bc_ BK286 4
 have hfs17 := blk_frozen BK286.out 4; have hns17_0 := NB284_286.out; have hns17_1 := NB285_286.out; have hms17_0 := NB286_284.out; have hms17_1 := NB286_285.out
 have hs18 : w10.cell? ⟨gb286, 5, none⟩ = some (.int .i64 0) := bc_ BK286 5
 have hfs18 := blk_frozen BK286.out 5; have hns18_0 := NB284_286.out; have hns18_1 := NB285_286.out; have hms18_0 := NB286_284.out; have hms18_1 := NB286_285.out
 refine skip_ (w1 := ?_) (by rfl) rfl ?_ ?_
 rotate_left
 ·go_simp
  rfl
 refine hK.out _ _ ⟨((cell_far (p := ⟨gb286, _, none⟩) NB284_286.out _).trans (((cell_far (p := ⟨gb286, _, none⟩) NB284_286.out _).trans (((cell_far (p := ⟨gb286, _, none⟩) NB284_286.out _).trans (((cell_far (p := ⟨gb286, _, none⟩) NB284_286.out _).trans (((cell_far (p := ⟨gb286, _, none⟩) NB284_286.out _).trans (((cell_far (p := ⟨gb286, _, none⟩) NB284_286.out _).trans (hHeld.1)))))))))))), ((cell_far (p := ⟨gb286, _, none⟩) NB284_286.out _).trans (((cell_far (p := ⟨gb286, _, none⟩) NB284_286.out _).trans (((cell_far (p := ⟨gb286, _, none⟩) NB284_286.out _).trans (((cell_far (p := ⟨gb286, _, none⟩) NB284_286.out _).trans (((cell_far (p := ⟨gb286, _, none⟩) NB284_286.out _).trans (((cell_far (p := ⟨gb286, _, none⟩) NB284_286.out _).trans (hHeld.2.1)))))))))))), ((cell_far (p := ⟨gb286, _, none⟩) NB284_286.out _).trans (((cell_far (p := ⟨gb286, _, none⟩) NB284_286.out _).trans (((cell_far (p := ⟨gb286, _, none⟩) NB284_286.out _).trans (((cell_far (p := ⟨gb286, _, none⟩) NB284_286.out _).trans (((cell_far (p := ⟨gb286, _, none⟩) NB284_286.out _).trans (((cell_far (p := ⟨gb286, _, none⟩) NB284_286.out _).trans (hHeld.2.2.1)))))))))))), ((cell_far (p := ⟨gb286, _, none⟩) NB284_286.out _).trans (((cell_far (p := ⟨gb286, _, none⟩) NB284_286.out _).trans (((cell_far (p := ⟨gb286, _, none⟩) NB284_286.out _).trans (((cell_far (p := ⟨gb286, _, none⟩) NB284_286.out _).trans (((cell_far (p := ⟨gb286, _, none⟩) NB284_286.out _).trans (((cell_far (p := ⟨gb286, _, none⟩) NB284_286.out _).trans (hHeld.2.2.2.1)))))))))))), ((cell_far (p := ⟨gb286, _, none⟩) NB284_286.out _).trans (((cell_far (p := ⟨gb286, _, none⟩) NB284_286.out _).trans (((cell_far (p := ⟨gb286, _, none⟩) NB284_286.out _).trans (((cell_far (p := ⟨gb286, _, none⟩) NB284_286.out _).trans (((cell_far (p := ⟨gb286, _, none⟩) NB284_286.out _).trans (((cell_far (p := ⟨gb286, _, none⟩) NB284_286.out _).trans (hHeld.2.2.2.2.1)))))))))))), ((cell_far (p := ⟨gb286, _, none⟩) NB284_286.out _).trans (((cell_far (p := ⟨gb286, _, none⟩) NB284_286.out _).trans (((cell_far (p := ⟨gb286, _, none⟩) NB284_286.out _).trans (((cell_far (p := ⟨gb286, _, none⟩) NB284_286.out _).trans (((cell_far (p := ⟨gb286, _, none⟩) NB284_286.out _).trans (((cell_far (p := ⟨gb286, _, none⟩) NB284_286.out _).trans (hHeld.2.2.2.2.2.1)))))))))))), ((cell_far (p := ⟨gb286, _, none⟩) NB285_286.out _).trans (((cell_far (p := ⟨gb286, _, none⟩) NB285_286.out _).trans (((cell_far (p := ⟨gb286, _, none⟩) NB285_286.out _).trans (((cell_far (p := ⟨gb286, _, none⟩) NB285_286.out _).trans (((cell_far (p := ⟨gb286, _, none⟩) NB285_286.out _).trans (((cell_far (p := ⟨gb286, _, none⟩) NB285_286.out _).trans (hHeld.2.2.2.2.2.2.1)))))))))))), ((cell_far (p := ⟨gb286, _, none⟩) NB285_286.out _).trans (((cell_far (p := ⟨gb286, _, none⟩) NB285_286.out _).trans (((cell_far (p := ⟨gb286, _, none⟩) NB285_286.out _).trans (((cell_far (p := ⟨gb286, _, none⟩) NB285_286.out _).trans (((cell_far (p := ⟨gb286, _, none⟩) NB285_286.out _).trans (((cell_far (p := ⟨gb286, _, none⟩) NB285_286.out _).trans (hHeld.2.2.2.2.2.2.2.1)))))))))))), ((cell_far (p := ⟨gb286, _, none⟩) NB285_286.out _).trans (((cell_far (p := ⟨gb286, _, none⟩) NB285_286.out _).trans (((cell_far (p := ⟨gb286, _, none⟩) NB285_286.out _).trans (((cell_far (p := ⟨gb286, _, none⟩) NB285_286.out _).trans (((cell_far (p := ⟨gb286, _, none⟩) NB285_286.out _).trans (((cell_far (p := ⟨gb286, _, none⟩) NB285_286.out _).trans (hHeld.2.2.2.2.2.2.2.2.1)))))))))))), ((cell_far (p := ⟨gb286, _, none⟩) NB285_286.out _).trans (((cell_far (p := ⟨gb286, _, none⟩) NB285_286.out _).trans (((cell_far (p := ⟨gb286, _, none⟩) NB285_286.out _).trans (((cell_far (p := ⟨gb286, _, none⟩) NB285_286.out _).trans (((cell_far (p := ⟨gb286, _, none⟩) NB285_286.out _).trans (((cell_far (p := ⟨gb286, _, none⟩) NB285_286.out _).trans (hHeld.2.2.2.2.2.2.2.2.2.1)))))))))))), ((cell_far (p := ⟨gb286, _, none⟩) NB285_286.out _).trans (((cell_far (p := ⟨gb286, _, none⟩) NB285_286.out _).trans (((cell_far (p := ⟨gb286, _, none⟩) NB285_286.out _).trans (((cell_far (p := ⟨gb286, _, none⟩) NB285_286.out _).trans (((cell_far (p := ⟨gb286, _, none⟩) NB285_286.out _).trans (((cell_far (p := ⟨gb286, _, none⟩) NB285_286.out _).trans (hHeld.2.2.2.2.2.2.2.2.2.2.1)))))))))))), ((cell_far (p := ⟨gb286, _, none⟩) NB285_286.out _).trans (((cell_far (p := ⟨gb286, _, none⟩) NB285_286.out _).trans (((cell_far (p := ⟨gb286, _, none⟩) NB285_286.out _).trans (((cell_far (p := ⟨gb286, _, none⟩) NB285_286.out _).trans (((cell_far (p := ⟨gb286, _, none⟩) NB285_286.out _).trans (((cell_far (p := ⟨gb286, _, none⟩) NB285_286.out _).trans (hHeld.2.2.2.2.2.2.2.2.2.2.2))))))))))))⟩ (fun hHeld => ?_)
 clear hK K
 refine done_ (done_of HT_.out (by kernel_rfl)) ?_
 try go_wp2
 refine bodyPost_ret (results_cell_row rfl _ _ gb286 47 #[.int .i64 t287, .slice Ao12 t288.length co12, .int .i64 t291, .int .i64 t292, .slice Ao11 t293.length co11, .int .i64 t296] (0, 0) _ rfl (by (with_reducible repeat (first | refine blk_drewN ?_ _ | refine blk_drew ?_ | refine blk_alloc ?_ _)); refine blk_put (cs := #[.int .i64 t287, .slice Ao12 t288.length co12, .int .i64 t291, .int .i64 t292, .slice Ao11 t293.length co11, .int .i64 0]) ?_ 5 _ rfl; (with_reducible repeat (first | refine blk_drewN ?_ _ | refine blk_drew ?_ | refine blk_alloc ?_ _)); refine blk_put (cs := #[.int .i64 t287, .slice Ao12 t288.length co12, .int .i64 t291, .int .i64 t292, .slice none 0 0, .int .i64 0]) ?_ 4 _ rfl; (with_reducible repeat (first | refine blk_drewN ?_ _ | refine blk_drew ?_ | refine blk_alloc ?_ _)); refine blk_put (cs := #[.int .i64 t287, .slice Ao12 t288.length co12, .int .i64 t291, .int .i64 0, .slice none 0 0, .int .i64 0]) ?_ 3 _ rfl; (with_reducible repeat (first | refine blk_drewN ?_ _ | refine blk_drew ?_ | refine blk_alloc ?_ _)); refine blk_put (cs := #[.int .i64 t287, .slice Ao12 t288.length co12, .int .i64 0, .int .i64 0, .slice none 0 0, .int .i64 0]) ?_ 2 _ rfl; (with_reducible repeat (first | refine blk_drewN ?_ _ | refine blk_drew ?_ | refine blk_alloc ?_ _)); refine blk_put (cs := #[.int .i64 t287, .slice none 0 0, .int .i64 0, .int .i64 0, .slice none 0 0, .int .i64 0]) ?_ 1 _ rfl; (with_reducible repeat (first | refine blk_drewN ?_ _ | refine blk_drew ?_ | refine blk_alloc ?_ _)); refine blk_put (cs := #[.int .i64 0, .slice none 0 0, .int .i64 0, .int .i64 0, .slice none 0 0, .int .i64 0]) ?_ 0 _ rfl; (with_reducible repeat (first | refine blk_drewN ?_ _ | refine blk_drew ?_ | refine blk_alloc ?_ _)); exact BK286.out) Tryd.underlying47 rfl (by kernel_rfl)) rfl ?_
 exact ⟨_, _, by first | rfl | (simp [errW_none, errW_some] <;> rfl) | (simp [*, errW_none, errW_some] <;> rfl), by (with_reducible repeat (first | apply Kd.R_alloc | apply Kd.R_drewN | apply Kd.R_drew)); exact Kd.R_mono (Kd.R_far (p := ⟨gb286, 5, none⟩) (Kd.R_far (p := ⟨gb286, 4, none⟩) (Kd.R_far (p := ⟨gb286, 3, none⟩) (Kd.R_far (p := ⟨gb286, 2, none⟩) (Kd.R_far (p := ⟨gb286, 1, none⟩) (Kd.R_far (p := ⟨gb286, 0, none⟩) (Kd.R_types HO290.out BK286.out (by decide)) (fun _ hk => hk.2) (.int .i64 t287)) (fun _ hk => hk.2) (.slice Ao12 t288.length co12)) (fun _ hk => hk.2) (.int .i64 t291)) (fun _ hk => hk.2) (.int .i64 t292)) (fun _ hk => hk.2) (.slice Ao11 t293.length co11)) (fun _ hk => hk.2) (.int .i64 t296)) (fun _ hk => hk.1.2), by (with_reducible repeat (first | apply Kd.R_alloc | apply Kd.R_drewN | apply Kd.R_drew)); exact Kd.R_mono (Kd.R_far (p := ⟨gb286, 5, none⟩) (Kd.R_far (p := ⟨gb286, 4, none⟩) (Kd.R_far (p := ⟨gb286, 3, none⟩) (Kd.R_far (p := ⟨gb286, 2, none⟩) (Kd.R_far (p := ⟨gb286, 1, none⟩) (Kd.R_far (p := ⟨gb286, 0, none⟩) (Kd.R_types HO295.out BK286.out (by decide)) (fun _ hk => hk.2) (.int .i64 t287)) (fun _ hk => hk.2) (.slice Ao12 t288.length co12)) (fun _ hk => hk.2) (.int .i64 t291)) (fun _ hk => hk.2) (.int .i64 t292)) (fun _ hk => hk.2) (.slice Ao11 t293.length co11)) (fun _ hk => hk.2) (.int .i64 t296)) (fun _ hk => hk.1.2), bl_ HB⟩
end Go.Proofs.YtghhphndbbefjaaDoor.X
