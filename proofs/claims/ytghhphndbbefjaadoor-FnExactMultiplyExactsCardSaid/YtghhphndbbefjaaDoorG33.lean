/- Functions of the program as plain Lean functions, each with a proof that its call does what that function says. Printed by a program over the kit's print; conditions stand in each contract. -/
import Derived.Test.YtghhphndbbefjaaDoorG10
import Derived.Test.YtghhphndbbefjaaDoorG15
import Derived.Test.YtghhphndbbefjaaDoorX3
import Derived.Test.YtghhphndbbefjaaDoorG19
import Derived.Test.YtghhphndbbefjaaDoorG16
namespace Go.Proofs.YtghhphndbbefjaaDoor.X
open Go.RowKit Go.Proofs.YtghhphndbbefjaaDoorW.PrintWords Go.Proofs.YtghhphndbbefjaaDoorW.PrintLast Go.Proofs.YtghhphndbbefjaaDoorW.PrintMore Go.Proofs.YtghhphndbbefjaaDoor.Sq
attribute [local go_sem] max2_int min2_int max_two min_two max_three min_three max_four min_four   -- for this text's walks alone
set_option linter.unusedVariables false
set_option linter.unusedSimpArgs false
def spec_l03Times.f (k : Nat) (a0_0 : Int) (l0_1 : List Int) (a0_2 : Int) (a0_3 : Int) (l0_4 : List Int) (a0_5 : Int) (a1_0 : Int) (l1_1 : List Int) (a1_2 : Int) (a1_3 : Int) (l1_4 : List Int) (a1_5 : Int) : Option (Int × List Int × Int × Int × List Int × Int) := (spec_l03Mul.f k a0_0 l0_1 a0_2 a1_0 l1_1 a1_2).bind fun bt402 => ((spec_l03Mul.f k a0_3 l0_4 a0_5 a1_3 l1_4 a1_5).bind fun bt407 => ((spec_l03Sub.f k bt402.1 bt402.2.1 bt402.2.2 bt407.1 bt407.2.1 bt407.2.2).bind fun bt412 => ((spec_l03Mul.f k a0_0 l0_1 a0_2 a1_3 l1_4 a1_5).bind fun bt418 => ((spec_l03Mul.f k a0_3 l0_4 a0_5 a1_0 l1_1 a1_2).bind fun bt423 => ((spec_l03Add.f k bt418.1 bt418.2.1 bt418.2.2 bt423.1 bt423.2.1 bt423.2.2).bind fun bt428 => (some (bt412.1, bt412.2.1, bt412.2.2, bt428.1, bt428.2.1, bt428.2.2)))))))
theorem spec_l03Times.mono : ∀ a0 a1 a2 a3 a4 a5 a6 a7 a8 a9 a10 a11 k, LeO (spec_l03Times.f k a0 a1 a2 a3 a4 a5 a6 a7 a8 a9 a10 a11) (spec_l03Times.f (k + 1) a0 a1 a2 a3 a4 a5 a6 a7 a8 a9 a10 a11) := by
  intro a0 a1 a2 a3 a4 a5 a6 a7 a8 a9 a10 a11 k
  unfold spec_l03Times.f
  repeat' first
      | (with_reducible exact spec_l03Add.mono _ _ _ _ _ _ _)
      | (with_reducible exact spec_l03Mul.mono _ _ _ _ _ _ _)
      | (with_reducible exact spec_l03Sub.mono _ _ _ _ _ _ _)
      | (with_reducible exact LeO.refl _)
      | (with_reducible exact LeO.none _)
      | (with_reducible refine LeO.ite ?_ ?_)
      | (with_reducible refine LeO.bind ?_ (fun _ => ?_))
      | exact spec_l03Add.mono _ _ _ _ _ _ _
      | exact spec_l03Mul.mono _ _ _ _ _ _ _
      | exact spec_l03Sub.mono _ _ _ _ _ _ _
      | exact LeO.none _
      | refine LeO.ite ?_ ?_
      | refine LeO.bind ?_ (fun _ => ?_)
def spec_l03Times.T1 : Bool × List (List Nat × List Nat) := (true, [([], []), ([0], [0]), ([], []), ([2], [2]), ([1, 3], [1, 3]), ([], []), ([5], [5]), ([], []), ([7], [7]), ([6, 8, 4], [6, 8]), ([4, 9, 9], [4, 9]), ([], []), ([11, 10, 10, 0, 1, 2, 3, 4, 5, 6, 7, 8, 9, 10, 11], [10, 11])])
def spec_l03Times.B1 : List Nat := [0, 1, 0, 4, 15, 0, 32, 0, 128, 511, 1023, 0, 4095]
theorem spec_l03Times.tab1 : rtab .any (opsOf Tryd.f77 1) = spec_l03Times.T1 := by kernel_rfl
theorem spec_l03Times.bits1 : waitsOk spec_l03Times.T1.2 spec_l03Times.B1 = true := by kernel_rfl
def spec_l03Times.T2 : Bool × List (List Nat × List Nat) := (true, [([], []), ([], []), ([1], [1]), ([], []), ([3], [3]), ([2, 4], [2, 4]), ([], []), ([6], [6]), ([], []), ([8], [8]), ([7, 9, 5], [7, 9]), ([5, 10, 10], [5, 10]), ([0, 11], [0, 11]), ([12, 11, 0, 1, 2, 3, 4, 5, 6, 7, 8, 9, 10, 11, 12], [12])])
def spec_l03Times.B2 : List Nat := [0, 0, 2, 0, 8, 30, 0, 64, 0, 256, 1022, 2046, 4095, 8191]
theorem spec_l03Times.tab2 : rtab .any (opsOf Tryd.f77 2) = spec_l03Times.T2 := by kernel_rfl
theorem spec_l03Times.bits2 : waitsOk spec_l03Times.T2.2 spec_l03Times.B2 = true := by kernel_rfl
set_option maxHeartbeats 8000000 in
set_option maxRecDepth 100000 in
theorem spec_l03Times.calls (k : Nat) (a0_0 : Int) (A0_1 : Option Addr) (c0_1 : Nat) (l0_1 : List Int) (a0_2 : Int) (a0_3 : Int) (A0_4 : Option Addr) (c0_4 : Nat) (l0_4 : List Int) (a0_5 : Int) (a1_0 : Int) (A1_1 : Option Addr) (c1_1 : Nat) (l1_1 : List Int) (a1_2 : Int) (a1_3 : Int) (A1_4 : Option Addr) (c1_4 : Nat) (l1_4 : List Int) (a1_5 : Int) (r1 : Int) (r2 : List Int) (r3 : Int) (r4 : Int) (r5 : List Int) (r6 : Int) (w : World) (hr0_1 : Kd.C (Kd.int .i64) w A0_1 l0_1.length l0_1) (hc0_1 : l0_1.length ≤ c0_1) (hr0_4 : Kd.C (Kd.int .i64) w A0_4 l0_4.length l0_4) (hc0_4 : l0_4.length ≤ c0_4) (hr1_1 : Kd.C (Kd.int .i64) w A1_1 l1_1.length l1_1) (hc1_1 : l1_1.length ≤ c1_1) (hr1_4 : Kd.C (Kd.int .i64) w A1_4 l1_4.length l1_4) (hc1_4 : l1_4.length ≤ c1_4) (h : spec_l03Times.f k a0_0 l0_1 a0_2 a0_3 l0_4 a0_5 a1_0 l1_1 a1_2 a1_3 l1_4 a1_5 = some (r1, r2, r3, r4, r5, r6)) :
  Calls Tryd.prog 77 #[.agg #[.int .i64 a0_0, .slice A0_1 l0_1.length c0_1, .int .i64 a0_2, .int .i64 a0_3, .slice A0_4 l0_4.length c0_4, .int .i64 a0_5], .agg #[.int .i64 a1_0, .slice A1_1 l1_1.length c1_1, .int .i64 a1_2, .int .i64 a1_3, .slice A1_4 l1_4.length c1_4, .int .i64 a1_5]] w fun e w' => ∃ v1_ v4_ : Value, e = .returned (.agg #[.int .i64 r1, v1_, .int .i64 r3, .int .i64 r4, v4_, .int .i64 r6]) ∧ Kd.R (Kd.int .i64) 2 w' w.heap.size (fun k_ => some k_ ≠ (v4_ : Value).ownBlock) v1_ r2 ∧ Kd.R (Kd.int .i64) 2 w' w.heap.size (fun k_ => some k_ ≠ (v1_ : Value).ownBlock) v4_ r5 ∧ Below w.heap.size w w' := by
 have hu47 := Tryd.underlying47; have hu45 := Tryd.underlying45; have HR0_1 := am_ hr0_1; have HC0_1 := am_ hc0_1; clear hr0_1 hc0_1; have HR0_4 := am_ hr0_4; have HC0_4 := am_ hc0_4; clear hr0_4 hc0_4; have HR1_1 := am_ hr1_1; have HC1_1 := am_ hc1_1; clear hr1_1 hc1_1; have HR1_4 := am_ hr1_4; have HC1_4 := am_ hc1_4; clear hr1_4 hc1_4; have HB := am_ (Below.refl w.heap.size w)
 have H : ((spec_l03Mul.f k a0_0 l0_1 a0_2 a1_0 l1_1 a1_2).bind fun bt402 => ((spec_l03Mul.f k a0_3 l0_4 a0_5 a1_3 l1_4 a1_5).bind fun bt407 => ((spec_l03Sub.f k bt402.1 bt402.2.1 bt402.2.2 bt407.1 bt407.2.1 bt407.2.2).bind fun bt412 => ((spec_l03Mul.f k a0_0 l0_1 a0_2 a1_3 l1_4 a1_5).bind fun bt418 => ((spec_l03Mul.f k a0_3 l0_4 a0_5 a1_0 l1_1 a1_2).bind fun bt423 => ((spec_l03Add.f k bt418.1 bt418.2.1 bt418.2.2 bt423.1 bt423.2.1 bt423.2.2).bind fun bt428 => (some (bt412.1, bt412.2.1, bt412.2.2, bt428.1, bt428.2.1, bt428.2.2)))))))) = some (r1, r2, r3, r4, r5, r6) := h
 clear h
 replace H := Option.bind_eq_some_iff.mp H
 obtain ⟨⟨t402, t403, t406⟩, A30, H⟩ := H
 try dsimp only at H
 have A3 := am_ A30; clear A30
 replace H := Option.bind_eq_some_iff.mp H
 obtain ⟨⟨t407, t408, t411⟩, A40, H⟩ := H
 try dsimp only at H
 have A4 := am_ A40; clear A40
 replace H := Option.bind_eq_some_iff.mp H
 obtain ⟨⟨t412, t413, t416⟩, A50, H⟩ := H
 try dsimp only at H
 have A5 := am_ A50; clear A50
 replace H := Option.bind_eq_some_iff.mp H
 obtain ⟨⟨t418, t419, t422⟩, A60, H⟩ := H
 try dsimp only at H
 have A6 := am_ A60; clear A60
 replace H := Option.bind_eq_some_iff.mp H
 obtain ⟨⟨t423, t424, t427⟩, A70, H⟩ := H
 try dsimp only at H
 have A7 := am_ A70; clear A70
 replace H := Option.bind_eq_some_iff.mp H
 obtain ⟨⟨t428, t429, t432⟩, A80, H⟩ := H
 try dsimp only at H
 have A8 := am_ A80; clear A80
 simp only [Option.some.injEq, Prod.mk.injEq] at H
 obtain ⟨rfl, rfl, rfl, rfl, rfl, rfl⟩ := H
 go_enter Tryd.func77, Tryd.ntmps77
 try go_wp2_with (first | ((with_reducible refine gate_dst (N := 2) rfl ?_); refine bx_ 2 #[.int .i64 a0_0, .slice A0_1 l0_1.length c0_1, .int .i64 a0_2, .int .i64 a0_3, .slice A0_4 l0_4.length c0_4, .int .i64 a0_5] 47 ?_; intro gb399 hg w9 hbox hb; obtain ⟨BK399, GW399, GE399⟩ := nb_ hbox hg HB; replace HB := bs_ HB hb; clear hb hbox hg) | ((with_reducible refine gate_dst (N := 3) rfl ?_); refine bx_ 3 #[.int .i64 a1_0, .slice A1_1 l1_1.length c1_1, .int .i64 a1_2, .int .i64 a1_3, .slice A1_4 l1_4.length c1_4, .int .i64 a1_5] 47 ?_; intro gb400 hg w10 hbox hb; obtain ⟨BK400, GW400, GE400⟩ := nb_ hbox hg HB; obtain ⟨NB399_400, NB400_399⟩ := nn_ hg BK399; replace BK399 := bb_ BK399 hb; replace HB := bs_ HB hb; clear hb hbox hg) | ((with_reducible refine gate_dst (N := 4) rfl ?_); refine bx_ 4 #[.int .i64 0, .slice none 0 0, .int .i64 0, .int .i64 0, .slice none 0 0, .int .i64 0] 47 ?_; intro gb401 hg w11 hbox hb; obtain ⟨BK401, GW401, GE401⟩ := nb_ hbox hg HB; obtain ⟨NB399_401, NB401_399⟩ := nn_ hg BK399; obtain ⟨NB400_401, NB401_400⟩ := nn_ hg BK400; replace BK399 := bb_ BK399 hb; replace BK400 := bb_ BK400 hb; replace HB := bs_ HB hb; clear hb hbox hg))
 replace BK399 := am_ (blk_drew BK399.out); replace BK400 := am_ (blk_drew BK400.out); replace BK401 := am_ (blk_drew BK401.out); replace HB := am_ (below_drew1 HB.out)
 refine start_ (n := 13) (S := fun w' => w'.cell? ⟨gb399, 0, none⟩ = some (.int .i64 a0_0) ∧ w'.cell? ⟨gb399, 1, none⟩ = some (.slice A0_1 l0_1.length c0_1) ∧ w'.cell? ⟨gb399, 2, none⟩ = some (.int .i64 a0_2) ∧ w'.cell? ⟨gb399, 3, none⟩ = some (.int .i64 a0_3) ∧ w'.cell? ⟨gb399, 4, none⟩ = some (.slice A0_4 l0_4.length c0_4) ∧ w'.cell? ⟨gb399, 5, none⟩ = some (.int .i64 a0_5) ∧ w'.cell? ⟨gb400, 0, none⟩ = some (.int .i64 a1_0) ∧ w'.cell? ⟨gb400, 1, none⟩ = some (.slice A1_1 l1_1.length c1_1) ∧ w'.cell? ⟨gb400, 2, none⟩ = some (.int .i64 a1_2) ∧ w'.cell? ⟨gb400, 3, none⟩ = some (.int .i64 a1_3) ∧ w'.cell? ⟨gb400, 4, none⟩ = some (.slice A1_4 l1_4.length c1_4) ∧ w'.cell? ⟨gb400, 5, none⟩ = some (.int .i64 a1_5)) (ds := []) #[false, false, false, false, false, false, false, false, false, false, false, false, false] (by kernel_rfl) rfl rfl ⟨bc_ BK399 0, bc_ BK399 1, bc_ BK399 2, bc_ BK399 3, bc_ BK399 4, bc_ BK399 5, bc_ BK400 0, bc_ BK400 1, bc_ BK400 2, bc_ BK400 3, bc_ BK400 4, bc_ BK400 5⟩ (fun hHeld => ?_); refine with_tabW spec_l03Times.tab1 spec_l03Times.bits1 (fun HT_ HW_ => ?_)
 generalize w11.drew = w12 at BK399 BK400 BK401 HB hHeld ⊢
 refine pu_ #[true, false, false, false, false, false, false, false, false, false, false, false, false] 0 6 (any_of HT_.out (by kernel_rfl)) ?_
 refine pu_ #[true, false, true, false, false, false, false, false, false, false, false, false, false] 2 8 (any_of HT_.out (by kernel_rfl)) ?_
 refine pu_ #[true, false, true, false, false, true, false, false, false, false, false, false, false] 5 11 (any_of HT_.out (by kernel_rfl)) ?_
 refine pu_ #[true, false, true, false, false, true, false, true, false, false, false, false, false] 7 13 (any_of HT_.out (by kernel_rfl)) ?_
 refine tk_ #[true, true, true, false, false, true, false, true, false, false, false, false, false] 1 7 (take_ofW HT_.out HW_.out (by kernel_rfl)) hHeld ?_
 refine tk_ #[true, true, true, true, false, true, false, true, false, false, false, false, false] 3 9 (take_ofW HT_.out HW_.out (by kernel_rfl)) hHeld ?_
 refine tk_ #[true, true, true, true, false, true, true, true, false, false, false, false, false] 6 12 (take_ofW HT_.out HW_.out (by kernel_rfl)) hHeld ?_
 refine tk_ #[true, true, true, true, false, true, true, true, true, false, false, false, false] 8 14 (take_ofW HT_.out HW_.out (by kernel_rfl)) hHeld ?_
 refine join_ (σ := Value × Value × Value × Nat) 1 #[true, true, true, true, true, true, true, true, true, true, true, true, false] (fun s_ => [(10, .agg #[.int .i64 t402, s_.1, .int .i64 t406]), (15, .agg #[.int .i64 t407, s_.2.1, .int .i64 t411]), (16, .agg #[.int .i64 t412, s_.2.2.1, .int .i64 t416]), (5, .pointer (some ⟨s_.2.2.2, 0, none⟩))]) (fun s_ w' => (w'.cell? ⟨gb399, 0, none⟩ = some (.int .i64 a0_0) ∧ w'.cell? ⟨gb399, 1, none⟩ = some (.slice A0_1 l0_1.length c0_1) ∧ w'.cell? ⟨gb399, 2, none⟩ = some (.int .i64 a0_2) ∧ w'.cell? ⟨gb399, 3, none⟩ = some (.int .i64 a0_3) ∧ w'.cell? ⟨gb399, 4, none⟩ = some (.slice A0_4 l0_4.length c0_4) ∧ w'.cell? ⟨gb399, 5, none⟩ = some (.int .i64 a0_5) ∧ w'.cell? ⟨gb400, 0, none⟩ = some (.int .i64 a1_0) ∧ w'.cell? ⟨gb400, 1, none⟩ = some (.slice A1_1 l1_1.length c1_1) ∧ w'.cell? ⟨gb400, 2, none⟩ = some (.int .i64 a1_2) ∧ w'.cell? ⟨gb400, 3, none⟩ = some (.int .i64 a1_3) ∧ w'.cell? ⟨gb400, 4, none⟩ = some (.slice A1_4 l1_4.length c1_4) ∧ w'.cell? ⟨gb400, 5, none⟩ = some (.int .i64 a1_5)) ∧ (Kd.R (Kd.int .i64) 2 w' w.heap.size (fun k_ => some k_ ≠ (s_.2.1 : Value).ownBlock ∧ some k_ ≠ (s_.2.2.1 : Value).ownBlock) s_.1 t403) ∧ (Kd.R (Kd.int .i64) 2 w' w.heap.size (fun k_ => some k_ ≠ (s_.1 : Value).ownBlock ∧ some k_ ≠ (s_.2.2.1 : Value).ownBlock) s_.2.1 t408) ∧ (Kd.R (Kd.int .i64) 2 w' w.heap.size (fun k_ => some k_ ≠ (s_.1 : Value).ownBlock ∧ some k_ ≠ (s_.2.1 : Value).ownBlock) s_.2.2.1 t413) ∧ (w'.heap[gb399]? = some (.cells #[.int .i64 a0_0, .slice A0_1 l0_1.length c0_1, .int .i64 a0_2, .int .i64 a0_3, .slice A0_4 l0_4.length c0_4, .int .i64 a0_5] 47 (0, 0))) ∧ (w'.heap[gb400]? = some (.cells #[.int .i64 a1_0, .slice A1_1 l1_1.length c1_1, .int .i64 a1_2, .int .i64 a1_3, .slice A1_4 l1_4.length c1_4, .int .i64 a1_5] 47 (0, 0))) ∧ (w'.heap[gb401]? = some (.cells #[.int .i64 0, .slice none 0 0, .int .i64 0, .int .i64 0, .slice none 0 0, .int .i64 0] 47 (0, 0))) ∧ (w'.heap[s_.2.2.2]? = some (.cells #[.int .i64 0, .slice none 0 0, .int .i64 0] 45 (0, 0))) ∧ (w.heap.size ≤ s_.2.2.2) ∧ (w.heap.size ≤ s_.2.2.2) ∧ (gb399 ≠ s_.2.2.2) ∧ (s_.2.2.2 ≠ gb399) ∧ (gb400 ≠ s_.2.2.2) ∧ (s_.2.2.2 ≠ gb400) ∧ (gb401 ≠ s_.2.2.2) ∧ (s_.2.2.2 ≠ gb401) ∧ (Below w.heap.size w w')) ?_ ?_
 rotate_left
 ·intro hCont
  refine two_ (i := 4) (j := 11) (Ni := some 10) (Nj := some 5) #[true, true, true, true, true, true, true, true, true, false, false, false, false] #[true, true, true, true, false, true, true, true, true, false, false, true, false] rfl rfl rfl rfl (two_of HT_.out (by kernel_rfl)) (by decide) (by decide) (fun K hK => ?_) (fun K hK => ?_)
  ·skip
   refine goes_ Tryd.func71 (by kernel_rfl) rfl #[.agg #[.int .i64 a0_0, .slice A0_1 l0_1.length c0_1, .int .i64 a0_2], .agg #[.int .i64 a1_0, .slice A1_1 l1_1.length c1_1, .int .i64 a1_2]] (by rfl) rfl rfl ma_ ?_
   with_reducible refine (spec_l03Mul.calls k a0_0 _ _ l0_1 a0_2 a1_0 _ _ l1_1 a1_2 t402 t403 t406 _ ?side1 ?side2 ?side3 ?side4 A3.out).mono ?_
   (case side1 => exact cb_ HR0_1 HB)
   (case side2 => exact HC0_1.out)
   (case side3 => exact cb_ HR1_1 HB)
   (case side4 => exact HC1_1.out)
   rintro e w13 ⟨v404, rfl, ho0, hb⟩
   refine ⟨_, rfl, ?_⟩
   have HO405 := am_ (Kd.R_lower ho0 (below_size (bl_ HB))); replace BK399 := am_ (blk_below (bk_ BK399) hb); replace BK400 := am_ (blk_below (bk_ BK400) hb); replace BK401 := am_ (blk_below (bk_ BK401) hb); replace HB := am_ (below_step (bl_ HB) hb); (try clear hb); (try clear hb2); (try clear hk); (try clear hi); (try clear ho0)
   refine hK.out _ _ ⟨bc_ BK399 0, bc_ BK399 1, bc_ BK399 2, bc_ BK399 3, bc_ BK399 4, bc_ BK399 5, bc_ BK400 0, bc_ BK400 1, bc_ BK400 2, bc_ BK400 3, bc_ BK400 4, bc_ BK400 5⟩ (fun hHeld => ?_)
   clear hK K
   refine nr_ ?_
   refine two_ (i := 9) (j := 11) (Ni := some 15) (Nj := some 5) #[true, true, true, true, true, true, true, true, true, true, false, false, false] #[true, true, true, true, true, true, true, true, true, false, false, true, false] rfl rfl rfl rfl (two_of HT_.out (by kernel_rfl)) (by decide) (by decide) (fun K hK => ?_) (fun K hK => ?_)
   ·skip
    refine goes_ Tryd.func71 (by kernel_rfl) rfl #[.agg #[.int .i64 a0_3, .slice A0_4 l0_4.length c0_4, .int .i64 a0_5], .agg #[.int .i64 a1_3, .slice A1_4 l1_4.length c1_4, .int .i64 a1_5]] (by rfl) rfl rfl ma_ ?_
    with_reducible refine (spec_l03Mul.calls k a0_3 _ _ l0_4 a0_5 a1_3 _ _ l1_4 a1_5 t407 t408 t411 _ ?side1 ?side2 ?side3 ?side4 A4.out).mono ?_
    (case side1 => exact cb_ HR0_4 HB)
    (case side2 => exact HC0_4.out)
    (case side3 => exact cb_ HR1_4 HB)
    (case side4 => exact HC1_4.out)
    rintro e w14 ⟨v409, rfl, ho0, hb⟩
    refine ⟨_, rfl, ?_⟩
    have HO410 := am_ (Kd.R_lower (Kd.R_new' ho0 (Kd.R_lt (kr_ HO405))) (below_size (bl_ HB))); replace HO405 := am_ (Kd.R_elder' (kr_ HO405) (Kd.R_base ho0) hb); replace BK399 := am_ (blk_below (bk_ BK399) hb); replace BK400 := am_ (blk_below (bk_ BK400) hb); replace BK401 := am_ (blk_below (bk_ BK401) hb); replace HB := am_ (below_step (bl_ HB) hb); (try clear hb); (try clear hb2); (try clear hk); (try clear hi); (try clear ho0)
    obtain ⟨Ao15, co15, eo15⟩ := Kd.R_slice HO405.out
    (first | subst eo15 | (injection eo15 with f1_ f2_ f3_; have f4_ := f1_.symm; have f5_ := f3_.symm; clear f1_ f2_ f3_; subst f4_; subst f5_))
    obtain ⟨Ao16, co16, eo16⟩ := Kd.R_slice HO410.out
    (first | subst eo16 | (injection eo16 with f1_ f2_ f3_; have f4_ := f1_.symm; have f5_ := f3_.symm; clear f1_ f2_ f3_; subst f4_; subst f5_))
    refine hK.out _ _ ⟨bc_ BK399 0, bc_ BK399 1, bc_ BK399 2, bc_ BK399 3, bc_ BK399 4, bc_ BK399 5, bc_ BK400 0, bc_ BK400 1, bc_ BK400 2, bc_ BK400 3, bc_ BK400 4, bc_ BK400 5⟩ (fun hHeld => ?_)
    clear hK K
    refine nr_ ?_
    refine two_ (i := 10) (j := 11) (Ni := some 16) (Nj := some 5) #[true, true, true, true, true, true, true, true, true, true, true, false, false] #[true, true, true, true, true, true, true, true, true, true, false, true, false] rfl rfl rfl rfl (two_of HT_.out (by kernel_rfl)) (by decide) (by decide) (fun K hK => ?_) (fun K hK => ?_)
    ·skip
     refine goes_ Tryd.func122 (by kernel_rfl) rfl #[.agg #[.int .i64 t402, .slice Ao15 t403.length co15, .int .i64 t406], .agg #[.int .i64 t407, .slice Ao16 t408.length co16, .int .i64 t411]] (by rfl) rfl rfl ma_ ?_
     with_reducible refine (spec_l03Sub.calls k t402 _ _ t403 t406 t407 _ _ t408 t411 t412 t413 t416 _ ?side1 ?side2 ?side3 ?side4 A5.out).mono ?_
     (case side1 => exact cr_ HO405)
     (case side2 => exact (Kd.R_reads' HO405.out).2.1)
     (case side3 => exact cr_ HO410)
     (case side4 => exact (Kd.R_reads' HO410.out).2.1)
     rintro e w17 ⟨v414, rfl, ho0, hb⟩
     refine ⟨_, rfl, ?_⟩
     have HO415 := am_ (Kd.R_lower (Kd.R_new' (Kd.R_new' ho0 (Kd.R_lt (kr_ HO405))) (Kd.R_lt (kr_ HO410))) (below_size (bl_ HB))); replace HO405 := am_ (Kd.R_elder' (kr_ HO405) (Kd.R_base ho0) hb); replace HO410 := am_ (Kd.R_elder' (kr_ HO410) (Kd.R_base ho0) hb); replace BK399 := am_ (blk_below (bk_ BK399) hb); replace BK400 := am_ (blk_below (bk_ BK400) hb); replace BK401 := am_ (blk_below (bk_ BK401) hb); replace HB := am_ (below_step (bl_ HB) hb); (try clear hb); (try clear hb2); (try clear hk); (try clear hi); (try clear ho0)
     refine hK.out _ _ ⟨bc_ BK399 0, bc_ BK399 1, bc_ BK399 2, bc_ BK399 3, bc_ BK399 4, bc_ BK399 5, bc_ BK400 0, bc_ BK400 1, bc_ BK400 2, bc_ BK400 3, bc_ BK400 4, bc_ BK400 5⟩ (fun hHeld => ?_)
     clear hK K
     refine nr_ ?_
     refine one_ (i := 11) (N := some 5) #[true, true, true, true, true, true, true, true, true, true, true, true, false] rfl rfl (one_of HT_.out (by kernel_rfl)) (by decide) (fun K hK => ?_)
     refine box_step ?hg (N := 5) ?hd (cs := #[.int .i64 0, .slice none 0 0, .int .i64 0]) (t := 45) ?hr ?_; (case hd => rfl); (case hg => rfl); (case hr => first | (go_simp; done) | (go_simp; rfl))
     intro gb417 hg w18 hbox hb
     replace HO405 := am_ (Kd.R_below (kr_ HO405) hb); replace HO410 := am_ (Kd.R_below (kr_ HO410) hb); replace HO415 := am_ (Kd.R_below (kr_ HO415) hb); have BK417 := am_ (hbox); have GW417 := am_ (gs_ hg HB); have GE417 := am_ (gs_ hg HB); replace HB := am_ (below_step (bl_ HB) hb); have NB399_417 := am_ (nl_ hg BK399); have NB417_399 := am_ (ng_ hg BK399); replace BK399 := am_ (blk_below (bk_ BK399) hb); have NB400_417 := am_ (nl_ hg BK400); have NB417_400 := am_ (ng_ hg BK400); replace BK400 := am_ (blk_below (bk_ BK400) hb); have NB401_417 := am_ (nl_ hg BK401); have NB417_401 := am_ (ng_ hg BK401); replace BK401 := am_ (blk_below (bk_ BK401) hb); clear hb hbox hg
     refine hK.out _ _ ⟨bc_ BK399 0, bc_ BK399 1, bc_ BK399 2, bc_ BK399 3, bc_ BK399 4, bc_ BK399 5, bc_ BK400 0, bc_ BK400 1, bc_ BK400 2, bc_ BK400 3, bc_ BK400 4, bc_ BK400 5⟩ (fun hHeld => ?_)
     clear hK K
     refine nr_ ?_
     exact norm_ (by simp only [putAll, Act.put, List.setIfInBounds_toArray, List.set_cons_zero, List.set_cons_succ]) (hCont (.slice Ao15 t403.length co15, .slice Ao16 t408.length co16, v414, gb417) _ ⟨hHeld, (km_ HO405 (fun _ hk => ⟨hk.1.2, hk.2⟩)), (km_ HO410 (fun _ hk => ⟨hk.1.2, hk.2⟩)), (km_ HO415 (fun _ hk => ⟨hk.1.2, hk.2⟩)), (bk_ BK399), (bk_ BK400), (bk_ BK401), (bk_ BK417), GW417.out, GE417.out, NB399_417.out, NB417_399.out, NB400_417.out, NB417_400.out, NB401_417.out, NB417_401.out, (bl_ HB)⟩)
    ·skip
     refine box_step ?hg (N := 5) ?hd (cs := #[.int .i64 0, .slice none 0 0, .int .i64 0]) (t := 45) ?hr ?_; (case hd => rfl); (case hg => rfl); (case hr => first | (go_simp; done) | (go_simp; rfl))
     intro gb417 hg w15 hbox hb
     replace HO405 := am_ (Kd.R_below (kr_ HO405) hb); replace HO410 := am_ (Kd.R_below (kr_ HO410) hb); have BK417 := am_ (hbox); have GW417 := am_ (gs_ hg HB); have GE417 := am_ (gs_ hg HB); replace HB := am_ (below_step (bl_ HB) hb); have NB399_417 := am_ (nl_ hg BK399); have NB417_399 := am_ (ng_ hg BK399); replace BK399 := am_ (blk_below (bk_ BK399) hb); have NB400_417 := am_ (nl_ hg BK400); have NB417_400 := am_ (ng_ hg BK400); replace BK400 := am_ (blk_below (bk_ BK400) hb); have NB401_417 := am_ (nl_ hg BK401); have NB417_401 := am_ (ng_ hg BK401); replace BK401 := am_ (blk_below (bk_ BK401) hb); clear hb hbox hg
     obtain ⟨Ao16, co16, eo16⟩ := Kd.R_slice HO405.out
     (first | subst eo16 | (injection eo16 with f1_ f2_ f3_; have f4_ := f1_.symm; have f5_ := f3_.symm; clear f1_ f2_ f3_; subst f4_; subst f5_))
     obtain ⟨Ao17, co17, eo17⟩ := Kd.R_slice HO410.out
     (first | subst eo17 | (injection eo17 with f1_ f2_ f3_; have f4_ := f1_.symm; have f5_ := f3_.symm; clear f1_ f2_ f3_; subst f4_; subst f5_))
     refine hK.out _ _ ⟨bc_ BK399 0, bc_ BK399 1, bc_ BK399 2, bc_ BK399 3, bc_ BK399 4, bc_ BK399 5, bc_ BK400 0, bc_ BK400 1, bc_ BK400 2, bc_ BK400 3, bc_ BK400 4, bc_ BK400 5⟩ (fun hHeld => ?_)
     clear hK K
     refine nr_ ?_
     refine one_ (i := 10) (N := some 16) #[true, true, true, true, true, true, true, true, true, true, true, true, false] rfl rfl (one_of HT_.out (by kernel_rfl)) (by decide) (fun K hK => ?_)
     refine goes_ Tryd.func122 (by kernel_rfl) rfl #[.agg #[.int .i64 t402, .slice Ao16 t403.length co16, .int .i64 t406], .agg #[.int .i64 t407, .slice Ao17 t408.length co17, .int .i64 t411]] (by rfl) rfl rfl ma_ ?_
     with_reducible refine (spec_l03Sub.calls k t402 _ _ t403 t406 t407 _ _ t408 t411 t412 t413 t416 _ ?side1 ?side2 ?side3 ?side4 A5.out).mono ?_
     (case side1 => exact cr_ HO405)
     (case side2 => exact (Kd.R_reads' HO405.out).2.1)
     (case side3 => exact cr_ HO410)
     (case side4 => exact (Kd.R_reads' HO410.out).2.1)
     rintro e w18 ⟨v414, rfl, ho0, hb⟩
     refine ⟨_, rfl, ?_⟩
     have HO415 := am_ (Kd.R_lower (Kd.R_new' (Kd.R_new' ho0 (Kd.R_lt (kr_ HO405))) (Kd.R_lt (kr_ HO410))) (below_size (bl_ HB))); replace HO405 := am_ (Kd.R_elder' (kr_ HO405) (Kd.R_base ho0) hb); replace HO410 := am_ (Kd.R_elder' (kr_ HO410) (Kd.R_base ho0) hb); replace BK399 := am_ (blk_below (bk_ BK399) hb); replace BK400 := am_ (blk_below (bk_ BK400) hb); replace BK401 := am_ (blk_below (bk_ BK401) hb); replace BK417 := am_ (blk_below (bk_ BK417) hb); replace HB := am_ (below_step (bl_ HB) hb); (try clear hb); (try clear hb2); (try clear hk); (try clear hi); (try clear ho0)
     refine hK.out _ _ ⟨bc_ BK399 0, bc_ BK399 1, bc_ BK399 2, bc_ BK399 3, bc_ BK399 4, bc_ BK399 5, bc_ BK400 0, bc_ BK400 1, bc_ BK400 2, bc_ BK400 3, bc_ BK400 4, bc_ BK400 5⟩ (fun hHeld => ?_)
     clear hK K
     refine nr_ ?_
     exact norm_ (by simp only [putAll, Act.put, List.setIfInBounds_toArray, List.set_cons_zero, List.set_cons_succ]) (hCont (.slice Ao16 t403.length co16, .slice Ao17 t408.length co17, v414, gb417) _ ⟨hHeld, (km_ HO405 (fun _ hk => ⟨hk.1.2, hk.2⟩)), (km_ HO410 (fun _ hk => ⟨hk.1.2, hk.2⟩)), (km_ HO415 (fun _ hk => ⟨hk.1.2, hk.2⟩)), (bk_ BK399), (bk_ BK400), (bk_ BK401), (bk_ BK417), GW417.out, GE417.out, NB399_417.out, NB417_399.out, NB400_417.out, NB417_400.out, NB401_417.out, NB417_401.out, (bl_ HB)⟩)
   ·skip
    refine box_step ?hg (N := 5) ?hd (cs := #[.int .i64 0, .slice none 0 0, .int .i64 0]) (t := 45) ?hr ?_; (case hd => rfl); (case hg => rfl); (case hr => first | (go_simp; done) | (go_simp; rfl))
    intro gb417 hg w14 hbox hb
    replace HO405 := am_ (Kd.R_below (kr_ HO405) hb); have BK417 := am_ (hbox); have GW417 := am_ (gs_ hg HB); have GE417 := am_ (gs_ hg HB); replace HB := am_ (below_step (bl_ HB) hb); have NB399_417 := am_ (nl_ hg BK399); have NB417_399 := am_ (ng_ hg BK399); replace BK399 := am_ (blk_below (bk_ BK399) hb); have NB400_417 := am_ (nl_ hg BK400); have NB417_400 := am_ (ng_ hg BK400); replace BK400 := am_ (blk_below (bk_ BK400) hb); have NB401_417 := am_ (nl_ hg BK401); have NB417_401 := am_ (ng_ hg BK401); replace BK401 := am_ (blk_below (bk_ BK401) hb); clear hb hbox hg
    refine hK.out _ _ ⟨bc_ BK399 0, bc_ BK399 1, bc_ BK399 2, bc_ BK399 3, bc_ BK399 4, bc_ BK399 5, bc_ BK400 0, bc_ BK400 1, bc_ BK400 2, bc_ BK400 3, bc_ BK400 4, bc_ BK400 5⟩ (fun hHeld => ?_)
    clear hK K
    refine nr_ ?_
    refine one_ (i := 9) (N := some 15) #[true, true, true, true, true, true, true, true, true, true, false, true, false] rfl rfl (one_of HT_.out (by kernel_rfl)) (by decide) (fun K hK => ?_)
    refine goes_ Tryd.func71 (by kernel_rfl) rfl #[.agg #[.int .i64 a0_3, .slice A0_4 l0_4.length c0_4, .int .i64 a0_5], .agg #[.int .i64 a1_3, .slice A1_4 l1_4.length c1_4, .int .i64 a1_5]] (by rfl) rfl rfl ma_ ?_
    with_reducible refine (spec_l03Mul.calls k a0_3 _ _ l0_4 a0_5 a1_3 _ _ l1_4 a1_5 t407 t408 t411 _ ?side1 ?side2 ?side3 ?side4 A4.out).mono ?_
    (case side1 => exact cb_ HR0_4 HB)
    (case side2 => exact HC0_4.out)
    (case side3 => exact cb_ HR1_4 HB)
    (case side4 => exact HC1_4.out)
    rintro e w15 ⟨v409, rfl, ho0, hb⟩
    refine ⟨_, rfl, ?_⟩
    have HO410 := am_ (Kd.R_lower (Kd.R_new' ho0 (Kd.R_lt (kr_ HO405))) (below_size (bl_ HB))); replace HO405 := am_ (Kd.R_elder' (kr_ HO405) (Kd.R_base ho0) hb); replace BK399 := am_ (blk_below (bk_ BK399) hb); replace BK400 := am_ (blk_below (bk_ BK400) hb); replace BK401 := am_ (blk_below (bk_ BK401) hb); replace BK417 := am_ (blk_below (bk_ BK417) hb); replace HB := am_ (below_step (bl_ HB) hb); (try clear hb); (try clear hb2); (try clear hk); (try clear hi); (try clear ho0)
    obtain ⟨Ao16, co16, eo16⟩ := Kd.R_slice HO405.out
    (first | subst eo16 | (injection eo16 with f1_ f2_ f3_; have f4_ := f1_.symm; have f5_ := f3_.symm; clear f1_ f2_ f3_; subst f4_; subst f5_))
    obtain ⟨Ao17, co17, eo17⟩ := Kd.R_slice HO410.out
    (first | subst eo17 | (injection eo17 with f1_ f2_ f3_; have f4_ := f1_.symm; have f5_ := f3_.symm; clear f1_ f2_ f3_; subst f4_; subst f5_))
    refine hK.out _ _ ⟨bc_ BK399 0, bc_ BK399 1, bc_ BK399 2, bc_ BK399 3, bc_ BK399 4, bc_ BK399 5, bc_ BK400 0, bc_ BK400 1, bc_ BK400 2, bc_ BK400 3, bc_ BK400 4, bc_ BK400 5⟩ (fun hHeld => ?_)
    clear hK K
    refine nr_ ?_
    refine one_ (i := 10) (N := some 16) #[true, true, true, true, true, true, true, true, true, true, true, true, false] rfl rfl (one_of HT_.out (by kernel_rfl)) (by decide) (fun K hK => ?_)
    refine goes_ Tryd.func122 (by kernel_rfl) rfl #[.agg #[.int .i64 t402, .slice Ao16 t403.length co16, .int .i64 t406], .agg #[.int .i64 t407, .slice Ao17 t408.length co17, .int .i64 t411]] (by rfl) rfl rfl ma_ ?_
    with_reducible refine (spec_l03Sub.calls k t402 _ _ t403 t406 t407 _ _ t408 t411 t412 t413 t416 _ ?side1 ?side2 ?side3 ?side4 A5.out).mono ?_
    (case side1 => exact cr_ HO405)
    (case side2 => exact (Kd.R_reads' HO405.out).2.1)
    (case side3 => exact cr_ HO410)
    (case side4 => exact (Kd.R_reads' HO410.out).2.1)
    rintro e w18 ⟨v414, rfl, ho0, hb⟩
    refine ⟨_, rfl, ?_⟩
    have HO415 := am_ (Kd.R_lower (Kd.R_new' (Kd.R_new' ho0 (Kd.R_lt (kr_ HO405))) (Kd.R_lt (kr_ HO410))) (below_size (bl_ HB))); replace HO405 := am_ (Kd.R_elder' (kr_ HO405) (Kd.R_base ho0) hb); replace HO410 := am_ (Kd.R_elder' (kr_ HO410) (Kd.R_base ho0) hb); replace BK399 := am_ (blk_below (bk_ BK399) hb); replace BK400 := am_ (blk_below (bk_ BK400) hb); replace BK401 := am_ (blk_below (bk_ BK401) hb); replace BK417 := am_ (blk_below (bk_ BK417) hb); replace HB := am_ (below_step (bl_ HB) hb); (try clear hb); (try clear hb2); (try clear hk); (try clear hi); (try clear ho0)
    refine hK.out _ _ ⟨bc_ BK399 0, bc_ BK399 1, bc_ BK399 2, bc_ BK399 3, bc_ BK399 4, bc_ BK399 5, bc_ BK400 0, bc_ BK400 1, bc_ BK400 2, bc_ BK400 3, bc_ BK400 4, bc_ BK400 5⟩ (fun hHeld => ?_)
    clear hK K
    refine nr_ ?_
    exact norm_ (by simp only [putAll, Act.put, List.setIfInBounds_toArray, List.set_cons_zero, List.set_cons_succ]) (hCont (.slice Ao16 t403.length co16, .slice Ao17 t408.length co17, v414, gb417) _ ⟨hHeld, (km_ HO405 (fun _ hk => ⟨hk.1.2, hk.2⟩)), (km_ HO410 (fun _ hk => ⟨hk.1.2, hk.2⟩)), (km_ HO415 (fun _ hk => ⟨hk.1.2, hk.2⟩)), (bk_ BK399), (bk_ BK400), (bk_ BK401), (bk_ BK417), GW417.out, GE417.out, NB399_417.out, NB417_399.out, NB400_417.out, NB417_400.out, NB401_417.out, NB417_401.out, (bl_ HB)⟩)
  ·skip
   refine box_step ?hg (N := 5) ?hd (cs := #[.int .i64 0, .slice none 0 0, .int .i64 0]) (t := 45) ?hr ?_; (case hd => rfl); (case hg => rfl); (case hr => first | (go_simp; done) | (go_simp; rfl))
   intro gb417 hg w13 hbox hb
   have BK417 := am_ (hbox); have GW417 := am_ (gs_ hg HB); have GE417 := am_ (gs_ hg HB); replace HB := am_ (below_step (bl_ HB) hb); have NB399_417 := am_ (nl_ hg BK399); have NB417_399 := am_ (ng_ hg BK399); replace BK399 := am_ (blk_below (bk_ BK399) hb); have NB400_417 := am_ (nl_ hg BK400); have NB417_400 := am_ (ng_ hg BK400); replace BK400 := am_ (blk_below (bk_ BK400) hb); have NB401_417 := am_ (nl_ hg BK401); have NB417_401 := am_ (ng_ hg BK401); replace BK401 := am_ (blk_below (bk_ BK401) hb); clear hb hbox hg
   refine hK.out _ _ ⟨bc_ BK399 0, bc_ BK399 1, bc_ BK399 2, bc_ BK399 3, bc_ BK399 4, bc_ BK399 5, bc_ BK400 0, bc_ BK400 1, bc_ BK400 2, bc_ BK400 3, bc_ BK400 4, bc_ BK400 5⟩ (fun hHeld => ?_)
   clear hK K
   refine nr_ ?_
   refine one_ (i := 4) (N := some 10) #[true, true, true, true, true, true, true, true, true, false, false, true, false] rfl rfl (one_of HT_.out (by kernel_rfl)) (by decide) (fun K hK => ?_)
   refine goes_ Tryd.func71 (by kernel_rfl) rfl #[.agg #[.int .i64 a0_0, .slice A0_1 l0_1.length c0_1, .int .i64 a0_2], .agg #[.int .i64 a1_0, .slice A1_1 l1_1.length c1_1, .int .i64 a1_2]] (by rfl) rfl rfl ma_ ?_
   with_reducible refine (spec_l03Mul.calls k a0_0 _ _ l0_1 a0_2 a1_0 _ _ l1_1 a1_2 t402 t403 t406 _ ?side1 ?side2 ?side3 ?side4 A3.out).mono ?_
   (case side1 => exact cb_ HR0_1 HB)
   (case side2 => exact HC0_1.out)
   (case side3 => exact cb_ HR1_1 HB)
   (case side4 => exact HC1_1.out)
   rintro e w14 ⟨v404, rfl, ho0, hb⟩
   refine ⟨_, rfl, ?_⟩
   have HO405 := am_ (Kd.R_lower ho0 (below_size (bl_ HB))); replace BK399 := am_ (blk_below (bk_ BK399) hb); replace BK400 := am_ (blk_below (bk_ BK400) hb); replace BK401 := am_ (blk_below (bk_ BK401) hb); replace BK417 := am_ (blk_below (bk_ BK417) hb); replace HB := am_ (below_step (bl_ HB) hb); (try clear hb); (try clear hb2); (try clear hk); (try clear hi); (try clear ho0)
   refine hK.out _ _ ⟨bc_ BK399 0, bc_ BK399 1, bc_ BK399 2, bc_ BK399 3, bc_ BK399 4, bc_ BK399 5, bc_ BK400 0, bc_ BK400 1, bc_ BK400 2, bc_ BK400 3, bc_ BK400 4, bc_ BK400 5⟩ (fun hHeld => ?_)
   clear hK K
   refine nr_ ?_
   refine one_ (i := 9) (N := some 15) #[true, true, true, true, true, true, true, true, true, true, false, true, false] rfl rfl (one_of HT_.out (by kernel_rfl)) (by decide) (fun K hK => ?_)
   refine goes_ Tryd.func71 (by kernel_rfl) rfl #[.agg #[.int .i64 a0_3, .slice A0_4 l0_4.length c0_4, .int .i64 a0_5], .agg #[.int .i64 a1_3, .slice A1_4 l1_4.length c1_4, .int .i64 a1_5]] (by rfl) rfl rfl ma_ ?_
   with_reducible refine (spec_l03Mul.calls k a0_3 _ _ l0_4 a0_5 a1_3 _ _ l1_4 a1_5 t407 t408 t411 _ ?side1 ?side2 ?side3 ?side4 A4.out).mono ?_
   (case side1 => exact cb_ HR0_4 HB)
   (case side2 => exact HC0_4.out)
   (case side3 => exact cb_ HR1_4 HB)
   (case side4 => exact HC1_4.out)
   rintro e w15 ⟨v409, rfl, ho0, hb⟩
   refine ⟨_, rfl, ?_⟩
   have HO410 := am_ (Kd.R_lower (Kd.R_new' ho0 (Kd.R_lt (kr_ HO405))) (below_size (bl_ HB))); replace HO405 := am_ (Kd.R_elder' (kr_ HO405) (Kd.R_base ho0) hb); replace BK399 := am_ (blk_below (bk_ BK399) hb); replace BK400 := am_ (blk_below (bk_ BK400) hb); replace BK401 := am_ (blk_below (bk_ BK401) hb); replace BK417 := am_ (blk_below (bk_ BK417) hb); replace HB := am_ (below_step (bl_ HB) hb); (try clear hb); (try clear hb2); (try clear hk); (try clear hi); (try clear ho0)
   obtain ⟨Ao16, co16, eo16⟩ := Kd.R_slice HO405.out
   (first | subst eo16 | (injection eo16 with f1_ f2_ f3_; have f4_ := f1_.symm; have f5_ := f3_.symm; clear f1_ f2_ f3_; subst f4_; subst f5_))
   obtain ⟨Ao17, co17, eo17⟩ := Kd.R_slice HO410.out
   (first | subst eo17 | (injection eo17 with f1_ f2_ f3_; have f4_ := f1_.symm; have f5_ := f3_.symm; clear f1_ f2_ f3_; subst f4_; subst f5_))
   refine hK.out _ _ ⟨bc_ BK399 0, bc_ BK399 1, bc_ BK399 2, bc_ BK399 3, bc_ BK399 4, bc_ BK399 5, bc_ BK400 0, bc_ BK400 1, bc_ BK400 2, bc_ BK400 3, bc_ BK400 4, bc_ BK400 5⟩ (fun hHeld => ?_)
   clear hK K
   refine nr_ ?_
   refine one_ (i := 10) (N := some 16) #[true, true, true, true, true, true, true, true, true, true, true, true, false] rfl rfl (one_of HT_.out (by kernel_rfl)) (by decide) (fun K hK => ?_)
   refine goes_ Tryd.func122 (by kernel_rfl) rfl #[.agg #[.int .i64 t402, .slice Ao16 t403.length co16, .int .i64 t406], .agg #[.int .i64 t407, .slice Ao17 t408.length co17, .int .i64 t411]] (by rfl) rfl rfl ma_ ?_
   with_reducible refine (spec_l03Sub.calls k t402 _ _ t403 t406 t407 _ _ t408 t411 t412 t413 t416 _ ?side1 ?side2 ?side3 ?side4 A5.out).mono ?_
   (case side1 => exact cr_ HO405)
   (case side2 => exact (Kd.R_reads' HO405.out).2.1)
   (case side3 => exact cr_ HO410)
   (case side4 => exact (Kd.R_reads' HO410.out).2.1)
   rintro e w18 ⟨v414, rfl, ho0, hb⟩
   refine ⟨_, rfl, ?_⟩
   have HO415 := am_ (Kd.R_lower (Kd.R_new' (Kd.R_new' ho0 (Kd.R_lt (kr_ HO405))) (Kd.R_lt (kr_ HO410))) (below_size (bl_ HB))); replace HO405 := am_ (Kd.R_elder' (kr_ HO405) (Kd.R_base ho0) hb); replace HO410 := am_ (Kd.R_elder' (kr_ HO410) (Kd.R_base ho0) hb); replace BK399 := am_ (blk_below (bk_ BK399) hb); replace BK400 := am_ (blk_below (bk_ BK400) hb); replace BK401 := am_ (blk_below (bk_ BK401) hb); replace BK417 := am_ (blk_below (bk_ BK417) hb); replace HB := am_ (below_step (bl_ HB) hb); (try clear hb); (try clear hb2); (try clear hk); (try clear hi); (try clear ho0)
   refine hK.out _ _ ⟨bc_ BK399 0, bc_ BK399 1, bc_ BK399 2, bc_ BK399 3, bc_ BK399 4, bc_ BK399 5, bc_ BK400 0, bc_ BK400 1, bc_ BK400 2, bc_ BK400 3, bc_ BK400 4, bc_ BK400 5⟩ (fun hHeld => ?_)
   clear hK K
   refine nr_ ?_
   exact norm_ (by simp only [putAll, Act.put, List.setIfInBounds_toArray, List.set_cons_zero, List.set_cons_succ]) (hCont (.slice Ao16 t403.length co16, .slice Ao17 t408.length co17, v414, gb417) _ ⟨hHeld, (km_ HO405 (fun _ hk => ⟨hk.1.2, hk.2⟩)), (km_ HO410 (fun _ hk => ⟨hk.1.2, hk.2⟩)), (km_ HO415 (fun _ hk => ⟨hk.1.2, hk.2⟩)), (bk_ BK399), (bk_ BK400), (bk_ BK401), (bk_ BK417), GW417.out, GE417.out, NB399_417.out, NB417_399.out, NB400_417.out, NB417_400.out, NB401_417.out, NB417_401.out, (bl_ HB)⟩)
 rintro ⟨v404, v409, v414, gb417⟩ w19 ⟨hS_, h0_, h1_, h2_, h3_, h4_, h5_, h6_, h7_, h8_, h9_, h10_, h11_, h12_, h13_, h14_, h15_⟩
 try dsimp only at hS_ h0_ h1_ h2_ h3_ h4_ h5_ h6_ h7_ h8_ h9_ h10_ h11_ h12_ h13_ h14_ h15_
 have n0_ := am_ h0_
 have n1_ := am_ h1_
 have n2_ := am_ h2_
 have n3_ := am_ h3_
 have n4_ := am_ h4_
 have n5_ := am_ h5_
 have n6_ := am_ h6_
 have n7_ := am_ h7_
 have n8_ := am_ h8_
 have n9_ := am_ h9_
 have n10_ := am_ h10_
 have n11_ := am_ h11_
 have n12_ := am_ h12_
 have n13_ := am_ h13_
 have n14_ := am_ h14_
 have n15_ := am_ h15_
 clear BK399 BK400 BK401 HB h0_ h1_ h2_ h3_ h4_ h5_ h6_ h7_ h8_ h9_ h10_ h11_ h12_ h13_ h14_ h15_; have HO405 := n0_; have HO410 := n1_; have HO415 := n2_; have BK399 := n3_; have BK400 := n4_; have BK401 := n5_; have BK417 := n6_; have GW417 := n7_; have GE417 := n8_; have NB399_417 := n9_; have NB417_399 := n10_; have NB400_417 := n11_; have NB417_400 := n12_; have NB401_417 := n13_; have NB417_401 := n14_; have HB := n15_; clear n0_ n1_ n2_ n3_ n4_ n5_ n6_ n7_ n8_ n9_ n10_ n11_ n12_ n13_ n14_ n15_
 have hHeld : w19.cell? ⟨gb399, 0, none⟩ = some (.int .i64 a0_0) ∧ w19.cell? ⟨gb399, 1, none⟩ = some (.slice A0_1 l0_1.length c0_1) ∧ w19.cell? ⟨gb399, 2, none⟩ = some (.int .i64 a0_2) ∧ w19.cell? ⟨gb399, 3, none⟩ = some (.int .i64 a0_3) ∧ w19.cell? ⟨gb399, 4, none⟩ = some (.slice A0_4 l0_4.length c0_4) ∧ w19.cell? ⟨gb399, 5, none⟩ = some (.int .i64 a0_5) ∧ w19.cell? ⟨gb400, 0, none⟩ = some (.int .i64 a1_0) ∧ w19.cell? ⟨gb400, 1, none⟩ = some (.slice A1_1 l1_1.length c1_1) ∧ w19.cell? ⟨gb400, 2, none⟩ = some (.int .i64 a1_2) ∧ w19.cell? ⟨gb400, 3, none⟩ = some (.int .i64 a1_3) ∧ w19.cell? ⟨gb400, 4, none⟩ = some (.slice A1_4 l1_4.length c1_4) ∧ w19.cell? ⟨gb400, 5, none⟩ = some (.int .i64 a1_5) := hS_
 obtain ⟨Ao21, co21, eo21⟩ := Kd.R_slice HO415.out
 (first | subst eo21 | (injection eo21 with f1_ f2_ f3_; have f4_ := f1_.symm; have f5_ := f3_.symm; clear f1_ f2_ f3_; subst f4_; subst f5_))
 refine norm_ (a' := ?_) ?_ ?_
 rotate_left
 ·simp only [putAll, Act.put, List.setIfInBounds_toArray, List.set_cons_zero, List.set_cons_succ]
  rfl
 refine one_ (i := 12) (N := none) #[true, true, true, true, true, true, true, true, true, true, true, true, true] rfl rfl (one_of HT_.out (by kernel_rfl)) (by decide) (fun K hK => ?_)
 have hs20 : w19.cell? ⟨gb417, 0, none⟩ = some (.int .i64 0) := bc_ BK417 0
 have hfs20 := blk_frozen BK417.out 0; have hns20_0 := NB399_417.out; have hns20_1 := NB400_417.out; have hns20_2 := NB401_417.out; have hms20_0 := NB417_399.out; have hms20_1 := NB417_400.out; have hms20_2 := NB417_401.out
 have hs22 : w19.cell? ⟨gb417, 1, none⟩ = some (.slice none 0 0) := bc_ BK417 1
 have hfs22 := blk_frozen BK417.out 1; have hns22_0 := NB399_417.out; have hns22_1 := NB400_417.out; have hns22_2 := NB401_417.out; have hms22_0 := NB417_399.out; have hms22_1 := NB417_400.out; have hms22_2 := NB417_401.out
 have hs23 : w19.cell? ⟨gb417, 2, none⟩ = some (.int .i64 0) := bc_ BK417 2
 have hfs23 := blk_frozen BK417.out 2; have hns23_0 := NB399_417.out; have hns23_1 := NB400_417.out; have hns23_2 := NB401_417.out; have hms23_0 := NB417_399.out; have hms23_1 := NB417_400.out; have hms23_2 := NB417_401.out
 refine skip_ (w1 := ?_) (by rfl) rfl ?_ ?_
 rotate_left
 ·go_simp
  rfl
 refine hK.out _ _ ⟨((cell_far (p := ⟨gb417, _, none⟩) NB399_417.out _).trans (((cell_far (p := ⟨gb417, _, none⟩) NB399_417.out _).trans (((cell_far (p := ⟨gb417, _, none⟩) NB399_417.out _).trans (hHeld.1)))))), ((cell_far (p := ⟨gb417, _, none⟩) NB399_417.out _).trans (((cell_far (p := ⟨gb417, _, none⟩) NB399_417.out _).trans (((cell_far (p := ⟨gb417, _, none⟩) NB399_417.out _).trans (hHeld.2.1)))))), ((cell_far (p := ⟨gb417, _, none⟩) NB399_417.out _).trans (((cell_far (p := ⟨gb417, _, none⟩) NB399_417.out _).trans (((cell_far (p := ⟨gb417, _, none⟩) NB399_417.out _).trans (hHeld.2.2.1)))))), ((cell_far (p := ⟨gb417, _, none⟩) NB399_417.out _).trans (((cell_far (p := ⟨gb417, _, none⟩) NB399_417.out _).trans (((cell_far (p := ⟨gb417, _, none⟩) NB399_417.out _).trans (hHeld.2.2.2.1)))))), ((cell_far (p := ⟨gb417, _, none⟩) NB399_417.out _).trans (((cell_far (p := ⟨gb417, _, none⟩) NB399_417.out _).trans (((cell_far (p := ⟨gb417, _, none⟩) NB399_417.out _).trans (hHeld.2.2.2.2.1)))))), ((cell_far (p := ⟨gb417, _, none⟩) NB399_417.out _).trans (((cell_far (p := ⟨gb417, _, none⟩) NB399_417.out _).trans (((cell_far (p := ⟨gb417, _, none⟩) NB399_417.out _).trans (hHeld.2.2.2.2.2.1)))))), ((cell_far (p := ⟨gb417, _, none⟩) NB400_417.out _).trans (((cell_far (p := ⟨gb417, _, none⟩) NB400_417.out _).trans (((cell_far (p := ⟨gb417, _, none⟩) NB400_417.out _).trans (hHeld.2.2.2.2.2.2.1)))))), ((cell_far (p := ⟨gb417, _, none⟩) NB400_417.out _).trans (((cell_far (p := ⟨gb417, _, none⟩) NB400_417.out _).trans (((cell_far (p := ⟨gb417, _, none⟩) NB400_417.out _).trans (hHeld.2.2.2.2.2.2.2.1)))))), ((cell_far (p := ⟨gb417, _, none⟩) NB400_417.out _).trans (((cell_far (p := ⟨gb417, _, none⟩) NB400_417.out _).trans (((cell_far (p := ⟨gb417, _, none⟩) NB400_417.out _).trans (hHeld.2.2.2.2.2.2.2.2.1)))))), ((cell_far (p := ⟨gb417, _, none⟩) NB400_417.out _).trans (((cell_far (p := ⟨gb417, _, none⟩) NB400_417.out _).trans (((cell_far (p := ⟨gb417, _, none⟩) NB400_417.out _).trans (hHeld.2.2.2.2.2.2.2.2.2.1)))))), ((cell_far (p := ⟨gb417, _, none⟩) NB400_417.out _).trans (((cell_far (p := ⟨gb417, _, none⟩) NB400_417.out _).trans (((cell_far (p := ⟨gb417, _, none⟩) NB400_417.out _).trans (hHeld.2.2.2.2.2.2.2.2.2.2.1)))))), ((cell_far (p := ⟨gb417, _, none⟩) NB400_417.out _).trans (((cell_far (p := ⟨gb417, _, none⟩) NB400_417.out _).trans (((cell_far (p := ⟨gb417, _, none⟩) NB400_417.out _).trans (hHeld.2.2.2.2.2.2.2.2.2.2.2))))))⟩ (fun hHeld => ?_)
 clear hK K
 refine done_ (done_of HT_.out (by kernel_rfl)) ?_
 try go_wp2
 have n0_ : Aside0 (Kd.R (Kd.int .i64) 2 (((w19.setCell ⟨gb417, 0, none⟩ (.int .i64 t412)).setCell ⟨gb417, 1, none⟩ (.slice Ao21 t413.length co21)).setCell ⟨gb417, 2, none⟩ (.int .i64 t416)) w.heap.size (fun k_ => some k_ ≠ (v409 : Value).ownBlock ∧ some k_ ≠ (.slice Ao21 t413.length co21 : Value).ownBlock) v404 t403) := ⟨by (with_reducible repeat (first | apply Kd.R_alloc | apply Kd.R_drewN | apply Kd.R_drew)); exact Kd.R_mono (Kd.R_far (p := ⟨gb417, 2, none⟩) (Kd.R_far (p := ⟨gb417, 1, none⟩) (Kd.R_far (p := ⟨gb417, 0, none⟩) (Kd.R_types HO405.out BK417.out (by decide)) (fun _ hk => hk.2) (.int .i64 t412)) (fun _ hk => hk.2) (.slice Ao21 t413.length co21)) (fun _ hk => hk.2) (.int .i64 t416)) (fun _ hk => ⟨hk.1.1, hk.1.2⟩)⟩
 have n1_ : Aside0 (Kd.R (Kd.int .i64) 2 (((w19.setCell ⟨gb417, 0, none⟩ (.int .i64 t412)).setCell ⟨gb417, 1, none⟩ (.slice Ao21 t413.length co21)).setCell ⟨gb417, 2, none⟩ (.int .i64 t416)) w.heap.size (fun k_ => some k_ ≠ (v404 : Value).ownBlock ∧ some k_ ≠ (.slice Ao21 t413.length co21 : Value).ownBlock) v409 t408) := ⟨by (with_reducible repeat (first | apply Kd.R_alloc | apply Kd.R_drewN | apply Kd.R_drew)); exact Kd.R_mono (Kd.R_far (p := ⟨gb417, 2, none⟩) (Kd.R_far (p := ⟨gb417, 1, none⟩) (Kd.R_far (p := ⟨gb417, 0, none⟩) (Kd.R_types HO410.out BK417.out (by decide)) (fun _ hk => hk.2) (.int .i64 t412)) (fun _ hk => hk.2) (.slice Ao21 t413.length co21)) (fun _ hk => hk.2) (.int .i64 t416)) (fun _ hk => ⟨hk.1.1, hk.1.2⟩)⟩
 have n2_ : Aside0 (Kd.R (Kd.int .i64) 2 (((w19.setCell ⟨gb417, 0, none⟩ (.int .i64 t412)).setCell ⟨gb417, 1, none⟩ (.slice Ao21 t413.length co21)).setCell ⟨gb417, 2, none⟩ (.int .i64 t416)) w.heap.size (fun k_ => some k_ ≠ (v404 : Value).ownBlock ∧ some k_ ≠ (v409 : Value).ownBlock) (.slice Ao21 t413.length co21) t413) := ⟨by (with_reducible repeat (first | apply Kd.R_alloc | apply Kd.R_drewN | apply Kd.R_drew)); exact Kd.R_mono (Kd.R_far (p := ⟨gb417, 2, none⟩) (Kd.R_far (p := ⟨gb417, 1, none⟩) (Kd.R_far (p := ⟨gb417, 0, none⟩) (Kd.R_types HO415.out BK417.out (by decide)) (fun _ hk => hk.2) (.int .i64 t412)) (fun _ hk => hk.2) (.slice Ao21 t413.length co21)) (fun _ hk => hk.2) (.int .i64 t416)) (fun _ hk => ⟨hk.1.1, hk.1.2⟩)⟩
 have n3_ : Aside0 ((((w19.setCell ⟨gb417, 0, none⟩ (.int .i64 t412)).setCell ⟨gb417, 1, none⟩ (.slice Ao21 t413.length co21)).setCell ⟨gb417, 2, none⟩ (.int .i64 t416)).heap[gb399]? = some (.cells #[.int .i64 a0_0, .slice A0_1 l0_1.length c0_1, .int .i64 a0_2, .int .i64 a0_3, .slice A0_4 l0_4.length c0_4, .int .i64 a0_5] 47 (0, 0))) := ⟨bk_ BK399⟩
 have n4_ : Aside0 ((((w19.setCell ⟨gb417, 0, none⟩ (.int .i64 t412)).setCell ⟨gb417, 1, none⟩ (.slice Ao21 t413.length co21)).setCell ⟨gb417, 2, none⟩ (.int .i64 t416)).heap[gb400]? = some (.cells #[.int .i64 a1_0, .slice A1_1 l1_1.length c1_1, .int .i64 a1_2, .int .i64 a1_3, .slice A1_4 l1_4.length c1_4, .int .i64 a1_5] 47 (0, 0))) := ⟨bk_ BK400⟩
 have n5_ : Aside0 ((((w19.setCell ⟨gb417, 0, none⟩ (.int .i64 t412)).setCell ⟨gb417, 1, none⟩ (.slice Ao21 t413.length co21)).setCell ⟨gb417, 2, none⟩ (.int .i64 t416)).heap[gb401]? = some (.cells #[.int .i64 0, .slice none 0 0, .int .i64 0, .int .i64 0, .slice none 0 0, .int .i64 0] 47 (0, 0))) := ⟨bk_ BK401⟩
 have n6_ : Aside0 ((((w19.setCell ⟨gb417, 0, none⟩ (.int .i64 t412)).setCell ⟨gb417, 1, none⟩ (.slice Ao21 t413.length co21)).setCell ⟨gb417, 2, none⟩ (.int .i64 t416)).heap[gb417]? = some (.cells #[.int .i64 t412, .slice Ao21 t413.length co21, .int .i64 t416] 45 (0, 0))) := ⟨bp3_ BK417⟩
 have n7_ : Aside0 (Below w.heap.size w (((w19.setCell ⟨gb417, 0, none⟩ (.int .i64 t412)).setCell ⟨gb417, 1, none⟩ (.slice Ao21 t413.length co21)).setCell ⟨gb417, 2, none⟩ (.int .i64 t416))) := ⟨bl_ HB⟩
 (try clear HO405); (try clear HO410); (try clear HO415); (try clear BK399); (try clear BK400); (try clear BK401); (try clear BK417); (try clear HB)
 generalize (((w19.setCell ⟨gb417, 0, none⟩ (.int .i64 t412)).setCell ⟨gb417, 1, none⟩ (.slice Ao21 t413.length co21)).setCell ⟨gb417, 2, none⟩ (.int .i64 t416)) = w24 at n0_ n1_ n2_ n3_ n4_ n5_ n6_ n7_ ⊢
 have HO405 := n0_; have HO410 := n1_; have HO415 := n2_; have BK399 := n3_; have BK400 := n4_; have BK401 := n5_; have BK417 := n6_; have HB := n7_; clear n0_ n1_ n2_ n3_ n4_ n5_ n6_ n7_; replace HO405 := am_ (Kd.R_drew HO405.out); replace HO410 := am_ (Kd.R_drew HO410.out); replace HO415 := am_ (Kd.R_drew HO415.out); replace BK399 := am_ (blk_drew BK399.out); replace BK400 := am_ (blk_drew BK400.out); replace BK401 := am_ (blk_drew BK401.out); replace BK417 := am_ (blk_drew BK417.out); replace HB := am_ (below_drew1 HB.out)
 refine start_ (n := 14) (S := fun w' => w'.cell? ⟨gb417, 0, none⟩ = some (.int .i64 t412) ∧ w'.cell? ⟨gb417, 1, none⟩ = some (.slice Ao21 t413.length co21) ∧ w'.cell? ⟨gb417, 2, none⟩ = some (.int .i64 t416) ∧ w'.cell? ⟨gb399, 0, none⟩ = some (.int .i64 a0_0) ∧ w'.cell? ⟨gb399, 1, none⟩ = some (.slice A0_1 l0_1.length c0_1) ∧ w'.cell? ⟨gb399, 2, none⟩ = some (.int .i64 a0_2) ∧ w'.cell? ⟨gb399, 3, none⟩ = some (.int .i64 a0_3) ∧ w'.cell? ⟨gb399, 4, none⟩ = some (.slice A0_4 l0_4.length c0_4) ∧ w'.cell? ⟨gb399, 5, none⟩ = some (.int .i64 a0_5) ∧ w'.cell? ⟨gb400, 0, none⟩ = some (.int .i64 a1_0) ∧ w'.cell? ⟨gb400, 1, none⟩ = some (.slice A1_1 l1_1.length c1_1) ∧ w'.cell? ⟨gb400, 2, none⟩ = some (.int .i64 a1_2) ∧ w'.cell? ⟨gb400, 3, none⟩ = some (.int .i64 a1_3) ∧ w'.cell? ⟨gb400, 4, none⟩ = some (.slice A1_4 l1_4.length c1_4) ∧ w'.cell? ⟨gb400, 5, none⟩ = some (.int .i64 a1_5)) (ds := []) #[false, false, false, false, false, false, false, false, false, false, false, false, false, false] (by kernel_rfl) rfl rfl ⟨bc_ BK417 0, bc_ BK417 1, bc_ BK417 2, bc_ BK399 0, bc_ BK399 1, bc_ BK399 2, bc_ BK399 3, bc_ BK399 4, bc_ BK399 5, bc_ BK400 0, bc_ BK400 1, bc_ BK400 2, bc_ BK400 3, bc_ BK400 4, bc_ BK400 5⟩ (fun hHeld => ?_); refine with_tabW spec_l03Times.tab2 spec_l03Times.bits2 (fun HT_ HW_ => ?_)
 generalize w24.drew = w25 at HO405 HO410 HO415 BK399 BK400 BK401 BK417 HB hHeld ⊢
 refine pu_ #[false, true, false, false, false, false, false, false, false, false, false, false, false, false] 1 18 (any_of HT_.out (by kernel_rfl)) ?_
 refine pu_ #[false, true, false, true, false, false, false, false, false, false, false, false, false, false] 3 20 (any_of HT_.out (by kernel_rfl)) ?_
 refine pu_ #[false, true, false, true, false, false, true, false, false, false, false, false, false, false] 6 23 (any_of HT_.out (by kernel_rfl)) ?_
 refine pu_ #[false, true, false, true, false, false, true, false, true, false, false, false, false, false] 8 25 (any_of HT_.out (by kernel_rfl)) ?_
 refine tk_ #[true, true, false, true, false, false, true, false, true, false, false, false, false, false] 0 17 (take_ofW HT_.out HW_.out (by kernel_rfl)) hHeld ?_
 refine tk_ #[true, true, true, true, false, false, true, false, true, false, false, false, false, false] 2 19 (take_ofW HT_.out HW_.out (by kernel_rfl)) hHeld ?_
 refine tk_ #[true, true, true, true, true, false, true, false, true, false, false, false, false, false] 4 21 (take_ofW HT_.out HW_.out (by kernel_rfl)) hHeld ?_
 refine tk_ #[true, true, true, true, true, false, true, true, true, false, false, false, false, false] 7 24 (take_ofW HT_.out HW_.out (by kernel_rfl)) hHeld ?_
 refine tk_ #[true, true, true, true, true, false, true, true, true, true, false, false, false, false] 9 26 (take_ofW HT_.out HW_.out (by kernel_rfl)) hHeld ?_
 refine one_ (i := 5) (N := some 22) #[true, true, true, true, true, true, true, true, true, true, false, false, false, false] rfl rfl (one_of HT_.out (by kernel_rfl)) (by decide) (fun K hK => ?_)
 refine goes_ Tryd.func71 (by kernel_rfl) rfl #[.agg #[.int .i64 a0_0, .slice A0_1 l0_1.length c0_1, .int .i64 a0_2], .agg #[.int .i64 a1_3, .slice A1_4 l1_4.length c1_4, .int .i64 a1_5]] (by rfl) rfl rfl ma_ ?_
 with_reducible refine (spec_l03Mul.calls k a0_0 _ _ l0_1 a0_2 a1_3 _ _ l1_4 a1_5 t418 t419 t422 _ ?side1 ?side2 ?side3 ?side4 A6.out).mono ?_
 (case side1 => exact cb_ HR0_1 HB)
 (case side2 => exact HC0_1.out)
 (case side3 => exact cb_ HR1_4 HB)
 (case side4 => exact HC1_4.out)
 rintro e w26 ⟨v420, rfl, ho0, hb⟩
 refine ⟨_, rfl, ?_⟩
 have HO421 := am_ (Kd.R_lower (Kd.R_new' (Kd.R_new' (Kd.R_new' ho0 (Kd.R_lt (kr_ HO405))) (Kd.R_lt (kr_ HO410))) (Kd.R_lt (kr_ HO415))) (below_size (bl_ HB))); replace HO405 := am_ (Kd.R_elder' (kr_ HO405) (Kd.R_base ho0) hb); replace HO410 := am_ (Kd.R_elder' (kr_ HO410) (Kd.R_base ho0) hb); replace HO415 := am_ (Kd.R_elder' (kr_ HO415) (Kd.R_base ho0) hb); replace BK399 := am_ (blk_below (bk_ BK399) hb); replace BK400 := am_ (blk_below (bk_ BK400) hb); replace BK401 := am_ (blk_below (bk_ BK401) hb); replace BK417 := am_ (blk_below (bk_ BK417) hb); replace HB := am_ (below_step (bl_ HB) hb); (try clear hb); (try clear hb2); (try clear hk); (try clear hi); (try clear ho0)
 refine hK.out _ _ ⟨bc_ BK417 0, bc_ BK417 1, bc_ BK417 2, bc_ BK399 0, bc_ BK399 1, bc_ BK399 2, bc_ BK399 3, bc_ BK399 4, bc_ BK399 5, bc_ BK400 0, bc_ BK400 1, bc_ BK400 2, bc_ BK400 3, bc_ BK400 4, bc_ BK400 5⟩ (fun hHeld => ?_)
 clear hK K
 refine nr_ ?_
 refine one_ (i := 10) (N := some 27) #[true, true, true, true, true, true, true, true, true, true, true, false, false, false] rfl rfl (one_of HT_.out (by kernel_rfl)) (by decide) (fun K hK => ?_)
 refine goes_ Tryd.func71 (by kernel_rfl) rfl #[.agg #[.int .i64 a0_3, .slice A0_4 l0_4.length c0_4, .int .i64 a0_5], .agg #[.int .i64 a1_0, .slice A1_1 l1_1.length c1_1, .int .i64 a1_2]] (by rfl) rfl rfl ma_ ?_
 with_reducible refine (spec_l03Mul.calls k a0_3 _ _ l0_4 a0_5 a1_0 _ _ l1_1 a1_2 t423 t424 t427 _ ?side1 ?side2 ?side3 ?side4 A7.out).mono ?_
 (case side1 => exact cb_ HR0_4 HB)
 (case side2 => exact HC0_4.out)
 (case side3 => exact cb_ HR1_1 HB)
 (case side4 => exact HC1_1.out)
 rintro e w27 ⟨v425, rfl, ho0, hb⟩
 refine ⟨_, rfl, ?_⟩
 have HO426 := am_ (Kd.R_lower (Kd.R_new' (Kd.R_new' (Kd.R_new' (Kd.R_new' ho0 (Kd.R_lt (kr_ HO405))) (Kd.R_lt (kr_ HO410))) (Kd.R_lt (kr_ HO415))) (Kd.R_lt (kr_ HO421))) (below_size (bl_ HB))); replace HO405 := am_ (Kd.R_elder' (kr_ HO405) (Kd.R_base ho0) hb); replace HO410 := am_ (Kd.R_elder' (kr_ HO410) (Kd.R_base ho0) hb); replace HO415 := am_ (Kd.R_elder' (kr_ HO415) (Kd.R_base ho0) hb); replace HO421 := am_ (Kd.R_elder' (kr_ HO421) (Kd.R_base ho0) hb); replace BK399 := am_ (blk_below (bk_ BK399) hb); replace BK400 := am_ (blk_below (bk_ BK400) hb); replace BK401 := am_ (blk_below (bk_ BK401) hb); replace BK417 := am_ (blk_below (bk_ BK417) hb); replace HB := am_ (below_step (bl_ HB) hb); (try clear hb); (try clear hb2); (try clear hk); (try clear hi); (try clear ho0)
 obtain ⟨Ao28, co28, eo28⟩ := Kd.R_slice HO421.out
 (first | subst eo28 | (injection eo28 with f1_ f2_ f3_; have f4_ := f1_.symm; have f5_ := f3_.symm; clear f1_ f2_ f3_; subst f4_; subst f5_))
 obtain ⟨Ao29, co29, eo29⟩ := Kd.R_slice HO426.out
 (first | subst eo29 | (injection eo29 with f1_ f2_ f3_; have f4_ := f1_.symm; have f5_ := f3_.symm; clear f1_ f2_ f3_; subst f4_; subst f5_))
 refine hK.out _ _ ⟨bc_ BK417 0, bc_ BK417 1, bc_ BK417 2, bc_ BK399 0, bc_ BK399 1, bc_ BK399 2, bc_ BK399 3, bc_ BK399 4, bc_ BK399 5, bc_ BK400 0, bc_ BK400 1, bc_ BK400 2, bc_ BK400 3, bc_ BK400 4, bc_ BK400 5⟩ (fun hHeld => ?_)
 clear hK K
 refine nr_ ?_
 refine one_ (i := 11) (N := some 28) #[true, true, true, true, true, true, true, true, true, true, true, true, false, false] rfl rfl (one_of HT_.out (by kernel_rfl)) (by decide) (fun K hK => ?_)
 refine goes_ Tryd.func115 (by kernel_rfl) rfl #[.agg #[.int .i64 t418, .slice Ao28 t419.length co28, .int .i64 t422], .agg #[.int .i64 t423, .slice Ao29 t424.length co29, .int .i64 t427]] (by rfl) rfl rfl ma_ ?_
 with_reducible refine (spec_l03Add.calls k t418 _ _ t419 t422 t423 _ _ t424 t427 t428 t429 t432 _ ?side1 ?side2 ?side3 ?side4 A8.out).mono ?_
 (case side1 => exact cr_ HO421)
 (case side2 => exact (Kd.R_reads' HO421.out).2.1)
 (case side3 => exact cr_ HO426)
 (case side4 => exact (Kd.R_reads' HO426.out).2.1)
 rintro e w30 ⟨v430, rfl, ho0, hb⟩
 refine ⟨_, rfl, ?_⟩
 have HO431 := am_ (Kd.R_lower (Kd.R_new' (Kd.R_new' (Kd.R_new' (Kd.R_new' (Kd.R_new' ho0 (Kd.R_lt (kr_ HO405))) (Kd.R_lt (kr_ HO410))) (Kd.R_lt (kr_ HO415))) (Kd.R_lt (kr_ HO421))) (Kd.R_lt (kr_ HO426))) (below_size (bl_ HB))); replace HO405 := am_ (Kd.R_elder' (kr_ HO405) (Kd.R_base ho0) hb); replace HO410 := am_ (Kd.R_elder' (kr_ HO410) (Kd.R_base ho0) hb); replace HO415 := am_ (Kd.R_elder' (kr_ HO415) (Kd.R_base ho0) hb); replace HO421 := am_ (Kd.R_elder' (kr_ HO421) (Kd.R_base ho0) hb); replace HO426 := am_ (Kd.R_elder' (kr_ HO426) (Kd.R_base ho0) hb); replace BK399 := am_ (blk_below (bk_ BK399) hb); replace BK400 := am_ (blk_below (bk_ BK400) hb); replace BK401 := am_ (blk_below (bk_ BK401) hb); replace BK417 := am_ (blk_below (bk_ BK417) hb); replace HB := am_ (below_step (bl_ HB) hb); (try clear hb); (try clear hb2); (try clear hk); (try clear hi); (try clear ho0)
 obtain ⟨Ao31, co31, eo31⟩ := Kd.R_slice HO431.out
 (first | subst eo31 | (injection eo31 with f1_ f2_ f3_; have f4_ := f1_.symm; have f5_ := f3_.symm; clear f1_ f2_ f3_; subst f4_; subst f5_))
 refine hK.out _ _ ⟨bc_ BK417 0, bc_ BK417 1, bc_ BK417 2, bc_ BK399 0, bc_ BK399 1, bc_ BK399 2, bc_ BK399 3, bc_ BK399 4, bc_ BK399 5, bc_ BK400 0, bc_ BK400 1, bc_ BK400 2, bc_ BK400 3, bc_ BK400 4, bc_ BK400 5⟩ (fun hHeld => ?_)
 clear hK K
 refine nr_ ?_
 refine pu_ #[true, true, true, true, true, true, true, true, true, true, true, true, true, false] 12 29 (any_of HT_.out (by kernel_rfl)) ?_
 refine one_ (i := 13) (N := none) #[true, true, true, true, true, true, true, true, true, true, true, true, true, true] rfl rfl (one_of HT_.out (by kernel_rfl)) (by decide) (fun K hK => ?_)
 have hs32 : w30.cell? ⟨gb401, 0, none⟩ = some (.int .i64 0) := bc_ BK401 0
 have hfs32 := blk_frozen BK401.out 0; have hns32_0 := NB399_401.out; have hns32_1 := NB400_401.out; have hns32_3 := NB417_401.out; have hms32_0 := NB401_399.out; have hms32_1 := NB401_400.out; have hms32_3 := NB401_417.out
 have hs33 : w30.cell? ⟨gb401, 1, none⟩ = some (.slice none 0 0) := bc_ BK401 1
 have hfs33 := blk_frozen BK401.out 1; have hns33_0 := NB399_401.out; have hns33_1 := NB400_401.out; have hns33_3 := NB417_401.out; have hms33_0 := NB401_399.out; have hms33_1 := NB401_400.out; have hms33_3 := NB401_417.out
 have hs34 : w30.cell? ⟨gb401, 2, none⟩ = some (.int .i64 0) := bc_ BK401 2
 have hfs34 := blk_frozen BK401.out 2; have hns34_0 := NB399_401.out; have hns34_1 := NB400_401.out; have hns34_3 := NB417_401.out; have hms34_0 := NB401_399.out; have hms34_1 := NB401_400.out; have hms34_3 := NB401_417.out
 have hs35 : w30.cell? ⟨gb401, 3, none⟩ = some (.int .i64 0) := bc_ BK401 3
 have hfs35 := blk_frozen BK401.out 3; have hns35_0 := NB399_401.out; have hns35_1 := NB400_401.out; have hns35_3 := NB417_401.out; have hms35_0 := NB401_399.out; have hms35_1 := NB401_400.out; have hms35_3 := NB401_417.out
 have hs36 : w30.cell? ⟨gb401, 4, none⟩ = some (.slice none 0 0) := bc_ BK401 4
 have hfs36 := blk_frozen BK401.out 4; have hns36_0 := NB399_401.out; have hns36_1 := NB400_401.out; have hns36_3 := NB417_401.out; have hms36_0 := NB401_399.out; have hms36_1 := NB401_400.out; have hms36_3 := NB401_417.out
 have hs37 : w30.cell? ⟨gb401, 5, none⟩ = some (.int .i64 0) := bc_ BK401 5
 have hfs37 := blk_frozen BK401.out 5; have hns37_0 := NB399_401.out; have hns37_1 := NB400_401.out; have hns37_3 := NB417_401.out; have hms37_0 := NB401_399.out; have hms37_1 := NB401_400.out; have hms37_3 := NB401_417.out
 refine skip_ (w1 := ?_) (by rfl) rfl ?_ ?_
 rotate_left
 ·go_simp
  rfl
 refine hK.out _ _ ⟨((cell_far (p := ⟨gb401, _, none⟩) NB417_401.out _).trans (((cell_far (p := ⟨gb401, _, none⟩) NB417_401.out _).trans (((cell_far (p := ⟨gb401, _, none⟩) NB417_401.out _).trans (((cell_far (p := ⟨gb401, _, none⟩) NB417_401.out _).trans (((cell_far (p := ⟨gb401, _, none⟩) NB417_401.out _).trans (((cell_far (p := ⟨gb401, _, none⟩) NB417_401.out _).trans (hHeld.1)))))))))))), ((cell_far (p := ⟨gb401, _, none⟩) NB417_401.out _).trans (((cell_far (p := ⟨gb401, _, none⟩) NB417_401.out _).trans (((cell_far (p := ⟨gb401, _, none⟩) NB417_401.out _).trans (((cell_far (p := ⟨gb401, _, none⟩) NB417_401.out _).trans (((cell_far (p := ⟨gb401, _, none⟩) NB417_401.out _).trans (((cell_far (p := ⟨gb401, _, none⟩) NB417_401.out _).trans (hHeld.2.1)))))))))))), ((cell_far (p := ⟨gb401, _, none⟩) NB417_401.out _).trans (((cell_far (p := ⟨gb401, _, none⟩) NB417_401.out _).trans (((cell_far (p := ⟨gb401, _, none⟩) NB417_401.out _).trans (((cell_far (p := ⟨gb401, _, none⟩) NB417_401.out _).trans (((cell_far (p := ⟨gb401, _, none⟩) NB417_401.out _).trans (((cell_far (p := ⟨gb401, _, none⟩) NB417_401.out _).trans (hHeld.2.2.1)))))))))))), ((cell_far (p := ⟨gb401, _, none⟩) NB399_401.out _).trans (((cell_far (p := ⟨gb401, _, none⟩) NB399_401.out _).trans (((cell_far (p := ⟨gb401, _, none⟩) NB399_401.out _).trans (((cell_far (p := ⟨gb401, _, none⟩) NB399_401.out _).trans (((cell_far (p := ⟨gb401, _, none⟩) NB399_401.out _).trans (((cell_far (p := ⟨gb401, _, none⟩) NB399_401.out _).trans (hHeld.2.2.2.1)))))))))))), ((cell_far (p := ⟨gb401, _, none⟩) NB399_401.out _).trans (((cell_far (p := ⟨gb401, _, none⟩) NB399_401.out _).trans (((cell_far (p := ⟨gb401, _, none⟩) NB399_401.out _).trans (((cell_far (p := ⟨gb401, _, none⟩) NB399_401.out _).trans (((cell_far (p := ⟨gb401, _, none⟩) NB399_401.out _).trans (((cell_far (p := ⟨gb401, _, none⟩) NB399_401.out _).trans (hHeld.2.2.2.2.1)))))))))))), ((cell_far (p := ⟨gb401, _, none⟩) NB399_401.out _).trans (((cell_far (p := ⟨gb401, _, none⟩) NB399_401.out _).trans (((cell_far (p := ⟨gb401, _, none⟩) NB399_401.out _).trans (((cell_far (p := ⟨gb401, _, none⟩) NB399_401.out _).trans (((cell_far (p := ⟨gb401, _, none⟩) NB399_401.out _).trans (((cell_far (p := ⟨gb401, _, none⟩) NB399_401.out _).trans (hHeld.2.2.2.2.2.1)))))))))))), ((cell_far (p := ⟨gb401, _, none⟩) NB399_401.out _).trans (((cell_far (p := ⟨gb401, _, none⟩) NB399_401.out _).trans (((cell_far (p := ⟨gb401, _, none⟩) NB399_401.out _).trans (((cell_far (p := ⟨gb401, _, none⟩) NB399_401.out _).trans (((cell_far (p := ⟨gb401, _, none⟩) NB399_401.out _).trans (((cell_far (p := ⟨gb401, _, none⟩) NB399_401.out _).trans (hHeld.2.2.2.2.2.2.1)))))))))))), ((cell_far (p := ⟨gb401, _, none⟩) NB399_401.out _).trans (((cell_far (p := ⟨gb401, _, none⟩) NB399_401.out _).trans (((cell_far (p := ⟨gb401, _, none⟩) NB399_401.out _).trans (((cell_far (p := ⟨gb401, _, none⟩) NB399_401.out _).trans (((cell_far (p := ⟨gb401, _, none⟩) NB399_401.out _).trans (((cell_far (p := ⟨gb401, _, none⟩) NB399_401.out _).trans (hHeld.2.2.2.2.2.2.2.1)))))))))))), ((cell_far (p := ⟨gb401, _, none⟩) NB399_401.out _).trans (((cell_far (p := ⟨gb401, _, none⟩) NB399_401.out _).trans (((cell_far (p := ⟨gb401, _, none⟩) NB399_401.out _).trans (((cell_far (p := ⟨gb401, _, none⟩) NB399_401.out _).trans (((cell_far (p := ⟨gb401, _, none⟩) NB399_401.out _).trans (((cell_far (p := ⟨gb401, _, none⟩) NB399_401.out _).trans (hHeld.2.2.2.2.2.2.2.2.1)))))))))))), ((cell_far (p := ⟨gb401, _, none⟩) NB400_401.out _).trans (((cell_far (p := ⟨gb401, _, none⟩) NB400_401.out _).trans (((cell_far (p := ⟨gb401, _, none⟩) NB400_401.out _).trans (((cell_far (p := ⟨gb401, _, none⟩) NB400_401.out _).trans (((cell_far (p := ⟨gb401, _, none⟩) NB400_401.out _).trans (((cell_far (p := ⟨gb401, _, none⟩) NB400_401.out _).trans (hHeld.2.2.2.2.2.2.2.2.2.1)))))))))))), ((cell_far (p := ⟨gb401, _, none⟩) NB400_401.out _).trans (((cell_far (p := ⟨gb401, _, none⟩) NB400_401.out _).trans (((cell_far (p := ⟨gb401, _, none⟩) NB400_401.out _).trans (((cell_far (p := ⟨gb401, _, none⟩) NB400_401.out _).trans (((cell_far (p := ⟨gb401, _, none⟩) NB400_401.out _).trans (((cell_far (p := ⟨gb401, _, none⟩) NB400_401.out _).trans (hHeld.2.2.2.2.2.2.2.2.2.2.1)))))))))))), ((cell_far (p := ⟨gb401, _, none⟩) NB400_401.out _).trans (((cell_far (p := ⟨gb401, _, none⟩) NB400_401.out _).trans (((cell_far (p := ⟨gb401, _, none⟩) NB400_401.out _).trans (((cell_far (p := ⟨gb401, _, none⟩) NB400_401.out _).trans (((cell_far (p := ⟨gb401, _, none⟩) NB400_401.out _).trans (((cell_far (p := ⟨gb401, _, none⟩) NB400_401.out _).trans (hHeld.2.2.2.2.2.2.2.2.2.2.2.1)))))))))))), ((cell_far (p := ⟨gb401, _, none⟩) NB400_401.out _).trans (((cell_far (p := ⟨gb401, _, none⟩) NB400_401.out _).trans (((cell_far (p := ⟨gb401, _, none⟩) NB400_401.out _).trans (((cell_far (p := ⟨gb401, _, none⟩) NB400_401.out _).trans (((cell_far (p := ⟨gb401, _, none⟩) NB400_401.out _).trans (((cell_far (p := ⟨gb401, _, none⟩) NB400_401.out _).trans (hHeld.2.2.2.2.2.2.2.2.2.2.2.2.1)))))))))))), ((cell_far (p := ⟨gb401, _, none⟩) NB400_401.out _).trans (((cell_far (p := ⟨gb401, _, none⟩) NB400_401.out _).trans (((cell_far (p := ⟨gb401, _, none⟩) NB400_401.out _).trans (((cell_far (p := ⟨gb401, _, none⟩) NB400_401.out _).trans (((cell_far (p := ⟨gb401, _, none⟩) NB400_401.out _).trans (((cell_far (p := ⟨gb401, _, none⟩) NB400_401.out _).trans (hHeld.2.2.2.2.2.2.2.2.2.2.2.2.2.1)))))))))))), ((cell_far (p := ⟨gb401, _, none⟩) NB400_401.out _).trans (((cell_far (p := ⟨gb401, _, none⟩) NB400_401.out _).trans (((cell_far (p := ⟨gb401, _, none⟩) NB400_401.out _).trans (((cell_far (p := ⟨gb401, _, none⟩) NB400_401.out _).trans (((cell_far (p := ⟨gb401, _, none⟩) NB400_401.out _).trans (((cell_far (p := ⟨gb401, _, none⟩) NB400_401.out _).trans (hHeld.2.2.2.2.2.2.2.2.2.2.2.2.2.2))))))))))))⟩ (fun hHeld => ?_)
 clear hK K
 refine done_ (done_of HT_.out (by kernel_rfl)) ?_
 try go_wp2
 refine bodyPost_ret (results_cell_row rfl _ _ gb401 47 #[.int .i64 t412, .slice Ao21 t413.length co21, .int .i64 t416, .int .i64 t428, .slice Ao31 t429.length co31, .int .i64 t432] (0, 0) _ rfl (by (with_reducible repeat (first | refine blk_drewN ?_ _ | refine blk_drew ?_ | refine blk_alloc ?_ _)); refine blk_put (cs := #[.int .i64 t412, .slice Ao21 t413.length co21, .int .i64 t416, .int .i64 t428, .slice Ao31 t429.length co31, .int .i64 0]) ?_ 5 _ rfl; (with_reducible repeat (first | refine blk_drewN ?_ _ | refine blk_drew ?_ | refine blk_alloc ?_ _)); refine blk_put (cs := #[.int .i64 t412, .slice Ao21 t413.length co21, .int .i64 t416, .int .i64 t428, .slice none 0 0, .int .i64 0]) ?_ 4 _ rfl; (with_reducible repeat (first | refine blk_drewN ?_ _ | refine blk_drew ?_ | refine blk_alloc ?_ _)); refine blk_put (cs := #[.int .i64 t412, .slice Ao21 t413.length co21, .int .i64 t416, .int .i64 0, .slice none 0 0, .int .i64 0]) ?_ 3 _ rfl; (with_reducible repeat (first | refine blk_drewN ?_ _ | refine blk_drew ?_ | refine blk_alloc ?_ _)); refine blk_put (cs := #[.int .i64 t412, .slice Ao21 t413.length co21, .int .i64 0, .int .i64 0, .slice none 0 0, .int .i64 0]) ?_ 2 _ rfl; (with_reducible repeat (first | refine blk_drewN ?_ _ | refine blk_drew ?_ | refine blk_alloc ?_ _)); refine blk_put (cs := #[.int .i64 t412, .slice none 0 0, .int .i64 0, .int .i64 0, .slice none 0 0, .int .i64 0]) ?_ 1 _ rfl; (with_reducible repeat (first | refine blk_drewN ?_ _ | refine blk_drew ?_ | refine blk_alloc ?_ _)); refine blk_put (cs := #[.int .i64 0, .slice none 0 0, .int .i64 0, .int .i64 0, .slice none 0 0, .int .i64 0]) ?_ 0 _ rfl; (with_reducible repeat (first | refine blk_drewN ?_ _ | refine blk_drew ?_ | refine blk_alloc ?_ _)); exact BK401.out) Tryd.underlying47 rfl (by kernel_rfl)) rfl ?_
 exact ⟨_, _, by first | rfl | (simp [errW_none, errW_some] <;> rfl) | (simp [*, errW_none, errW_some] <;> rfl), by (with_reducible repeat (first | apply Kd.R_alloc | apply Kd.R_drewN | apply Kd.R_drew)); exact Kd.R_mono (Kd.R_far (p := ⟨gb401, 5, none⟩) (Kd.R_far (p := ⟨gb401, 4, none⟩) (Kd.R_far (p := ⟨gb401, 3, none⟩) (Kd.R_far (p := ⟨gb401, 2, none⟩) (Kd.R_far (p := ⟨gb401, 1, none⟩) (Kd.R_far (p := ⟨gb401, 0, none⟩) (Kd.R_types HO415.out BK401.out (by decide)) (fun _ hk => hk.2) (.int .i64 t412)) (fun _ hk => hk.2) (.slice Ao21 t413.length co21)) (fun _ hk => hk.2) (.int .i64 t416)) (fun _ hk => hk.2) (.int .i64 t428)) (fun _ hk => hk.2) (.slice Ao31 t429.length co31)) (fun _ hk => hk.2) (.int .i64 t432)) (fun _ hk => hk.1.2), by (with_reducible repeat (first | apply Kd.R_alloc | apply Kd.R_drewN | apply Kd.R_drew)); exact Kd.R_mono (Kd.R_far (p := ⟨gb401, 5, none⟩) (Kd.R_far (p := ⟨gb401, 4, none⟩) (Kd.R_far (p := ⟨gb401, 3, none⟩) (Kd.R_far (p := ⟨gb401, 2, none⟩) (Kd.R_far (p := ⟨gb401, 1, none⟩) (Kd.R_far (p := ⟨gb401, 0, none⟩) (Kd.R_types HO431.out BK401.out (by decide)) (fun _ hk => hk.2) (.int .i64 t412)) (fun _ hk => hk.2) (.slice Ao21 t413.length co21)) (fun _ hk => hk.2) (.int .i64 t416)) (fun _ hk => hk.2) (.int .i64 t428)) (fun _ hk => hk.2) (.slice Ao31 t429.length co31)) (fun _ hk => hk.2) (.int .i64 t432)) (fun _ hk => hk.1.1.1.2), bl_ HB⟩
end Go.Proofs.YtghhphndbbefjaaDoor.X
namespace Go.Proofs.YtghhphndbbefjaaDoor.X
open Go.RowKit Go.Proofs.YtghhphndbbefjaaDoorW.PrintWords Go.Proofs.YtghhphndbbefjaaDoorW.PrintLast Go.Proofs.YtghhphndbbefjaaDoorW.PrintMore Go.Proofs.YtghhphndbbefjaaDoor.Sq
attribute [local go_sem] max2_int min2_int max_two min_two max_three min_three max_four min_four   -- for this text's walks alone
set_option linter.unusedVariables false
set_option linter.unusedSimpArgs false
mutual
def spec_MultiplyExacts.j0 : Nat → Bool → Int → List Int → Int → Int → List Int → Int → Int → List Int → Int → Int → List Int → Int → Option (Int × List Int × Int × Int × List Int × Int × Int)
  | 0, _, _, _, _, _, _, _, _, _, _, _, _, _ => none
  | k + 1, x15, x434000, x434001, x434002, x434003, x434004, x434005, x435000, x435001, x435002, x435003, x435004, x435005 => if x15 = true then (some (0, ([] : List Int), 0, 0, ([] : List Int), 0, 1)) else ((spec_l03Mul.f k x434000 x434001 x434002 x435000 x435001 x435002).bind fun bt438 => ((spec_l03Is.f k bt438.1 bt438.2.1 bt438.2.2).bind fun t443 => (if t443 = true then ((spec_l03Mul.f k x434003 x434004 x434005 x435003 x435004 x435005).bind fun bt444 => ((spec_l03Is.f k bt444.1 bt444.2.1 bt444.2.2).bind fun t449 => (if t449 = true then ((spec_l03Mul.f k x434000 x434001 x434002 x435003 x435004 x435005).bind fun bt450 => ((spec_l03Is.f k bt450.1 bt450.2.1 bt450.2.2).bind fun t455 => (if t455 = true then ((spec_l03Mul.f k x434003 x434004 x434005 x435000 x435001 x435002).bind fun bt456 => ((spec_l03Is.f k bt456.1 bt456.2.1 bt456.2.2).bind fun t461 => (spec_MultiplyExacts.j1 k (!t461) x434000 x434001 x434002 x434003 x434004 x434005 x435000 x435001 x435002 x435003 x435004 x435005))) else (spec_MultiplyExacts.j1 k true x434000 x434001 x434002 x434003 x434004 x434005 x435000 x435001 x435002 x435003 x435004 x435005)))) else (spec_MultiplyExacts.j1 k true x434000 x434001 x434002 x434003 x434004 x434005 x435000 x435001 x435002 x435003 x435004 x435005)))) else (spec_MultiplyExacts.j1 k true x434000 x434001 x434002 x434003 x434004 x434005 x435000 x435001 x435002 x435003 x435004 x435005))))
def spec_MultiplyExacts.j1 : Nat → Bool → Int → List Int → Int → Int → List Int → Int → Int → List Int → Int → Int → List Int → Int → Option (Int × List Int × Int × Int × List Int × Int × Int)
  | 0, _, _, _, _, _, _, _, _, _, _, _, _, _ => none
  | k + 1, x50, x434000, x434001, x434002, x434003, x434004, x434005, x435000, x435001, x435002, x435003, x435004, x435005 => if x50 = true then (some (0, ([] : List Int), 0, 0, ([] : List Int), 0, 3)) else ((spec_l03Times.f k x434000 x434001 x434002 x434003 x434004 x434005 x435000 x435001 x435002 x435003 x435004 x435005).bind fun bt462 => ((spec_l03FitPair.f k bt462.1 bt462.2.1 bt462.2.2.1 bt462.2.2.2.1 bt462.2.2.2.2.1 bt462.2.2.2.2.2).bind fun bt472 => (some (bt472.1, bt472.2.1, bt472.2.2.1, bt472.2.2.2.1, bt472.2.2.2.2.1, bt472.2.2.2.2.2.1, bt472.2.2.2.2.2.2))))
end
def spec_MultiplyExacts.f (k : Nat) (a0_0 : Int) (l0_1 : List Int) (a0_2 : Int) (a0_3 : Int) (l0_4 : List Int) (a0_5 : Int) (a1_0 : Int) (l1_1 : List Int) (a1_2 : Int) (a1_3 : Int) (l1_4 : List Int) (a1_5 : Int) : Option (Int × List Int × Int × Int × List Int × Int × Int) := (spec_l03Pair.f k a0_0 l0_1 a0_2 a0_3 l0_4 a0_5).bind fun t436 => (if t436 = true then ((spec_l03Pair.f k a1_0 l1_1 a1_2 a1_3 l1_4 a1_5).bind fun t437 => (spec_MultiplyExacts.j0 k (!t437) a0_0 l0_1 a0_2 a0_3 l0_4 a0_5 a1_0 l1_1 a1_2 a1_3 l1_4 a1_5)) else (spec_MultiplyExacts.j0 k true a0_0 l0_1 a0_2 a0_3 l0_4 a0_5 a1_0 l1_1 a1_2 a1_3 l1_4 a1_5))
theorem spec_MultiplyExacts.mono_l : ∀ k, (∀ y0 y1 y2 y3 y4 y5 y6 y7 y8 y9 y10 y11 y12, LeO (spec_MultiplyExacts.j0 k y0 y1 y2 y3 y4 y5 y6 y7 y8 y9 y10 y11 y12) (spec_MultiplyExacts.j0 (k + 1) y0 y1 y2 y3 y4 y5 y6 y7 y8 y9 y10 y11 y12)) ∧ (∀ y0 y1 y2 y3 y4 y5 y6 y7 y8 y9 y10 y11 y12, LeO (spec_MultiplyExacts.j1 k y0 y1 y2 y3 y4 y5 y6 y7 y8 y9 y10 y11 y12) (spec_MultiplyExacts.j1 (k + 1) y0 y1 y2 y3 y4 y5 y6 y7 y8 y9 y10 y11 y12))
  | 0 => ⟨fun _ _ _ _ _ _ _ _ _ _ _ _ _ r h => by simp [spec_MultiplyExacts.j0] at h, fun _ _ _ _ _ _ _ _ _ _ _ _ _ r h => by simp [spec_MultiplyExacts.j1] at h⟩
  | k + 1 => by
    obtain ⟨ih0, ih1⟩ := spec_MultiplyExacts.mono_l k
    refine ⟨?_, ?_⟩
    · intro y0 y1 y2 y3 y4 y5 y6 y7 y8 y9 y10 y11 y12
      unfold spec_MultiplyExacts.j0
      repeat' first
      | (with_reducible exact ih0 _ _ _ _ _ _ _ _ _ _ _ _ _)
      | (with_reducible exact ih1 _ _ _ _ _ _ _ _ _ _ _ _ _)
      | (with_reducible exact spec_l03FitPair.mono _ _ _ _ _ _ _)
      | (with_reducible exact spec_l03Is.mono _ _ _ _)
      | (with_reducible exact spec_l03Mul.mono _ _ _ _ _ _ _)
      | (with_reducible exact spec_l03Pair.mono _ _ _ _ _ _ _)
      | (with_reducible exact spec_l03Times.mono _ _ _ _ _ _ _ _ _ _ _ _ _)
      | (with_reducible exact LeO.refl _)
      | (with_reducible exact LeO.none _)
      | (with_reducible refine LeO.ite ?_ ?_)
      | (with_reducible refine LeO.bind ?_ (fun _ => ?_))
      | exact ih0 _ _ _ _ _ _ _ _ _ _ _ _ _
      | exact ih1 _ _ _ _ _ _ _ _ _ _ _ _ _
      | exact spec_l03FitPair.mono _ _ _ _ _ _ _
      | exact spec_l03Is.mono _ _ _ _
      | exact spec_l03Mul.mono _ _ _ _ _ _ _
      | exact spec_l03Pair.mono _ _ _ _ _ _ _
      | exact spec_l03Times.mono _ _ _ _ _ _ _ _ _ _ _ _ _
      | exact LeO.none _
      | refine LeO.ite ?_ ?_
      | refine LeO.bind ?_ (fun _ => ?_)
    · intro y0 y1 y2 y3 y4 y5 y6 y7 y8 y9 y10 y11 y12
      unfold spec_MultiplyExacts.j1
      repeat' first
      | (with_reducible exact ih0 _ _ _ _ _ _ _ _ _ _ _ _ _)
      | (with_reducible exact ih1 _ _ _ _ _ _ _ _ _ _ _ _ _)
      | (with_reducible exact spec_l03FitPair.mono _ _ _ _ _ _ _)
      | (with_reducible exact spec_l03Is.mono _ _ _ _)
      | (with_reducible exact spec_l03Mul.mono _ _ _ _ _ _ _)
      | (with_reducible exact spec_l03Pair.mono _ _ _ _ _ _ _)
      | (with_reducible exact spec_l03Times.mono _ _ _ _ _ _ _ _ _ _ _ _ _)
      | (with_reducible exact LeO.refl _)
      | (with_reducible exact LeO.none _)
      | (with_reducible refine LeO.ite ?_ ?_)
      | (with_reducible refine LeO.bind ?_ (fun _ => ?_))
      | exact ih0 _ _ _ _ _ _ _ _ _ _ _ _ _
      | exact ih1 _ _ _ _ _ _ _ _ _ _ _ _ _
      | exact spec_l03FitPair.mono _ _ _ _ _ _ _
      | exact spec_l03Is.mono _ _ _ _
      | exact spec_l03Mul.mono _ _ _ _ _ _ _
      | exact spec_l03Pair.mono _ _ _ _ _ _ _
      | exact spec_l03Times.mono _ _ _ _ _ _ _ _ _ _ _ _ _
      | exact LeO.none _
      | refine LeO.ite ?_ ?_
      | refine LeO.bind ?_ (fun _ => ?_)
theorem spec_MultiplyExacts.mono : ∀ a0 a1 a2 a3 a4 a5 a6 a7 a8 a9 a10 a11 k, LeO (spec_MultiplyExacts.f k a0 a1 a2 a3 a4 a5 a6 a7 a8 a9 a10 a11) (spec_MultiplyExacts.f (k + 1) a0 a1 a2 a3 a4 a5 a6 a7 a8 a9 a10 a11) := by
  intro a0 a1 a2 a3 a4 a5 a6 a7 a8 a9 a10 a11 k
  obtain ⟨ih0, ih1⟩ := spec_MultiplyExacts.mono_l k
  unfold spec_MultiplyExacts.f
  repeat' first
      | (with_reducible exact ih0 _ _ _ _ _ _ _ _ _ _ _ _ _)
      | (with_reducible exact ih1 _ _ _ _ _ _ _ _ _ _ _ _ _)
      | (with_reducible exact spec_l03FitPair.mono _ _ _ _ _ _ _)
      | (with_reducible exact spec_l03Is.mono _ _ _ _)
      | (with_reducible exact spec_l03Mul.mono _ _ _ _ _ _ _)
      | (with_reducible exact spec_l03Pair.mono _ _ _ _ _ _ _)
      | (with_reducible exact spec_l03Times.mono _ _ _ _ _ _ _ _ _ _ _ _ _)
      | (with_reducible exact LeO.refl _)
      | (with_reducible exact LeO.none _)
      | (with_reducible refine LeO.ite ?_ ?_)
      | (with_reducible refine LeO.bind ?_ (fun _ => ?_))
      | exact ih0 _ _ _ _ _ _ _ _ _ _ _ _ _
      | exact ih1 _ _ _ _ _ _ _ _ _ _ _ _ _
      | exact spec_l03FitPair.mono _ _ _ _ _ _ _
      | exact spec_l03Is.mono _ _ _ _
      | exact spec_l03Mul.mono _ _ _ _ _ _ _
      | exact spec_l03Pair.mono _ _ _ _ _ _ _
      | exact spec_l03Times.mono _ _ _ _ _ _ _ _ _ _ _ _ _
      | exact LeO.none _
      | refine LeO.ite ?_ ?_
      | refine LeO.bind ?_ (fun _ => ?_)
set_option maxHeartbeats 8000000 in
set_option maxRecDepth 100000 in
theorem spec_MultiplyExacts.calls (k : Nat) (a0_0 : Int) (A0_1 : Option Addr) (c0_1 : Nat) (l0_1 : List Int) (a0_2 : Int) (a0_3 : Int) (A0_4 : Option Addr) (c0_4 : Nat) (l0_4 : List Int) (a0_5 : Int) (a1_0 : Int) (A1_1 : Option Addr) (c1_1 : Nat) (l1_1 : List Int) (a1_2 : Int) (a1_3 : Int) (A1_4 : Option Addr) (c1_4 : Nat) (l1_4 : List Int) (a1_5 : Int) (r1 : Int) (r2 : List Int) (r3 : Int) (r4 : Int) (r5 : List Int) (r6 : Int) (r7 : Int) (w : World) (hr0_1 : Kd.C (Kd.int .i64) w A0_1 l0_1.length l0_1) (hc0_1 : l0_1.length ≤ c0_1) (hr0_4 : Kd.C (Kd.int .i64) w A0_4 l0_4.length l0_4) (hc0_4 : l0_4.length ≤ c0_4) (hr1_1 : Kd.C (Kd.int .i64) w A1_1 l1_1.length l1_1) (hc1_1 : l1_1.length ≤ c1_1) (hr1_4 : Kd.C (Kd.int .i64) w A1_4 l1_4.length l1_4) (hc1_4 : l1_4.length ≤ c1_4) (h : spec_MultiplyExacts.f k a0_0 l0_1 a0_2 a0_3 l0_4 a0_5 a1_0 l1_1 a1_2 a1_3 l1_4 a1_5 = some (r1, r2, r3, r4, r5, r6, r7)) :
  Calls Tryd.prog 36 #[.agg #[.int .i64 a0_0, .slice A0_1 l0_1.length c0_1, .int .i64 a0_2, .int .i64 a0_3, .slice A0_4 l0_4.length c0_4, .int .i64 a0_5], .agg #[.int .i64 a1_0, .slice A1_1 l1_1.length c1_1, .int .i64 a1_2, .int .i64 a1_3, .slice A1_4 l1_4.length c1_4, .int .i64 a1_5]] w fun e w' => ∃ v1_ v4_ : Value, e = .returned (.tuple #[.agg #[.int .i64 r1, v1_, .int .i64 r3, .int .i64 r4, v4_, .int .i64 r6], .int .i64 r7]) ∧ Kd.R (Kd.int .i64) 2 w' w.heap.size (fun k_ => some k_ ≠ (v4_ : Value).ownBlock) v1_ r2 ∧ Kd.R (Kd.int .i64) 2 w' w.heap.size (fun k_ => some k_ ≠ (v1_ : Value).ownBlock) v4_ r5 ∧ Below w.heap.size w w' := by
 have hu47 := Tryd.underlying47; have hu45 := Tryd.underlying45; have HR0_1 := am_ hr0_1; have HC0_1 := am_ hc0_1; clear hr0_1 hc0_1; have HR0_4 := am_ hr0_4; have HC0_4 := am_ hc0_4; clear hr0_4 hc0_4; have HR1_1 := am_ hr1_1; have HC1_1 := am_ hc1_1; clear hr1_1 hc1_1; have HR1_4 := am_ hr1_4; have HC1_4 := am_ hc1_4; clear hr1_4 hc1_4; have HB := am_ (Below.refl w.heap.size w)
 have H : ((spec_l03Pair.f k a0_0 l0_1 a0_2 a0_3 l0_4 a0_5).bind fun t436 => (if t436 = true then ((spec_l03Pair.f k a1_0 l1_1 a1_2 a1_3 l1_4 a1_5).bind fun t437 => (spec_MultiplyExacts.j0 k (!t437) a0_0 l0_1 a0_2 a0_3 l0_4 a0_5 a1_0 l1_1 a1_2 a1_3 l1_4 a1_5)) else (spec_MultiplyExacts.j0 k true a0_0 l0_1 a0_2 a0_3 l0_4 a0_5 a1_0 l1_1 a1_2 a1_3 l1_4 a1_5))) = some (r1, r2, r3, r4, r5, r6, r7) := h
 clear h; have HC3 := am_ H; clear H
 go_enter Tryd.func36, Tryd.ntmps36
 go_upto_region 1 with (first | ((with_reducible refine gate_dst (N := 2) rfl ?_); refine bx_ 2 #[.int .i64 a0_0, .slice A0_1 l0_1.length c0_1, .int .i64 a0_2, .int .i64 a0_3, .slice A0_4 l0_4.length c0_4, .int .i64 a0_5] 47 ?_; intro gb433 hg w4 hbox hb; obtain ⟨BK433, GW433, GE433⟩ := nb_ hbox hg HB; replace HB := bs_ HB hb; clear hb hbox hg) | ((with_reducible refine gate_dst (N := 3) rfl ?_); refine bx_ 3 #[.int .i64 a1_0, .slice A1_1 l1_1.length c1_1, .int .i64 a1_2, .int .i64 a1_3, .slice A1_4 l1_4.length c1_4, .int .i64 a1_5] 47 ?_; intro gb434 hg w5 hbox hb; obtain ⟨BK434, GW434, GE434⟩ := nb_ hbox hg HB; obtain ⟨NB433_434, NB434_433⟩ := nn_ hg BK433; replace BK433 := bb_ BK433 hb; replace HB := bs_ HB hb; clear hb hbox hg) | ((with_reducible refine gate_dst (N := 4) rfl ?_); refine bx_ 4 #[.int .i64 0, .slice none 0 0, .int .i64 0, .int .i64 0, .slice none 0 0, .int .i64 0] 47 ?_; intro gb435 hg w6 hbox hb; obtain ⟨BK435, GW435, GE435⟩ := nb_ hbox hg HB; obtain ⟨NB433_435, NB435_433⟩ := nn_ hg BK433; obtain ⟨NB434_435, NB435_434⟩ := nn_ hg BK434; replace BK433 := bb_ BK433 hb; replace BK434 := bb_ BK434 hb; replace HB := bs_ HB hb; clear hb hbox hg))
 (try simp only [Act.put, List.setIfInBounds_toArray, List.set_cons_zero, List.set_cons_succ])
 go_cut [15] (fun v15 wc => ∃ (kq : Nat) (x15_2 : Bool), v15 = .bool x15_2 ∧ Aside0 (spec_MultiplyExacts.j0 kq x15_2 a0_0 l0_1 a0_2 a0_3 l0_4 a0_5 a1_0 l1_1 a1_2 a1_3 l1_4 a1_5 = some (r1, r2, r3, r4, r5, r6, r7)) ∧ Aside0 (kq ≤ k) ∧ Aside0 (wc.heap[gb433]? = some (.cells #[.int .i64 a0_0, (.slice A0_1 l0_1.length c0_1), .int .i64 a0_2, .int .i64 a0_3, (.slice A0_4 l0_4.length c0_4), .int .i64 a0_5] 47 (0, 0))) ∧ Aside0 (wc.heap[gb434]? = some (.cells #[.int .i64 a1_0, (.slice A1_1 l1_1.length c1_1), .int .i64 a1_2, .int .i64 a1_3, (.slice A1_4 l1_4.length c1_4), .int .i64 a1_5] 47 (0, 0))) ∧ Aside0 (wc.heap[gb435]? = some (.cells #[.int .i64 0, (.slice none 0 0), .int .i64 0, .int .i64 0, (.slice none 0 0), .int .i64 0] 47 (0, 0))) ∧ Aside0 (Below w.heap.size w wc))
 case first =>
  have H := HC3.out; clear HC3
  replace H := Option.bind_eq_some_iff.mp H
  obtain ⟨t436, A70, H⟩ := H
  try dsimp only at H
  have A7 := am_ A70; clear A70
  by_cases c8 : t436 = true
  ·subst c8
   rw [if_pos rfl] at H; (try dsimp only at H)
   replace H := Option.bind_eq_some_iff.mp H
   obtain ⟨t437, A90, H⟩ := H
   try dsimp only at H
   have A9 := am_ A90; clear A90
   have H' := am_ H
   clear H; have hnb10 := NB433_434.out; have hnc10 := NB434_433.out; have hnb11 := NB433_435.out; have hnc11 := NB435_433.out
   obtain ⟨hcz12_0, hcz12_1, hcz12_2, hcz12_3, hcz12_4, hcz12_5, hfz12_0, hfz12_1, hfz12_2, hfz12_3, hfz12_4, hfz12_5⟩ := ck6_ BK433
   go_wp2_with (first | ((with_reducible refine gate_callee (f := 63) rfl ?_); refine goesL_ (some 9) rfl rfl Tryd.func63 (by kernel_rfl) rfl #[.agg #[.int .i64 a0_0, .slice A0_1 l0_1.length c0_1, .int .i64 a0_2, .int .i64 a0_3, .slice A0_4 l0_4.length c0_4, .int .i64 a0_5]] rfl ma_ ?_; (with_reducible refine (spec_l03Pair.calls k a0_0 _ _ l0_1 a0_2 a0_3 _ _ l0_4 a0_5 true _ ?side1 ?side2 ?side3 ?side4 A7.out).mono ?_); (case side1 => exact cb_ HR0_1 HB); (case side2 => exact HC0_1.out); (case side3 => exact cb_ HR0_4 HB); (case side4 => exact HC0_4.out); rintro e w13 ⟨rfl, hb⟩; refine ⟨_, rfl, ?_⟩; replace BK433 := bb_ BK433 hb; replace BK434 := bb_ BK434 hb; replace BK435 := bb_ BK435 hb; replace HB := bs_ HB hb; (try clear hb); have hnb14 := NB434_435.out; have hnc14 := NB435_434.out; obtain ⟨hcz15_0, hcz15_1, hcz15_2, hcz15_3, hcz15_4, hcz15_5, hfz15_0, hfz15_1, hfz15_2, hfz15_3, hfz15_4, hfz15_5⟩ := ck6_ BK434) | (go_at_call 63; (with_reducible refine (spec_l03Pair.calls k a1_0 _ _ l1_1 a1_2 a1_3 _ _ l1_4 a1_5 t437 _ ?side1 ?side2 ?side3 ?side4 A9.out).mono ?_); (case side1 => exact cb_ HR1_1 HB); (case side2 => exact HC1_1.out); (case side3 => exact cb_ HR1_4 HB); (case side4 => exact HC1_4.out); rintro e w16 ⟨rfl, hb⟩; replace BK433 := bb_ BK433 hb; replace BK434 := bb_ BK434 hb; replace BK435 := bb_ BK435 hb; replace HB := bs_ HB hb; (try clear hb)))
   go_meet
   case rel => exact ⟨_, (!t437), (by first | rfl | (simp; done) | (simp [*]; done)), H', ⟨by first | omega | exact Nat.le_refl _⟩, ⟨bk_ BK433⟩, ⟨bk_ BK434⟩, ⟨bk_ BK435⟩, ⟨bl_ HB⟩⟩
  ·replace c8 := Bool.eq_false_iff.mpr c8
   subst c8
   rw [if_neg (show ¬ (false = true) by decide)] at H; (try dsimp only at H)
   have H' := am_ H
   clear H; have hnb17 := NB433_434.out; have hnc17 := NB434_433.out; have hnb18 := NB433_435.out; have hnc18 := NB435_433.out
   obtain ⟨hcz19_0, hcz19_1, hcz19_2, hcz19_3, hcz19_4, hcz19_5, hfz19_0, hfz19_1, hfz19_2, hfz19_3, hfz19_4, hfz19_5⟩ := ck6_ BK433
   go_wp2_with (first | ((with_reducible refine gate_callee (f := 63) rfl ?_); refine goesL_ (some 9) rfl rfl Tryd.func63 (by kernel_rfl) rfl #[.agg #[.int .i64 a0_0, .slice A0_1 l0_1.length c0_1, .int .i64 a0_2, .int .i64 a0_3, .slice A0_4 l0_4.length c0_4, .int .i64 a0_5]] rfl ma_ ?_; (with_reducible refine (spec_l03Pair.calls k a0_0 _ _ l0_1 a0_2 a0_3 _ _ l0_4 a0_5 false _ ?side1 ?side2 ?side3 ?side4 A7.out).mono ?_); (case side1 => exact cb_ HR0_1 HB); (case side2 => exact HC0_1.out); (case side3 => exact cb_ HR0_4 HB); (case side4 => exact HC0_4.out); rintro e w20 ⟨rfl, hb⟩; refine ⟨_, rfl, ?_⟩; replace BK433 := bb_ BK433 hb; replace BK434 := bb_ BK434 hb; replace BK435 := bb_ BK435 hb; replace HB := bs_ HB hb; (try clear hb)))
   go_meet
   case rel => exact ⟨_, (true), (by first | rfl | (simp; done) | (simp [*]; done)), H', ⟨by first | omega | exact Nat.le_refl _⟩, ⟨bk_ BK433⟩, ⟨bk_ BK434⟩, ⟨bk_ BK435⟩, ⟨bl_ HB⟩⟩
 case rest =>
  clear HC3; try clear c8
  obtain ⟨kq, x15_2, rfl, HA, HJ2, BK433, BK434, BK435, HB⟩ := hcut
  cases kq with
  | zero => exact absurd HA.out (by simp [spec_MultiplyExacts.j0])
  | succ kj2 =>
   have H := HA.out; clear HA
   simp only [spec_MultiplyExacts.j0] at H
   by_cases c21 : x15_2 = true
   ·subst c21
    rw [if_pos rfl] at H; (try dsimp only at H)
    simp only [Option.some.injEq, Prod.mk.injEq] at H
    obtain ⟨rfl, rfl, rfl, rfl, rfl, rfl, rfl⟩ := H
    have hnb22 := NB435_433.out; have hnc22 := NB433_435.out; have hnb23 := NB435_434.out; have hnc23 := NB434_435.out
    obtain ⟨hcz24_0, hcz24_1, hcz24_2, hcz24_3, hcz24_4, hcz24_5, hfz24_0, hfz24_1, hfz24_2, hfz24_3, hfz24_4, hfz24_5⟩ := ck6_ BK435
    go_wp2
    refine bodyPost_ret (results_ct rfl _ _ gb435 47 #[.int .i64 0, .slice none 0 0, .int .i64 0, .int .i64 0, .slice none 0 0, .int .i64 0] (0, 0) _ rfl (by (with_reducible repeat (first | refine blk_drewN ?_ _ | refine blk_drew ?_ | refine blk_alloc ?_ _)); refine blk_put (cs := #[.int .i64 0, .slice none 0 0, .int .i64 0, .int .i64 0, .slice none 0 0, .int .i64 0]) ?_ 5 _ rfl; (with_reducible repeat (first | refine blk_drewN ?_ _ | refine blk_drew ?_ | refine blk_alloc ?_ _)); refine blk_put (cs := #[.int .i64 0, .slice none 0 0, .int .i64 0, .int .i64 0, .slice none 0 0, .int .i64 0]) ?_ 4 _ rfl; (with_reducible repeat (first | refine blk_drewN ?_ _ | refine blk_drew ?_ | refine blk_alloc ?_ _)); refine blk_put (cs := #[.int .i64 0, .slice none 0 0, .int .i64 0, .int .i64 0, .slice none 0 0, .int .i64 0]) ?_ 3 _ rfl; (with_reducible repeat (first | refine blk_drewN ?_ _ | refine blk_drew ?_ | refine blk_alloc ?_ _)); refine blk_put (cs := #[.int .i64 0, .slice none 0 0, .int .i64 0, .int .i64 0, .slice none 0 0, .int .i64 0]) ?_ 2 _ rfl; (with_reducible repeat (first | refine blk_drewN ?_ _ | refine blk_drew ?_ | refine blk_alloc ?_ _)); refine blk_put (cs := #[.int .i64 0, .slice none 0 0, .int .i64 0, .int .i64 0, .slice none 0 0, .int .i64 0]) ?_ 1 _ rfl; (with_reducible repeat (first | refine blk_drewN ?_ _ | refine blk_drew ?_ | refine blk_alloc ?_ _)); refine blk_put (cs := #[.int .i64 0, .slice none 0 0, .int .i64 0, .int .i64 0, .slice none 0 0, .int .i64 0]) ?_ 0 _ rfl; (with_reducible repeat (first | refine blk_drewN ?_ _ | refine blk_drew ?_ | refine blk_alloc ?_ _)); exact BK435.out) Tryd.underlying47 rfl (by kernel_rfl)) rfl ?_
    exact ⟨_, _, by first | rfl | (simp [errW_none, errW_some] <;> rfl) | (simp [*, errW_none, errW_some] <;> rfl), by first | exact Kd.R_nil _ _ _ _ _ | exact Kd.N_nil _ _ _ _ _ | exact Kd.V_nil _ _ _ _ _ | exact Kd.Q_nil _ _ _ _ _ | exact Kd.S_nil _ _ _ _ _, by first | exact Kd.R_nil _ _ _ _ _ | exact Kd.N_nil _ _ _ _ _ | exact Kd.V_nil _ _ _ _ _ | exact Kd.Q_nil _ _ _ _ _ | exact Kd.S_nil _ _ _ _ _, bl_ HB⟩
   ·replace c21 := Bool.eq_false_iff.mpr c21
    subst c21
    rw [if_neg (show ¬ (false = true) by decide)] at H; (try dsimp only at H); have HC25 := am_ H; clear H
    go_upto_region 3 with (fail)
    go_cut [50] (fun v50 wc => ∃ (kq : Nat) (x50_24 : Bool), v50 = .bool x50_24 ∧ Aside0 (spec_MultiplyExacts.j1 kq x50_24 a0_0 l0_1 a0_2 a0_3 l0_4 a0_5 a1_0 l1_1 a1_2 a1_3 l1_4 a1_5 = some (r1, r2, r3, r4, r5, r6, r7)) ∧ Aside0 (kq ≤ kj2) ∧ Aside0 (wc.heap[gb433]? = some (.cells #[.int .i64 a0_0, (.slice A0_1 l0_1.length c0_1), .int .i64 a0_2, .int .i64 a0_3, (.slice A0_4 l0_4.length c0_4), .int .i64 a0_5] 47 (0, 0))) ∧ Aside0 (wc.heap[gb434]? = some (.cells #[.int .i64 a1_0, (.slice A1_1 l1_1.length c1_1), .int .i64 a1_2, .int .i64 a1_3, (.slice A1_4 l1_4.length c1_4), .int .i64 a1_5] 47 (0, 0))) ∧ Aside0 (wc.heap[gb435]? = some (.cells #[.int .i64 0, (.slice none 0 0), .int .i64 0, .int .i64 0, (.slice none 0 0), .int .i64 0] 47 (0, 0))) ∧ Aside0 (Below w.heap.size w wc))
    case first =>
     have H := HC25.out; clear HC25
     replace H := Option.bind_eq_some_iff.mp H
     obtain ⟨⟨t438, t439, t442⟩, A260, H⟩ := H
     try dsimp only at H
     have A26 := am_ A260; clear A260
     replace H := Option.bind_eq_some_iff.mp H
     obtain ⟨t443, A270, H⟩ := H
     try dsimp only at H
     have A27 := am_ A270; clear A270
     by_cases c28 : t443 = true
     ·subst c28
      rw [if_pos rfl] at H; (try dsimp only at H)
      replace H := Option.bind_eq_some_iff.mp H
      obtain ⟨⟨t444, t445, t448⟩, A290, H⟩ := H
      try dsimp only at H
      have A29 := am_ A290; clear A290
      replace H := Option.bind_eq_some_iff.mp H
      obtain ⟨t449, A300, H⟩ := H
      try dsimp only at H
      have A30 := am_ A300; clear A300
      by_cases c31 : t449 = true
      ·subst c31
       rw [if_pos rfl] at H; (try dsimp only at H)
       replace H := Option.bind_eq_some_iff.mp H
       obtain ⟨⟨t450, t451, t454⟩, A320, H⟩ := H
       try dsimp only at H
       have A32 := am_ A320; clear A320
       replace H := Option.bind_eq_some_iff.mp H
       obtain ⟨t455, A330, H⟩ := H
       try dsimp only at H
       have A33 := am_ A330; clear A330
       by_cases c34 : t455 = true
       ·subst c34
        rw [if_pos rfl] at H; (try dsimp only at H)
        replace H := Option.bind_eq_some_iff.mp H
        obtain ⟨⟨t456, t457, t460⟩, A350, H⟩ := H
        try dsimp only at H
        have A35 := am_ A350; clear A350
        replace H := Option.bind_eq_some_iff.mp H
        obtain ⟨t461, A360, H⟩ := H
        try dsimp only at H
        have A36 := am_ A360; clear A360
        have H' := am_ H
        clear H; have hnb37 := NB433_434.out; have hnc37 := NB434_433.out; have hnb38 := NB433_435.out; have hnc38 := NB435_433.out
        obtain ⟨hcz39_0, hcz39_1, hcz39_2, hcz39_3, hcz39_4, hcz39_5, hfz39_0, hfz39_1, hfz39_2, hfz39_3, hfz39_4, hfz39_5⟩ := ck6_ BK433; have hnb40 := NB434_435.out; have hnc40 := NB435_434.out
        obtain ⟨hcz41_0, hcz41_1, hcz41_2, hcz41_3, hcz41_4, hcz41_5, hfz41_0, hfz41_1, hfz41_2, hfz41_3, hfz41_4, hfz41_5⟩ := ck6_ BK434
        go_wp2_with (first | ((with_reducible refine gate_callee (f := 71) rfl ?_); refine goesL_ (some 21) rfl rfl Tryd.func71 (by kernel_rfl) rfl #[.agg #[.int .i64 a0_0, .slice A0_1 l0_1.length c0_1, .int .i64 a0_2], .agg #[.int .i64 a1_0, .slice A1_1 l1_1.length c1_1, .int .i64 a1_2]] rfl ma_ ?_; (with_reducible refine (spec_l03Mul.calls kj2 a0_0 _ _ l0_1 a0_2 a1_0 _ _ l1_1 a1_2 t438 t439 t442 _ ?side1 ?side2 ?side3 ?side4 A26.out).mono ?_); (case side1 => exact cb_ HR0_1 HB); (case side2 => exact HC0_1.out); (case side3 => exact cb_ HR1_1 HB); (case side4 => exact HC1_1.out); rintro e w42 ⟨v440, rfl, ho0, hb⟩; refine ⟨_, rfl, ?_⟩; have HO441 := am_ (Kd.R_lower ho0 (below_size (bl_ HB))); replace BK433 := bb_ BK433 hb; replace BK434 := bb_ BK434 hb; replace BK435 := bb_ BK435 hb; replace HB := bs_ HB hb; (try clear hb); (try clear ho0); obtain ⟨Ao43, co43, eo43⟩ := Kd.R_slice HO441.out; subst eo43) | ((with_reducible refine gate_callee (f := 70) rfl ?_); refine goesL_ (some 22) rfl rfl Tryd.func70 (by kernel_rfl) rfl #[.agg #[.int .i64 t438, .slice Ao43 t439.length co43, .int .i64 t442]] rfl ma_ ?_; (with_reducible refine (spec_l03Is.calls kj2 t438 _ _ t439 t442 true _ ?side1 ?side2 A27.out).mono ?_); (case side1 => exact cr_ HO441); (case side2 => exact (Kd.R_reads' HO441.out).2.1); rintro e w44 ⟨rfl, hb⟩; refine ⟨_, rfl, ?_⟩; replace HO441 := am_ (Kd.R_below (kr_ HO441) hb); replace BK433 := bb_ BK433 hb; replace BK434 := bb_ BK434 hb; replace BK435 := bb_ BK435 hb; replace HB := bs_ HB hb; (try clear hb); obtain ⟨hcz45_0, hcz45_1, hcz45_2, hcz45_3, hcz45_4, hcz45_5, hfz45_0, hfz45_1, hfz45_2, hfz45_3, hfz45_4, hfz45_5⟩ := ck6_ BK433; obtain ⟨hcz46_0, hcz46_1, hcz46_2, hcz46_3, hcz46_4, hcz46_5, hfz46_0, hfz46_1, hfz46_2, hfz46_3, hfz46_4, hfz46_5⟩ := ck6_ BK434) | (go_at_call 71; (with_reducible refine (spec_l03Mul.calls kj2 a0_3 _ _ l0_4 a0_5 a1_3 _ _ l1_4 a1_5 t444 t445 t448 _ ?side1 ?side2 ?side3 ?side4 A29.out).mono ?_); (case side1 => exact cb_ HR0_4 HB); (case side2 => exact HC0_4.out); (case side3 => exact cb_ HR1_4 HB); (case side4 => exact HC1_4.out); rintro e w47 ⟨v446, rfl, ho0, hb⟩; have HO447 := am_ (Kd.R_lower (Kd.R_new' ho0 (Kd.R_lt (kr_ HO441))) (below_size (bl_ HB))); replace HO441 := am_ (Kd.R_elder' (kr_ HO441) (Kd.R_base ho0) hb); replace BK433 := bb_ BK433 hb; replace BK434 := bb_ BK434 hb; replace BK435 := bb_ BK435 hb; replace HB := bs_ HB hb; (try clear hb); (try clear ho0); obtain ⟨Ao48, co48, eo48⟩ := Kd.R_slice HO447.out; subst eo48) | (go_at_call 70; (with_reducible refine (spec_l03Is.calls kj2 t444 _ _ t445 t448 true _ ?side1 ?side2 A30.out).mono ?_); (case side1 => exact cr_ HO447); (case side2 => exact (Kd.R_reads' HO447.out).2.1); rintro e w49 ⟨rfl, hb⟩; replace HO441 := am_ (Kd.R_below (kr_ HO441) hb); replace HO447 := am_ (Kd.R_below (kr_ HO447) hb); replace BK433 := bb_ BK433 hb; replace BK434 := bb_ BK434 hb; replace BK435 := bb_ BK435 hb; replace HB := bs_ HB hb; (try clear hb); obtain ⟨hcz50_0, hcz50_1, hcz50_2, hcz50_3, hcz50_4, hcz50_5, hfz50_0, hfz50_1, hfz50_2, hfz50_3, hfz50_4, hfz50_5⟩ := ck6_ BK433; obtain ⟨hcz51_0, hcz51_1, hcz51_2, hcz51_3, hcz51_4, hcz51_5, hfz51_0, hfz51_1, hfz51_2, hfz51_3, hfz51_4, hfz51_5⟩ := ck6_ BK434) | (go_at_call 71; (with_reducible refine (spec_l03Mul.calls kj2 a0_0 _ _ l0_1 a0_2 a1_3 _ _ l1_4 a1_5 t450 t451 t454 _ ?side1 ?side2 ?side3 ?side4 A32.out).mono ?_); (case side1 => exact cb_ HR0_1 HB); (case side2 => exact HC0_1.out); (case side3 => exact cb_ HR1_4 HB); (case side4 => exact HC1_4.out); rintro e w52 ⟨v452, rfl, ho0, hb⟩; have HO453 := am_ (Kd.R_lower (Kd.R_new' (Kd.R_new' ho0 (Kd.R_lt (kr_ HO441))) (Kd.R_lt (kr_ HO447))) (below_size (bl_ HB))); replace HO441 := am_ (Kd.R_elder' (kr_ HO441) (Kd.R_base ho0) hb); replace HO447 := am_ (Kd.R_elder' (kr_ HO447) (Kd.R_base ho0) hb); replace BK433 := bb_ BK433 hb; replace BK434 := bb_ BK434 hb; replace BK435 := bb_ BK435 hb; replace HB := bs_ HB hb; (try clear hb); (try clear ho0); obtain ⟨Ao53, co53, eo53⟩ := Kd.R_slice HO453.out; subst eo53) | (go_at_call 70; (with_reducible refine (spec_l03Is.calls kj2 t450 _ _ t451 t454 true _ ?side1 ?side2 A33.out).mono ?_); (case side1 => exact cr_ HO453); (case side2 => exact (Kd.R_reads' HO453.out).2.1); rintro e w54 ⟨rfl, hb⟩; replace HO441 := am_ (Kd.R_below (kr_ HO441) hb); replace HO447 := am_ (Kd.R_below (kr_ HO447) hb); replace HO453 := am_ (Kd.R_below (kr_ HO453) hb); replace BK433 := bb_ BK433 hb; replace BK434 := bb_ BK434 hb; replace BK435 := bb_ BK435 hb; replace HB := bs_ HB hb; (try clear hb); obtain ⟨hcz55_0, hcz55_1, hcz55_2, hcz55_3, hcz55_4, hcz55_5, hfz55_0, hfz55_1, hfz55_2, hfz55_3, hfz55_4, hfz55_5⟩ := ck6_ BK433; obtain ⟨hcz56_0, hcz56_1, hcz56_2, hcz56_3, hcz56_4, hcz56_5, hfz56_0, hfz56_1, hfz56_2, hfz56_3, hfz56_4, hfz56_5⟩ := ck6_ BK434) | (go_at_call 71; (with_reducible refine (spec_l03Mul.calls kj2 a0_3 _ _ l0_4 a0_5 a1_0 _ _ l1_1 a1_2 t456 t457 t460 _ ?side1 ?side2 ?side3 ?side4 A35.out).mono ?_); (case side1 => exact cb_ HR0_4 HB); (case side2 => exact HC0_4.out); (case side3 => exact cb_ HR1_1 HB); (case side4 => exact HC1_1.out); rintro e w57 ⟨v458, rfl, ho0, hb⟩; have HO459 := am_ (Kd.R_lower (Kd.R_new' (Kd.R_new' (Kd.R_new' ho0 (Kd.R_lt (kr_ HO441))) (Kd.R_lt (kr_ HO447))) (Kd.R_lt (kr_ HO453))) (below_size (bl_ HB))); replace HO441 := am_ (Kd.R_elder' (kr_ HO441) (Kd.R_base ho0) hb); replace HO447 := am_ (Kd.R_elder' (kr_ HO447) (Kd.R_base ho0) hb); replace HO453 := am_ (Kd.R_elder' (kr_ HO453) (Kd.R_base ho0) hb); replace BK433 := bb_ BK433 hb; replace BK434 := bb_ BK434 hb; replace BK435 := bb_ BK435 hb; replace HB := bs_ HB hb; (try clear hb); (try clear ho0); obtain ⟨Ao58, co58, eo58⟩ := Kd.R_slice HO459.out; subst eo58) | (go_at_call 70; (with_reducible refine (spec_l03Is.calls kj2 t456 _ _ t457 t460 t461 _ ?side1 ?side2 A36.out).mono ?_); (case side1 => exact cr_ HO459); (case side2 => exact (Kd.R_reads' HO459.out).2.1); rintro e w59 ⟨rfl, hb⟩; replace HO441 := am_ (Kd.R_below (kr_ HO441) hb); replace HO447 := am_ (Kd.R_below (kr_ HO447) hb); replace HO453 := am_ (Kd.R_below (kr_ HO453) hb); replace HO459 := am_ (Kd.R_below (kr_ HO459) hb); replace BK433 := bb_ BK433 hb; replace BK434 := bb_ BK434 hb; replace BK435 := bb_ BK435 hb; replace HB := bs_ HB hb; (try clear hb)))
        go_meet
        case rel => exact ⟨_, (!t461), (by first | rfl | (simp; done) | (simp [*]; done)), H', ⟨by have := HJ2.out; first | omega | exact Nat.le_refl _⟩, ⟨bk_ BK433⟩, ⟨bk_ BK434⟩, ⟨bk_ BK435⟩, ⟨bl_ HB⟩⟩
       ·replace c34 := Bool.eq_false_iff.mpr c34
        subst c34
        rw [if_neg (show ¬ (false = true) by decide)] at H; (try dsimp only at H)
        have H' := am_ H
        clear H; have hnb60 := NB433_434.out; have hnc60 := NB434_433.out; have hnb61 := NB433_435.out; have hnc61 := NB435_433.out
        obtain ⟨hcz62_0, hcz62_1, hcz62_2, hcz62_3, hcz62_4, hcz62_5, hfz62_0, hfz62_1, hfz62_2, hfz62_3, hfz62_4, hfz62_5⟩ := ck6_ BK433; have hnb63 := NB434_435.out; have hnc63 := NB435_434.out
        obtain ⟨hcz64_0, hcz64_1, hcz64_2, hcz64_3, hcz64_4, hcz64_5, hfz64_0, hfz64_1, hfz64_2, hfz64_3, hfz64_4, hfz64_5⟩ := ck6_ BK434
        go_wp2_with (first | ((with_reducible refine gate_callee (f := 71) rfl ?_); refine goesL_ (some 21) rfl rfl Tryd.func71 (by kernel_rfl) rfl #[.agg #[.int .i64 a0_0, .slice A0_1 l0_1.length c0_1, .int .i64 a0_2], .agg #[.int .i64 a1_0, .slice A1_1 l1_1.length c1_1, .int .i64 a1_2]] rfl ma_ ?_; (with_reducible refine (spec_l03Mul.calls kj2 a0_0 _ _ l0_1 a0_2 a1_0 _ _ l1_1 a1_2 t438 t439 t442 _ ?side1 ?side2 ?side3 ?side4 A26.out).mono ?_); (case side1 => exact cb_ HR0_1 HB); (case side2 => exact HC0_1.out); (case side3 => exact cb_ HR1_1 HB); (case side4 => exact HC1_1.out); rintro e w65 ⟨v440, rfl, ho0, hb⟩; refine ⟨_, rfl, ?_⟩; have HO441 := am_ (Kd.R_lower ho0 (below_size (bl_ HB))); replace BK433 := bb_ BK433 hb; replace BK434 := bb_ BK434 hb; replace BK435 := bb_ BK435 hb; replace HB := bs_ HB hb; (try clear hb); (try clear ho0); obtain ⟨Ao66, co66, eo66⟩ := Kd.R_slice HO441.out; subst eo66) | ((with_reducible refine gate_callee (f := 70) rfl ?_); refine goesL_ (some 22) rfl rfl Tryd.func70 (by kernel_rfl) rfl #[.agg #[.int .i64 t438, .slice Ao66 t439.length co66, .int .i64 t442]] rfl ma_ ?_; (with_reducible refine (spec_l03Is.calls kj2 t438 _ _ t439 t442 true _ ?side1 ?side2 A27.out).mono ?_); (case side1 => exact cr_ HO441); (case side2 => exact (Kd.R_reads' HO441.out).2.1); rintro e w67 ⟨rfl, hb⟩; refine ⟨_, rfl, ?_⟩; replace HO441 := am_ (Kd.R_below (kr_ HO441) hb); replace BK433 := bb_ BK433 hb; replace BK434 := bb_ BK434 hb; replace BK435 := bb_ BK435 hb; replace HB := bs_ HB hb; (try clear hb); obtain ⟨hcz68_0, hcz68_1, hcz68_2, hcz68_3, hcz68_4, hcz68_5, hfz68_0, hfz68_1, hfz68_2, hfz68_3, hfz68_4, hfz68_5⟩ := ck6_ BK433; obtain ⟨hcz69_0, hcz69_1, hcz69_2, hcz69_3, hcz69_4, hcz69_5, hfz69_0, hfz69_1, hfz69_2, hfz69_3, hfz69_4, hfz69_5⟩ := ck6_ BK434) | (go_at_call 71; (with_reducible refine (spec_l03Mul.calls kj2 a0_3 _ _ l0_4 a0_5 a1_3 _ _ l1_4 a1_5 t444 t445 t448 _ ?side1 ?side2 ?side3 ?side4 A29.out).mono ?_); (case side1 => exact cb_ HR0_4 HB); (case side2 => exact HC0_4.out); (case side3 => exact cb_ HR1_4 HB); (case side4 => exact HC1_4.out); rintro e w70 ⟨v446, rfl, ho0, hb⟩; have HO447 := am_ (Kd.R_lower (Kd.R_new' ho0 (Kd.R_lt (kr_ HO441))) (below_size (bl_ HB))); replace HO441 := am_ (Kd.R_elder' (kr_ HO441) (Kd.R_base ho0) hb); replace BK433 := bb_ BK433 hb; replace BK434 := bb_ BK434 hb; replace BK435 := bb_ BK435 hb; replace HB := bs_ HB hb; (try clear hb); (try clear ho0); obtain ⟨Ao71, co71, eo71⟩ := Kd.R_slice HO447.out; subst eo71) | (go_at_call 70; (with_reducible refine (spec_l03Is.calls kj2 t444 _ _ t445 t448 true _ ?side1 ?side2 A30.out).mono ?_); (case side1 => exact cr_ HO447); (case side2 => exact (Kd.R_reads' HO447.out).2.1); rintro e w72 ⟨rfl, hb⟩; replace HO441 := am_ (Kd.R_below (kr_ HO441) hb); replace HO447 := am_ (Kd.R_below (kr_ HO447) hb); replace BK433 := bb_ BK433 hb; replace BK434 := bb_ BK434 hb; replace BK435 := bb_ BK435 hb; replace HB := bs_ HB hb; (try clear hb); obtain ⟨hcz73_0, hcz73_1, hcz73_2, hcz73_3, hcz73_4, hcz73_5, hfz73_0, hfz73_1, hfz73_2, hfz73_3, hfz73_4, hfz73_5⟩ := ck6_ BK433; obtain ⟨hcz74_0, hcz74_1, hcz74_2, hcz74_3, hcz74_4, hcz74_5, hfz74_0, hfz74_1, hfz74_2, hfz74_3, hfz74_4, hfz74_5⟩ := ck6_ BK434) | (go_at_call 71; (with_reducible refine (spec_l03Mul.calls kj2 a0_0 _ _ l0_1 a0_2 a1_3 _ _ l1_4 a1_5 t450 t451 t454 _ ?side1 ?side2 ?side3 ?side4 A32.out).mono ?_); (case side1 => exact cb_ HR0_1 HB); (case side2 => exact HC0_1.out); (case side3 => exact cb_ HR1_4 HB); (case side4 => exact HC1_4.out); rintro e w75 ⟨v452, rfl, ho0, hb⟩; have HO453 := am_ (Kd.R_lower (Kd.R_new' (Kd.R_new' ho0 (Kd.R_lt (kr_ HO441))) (Kd.R_lt (kr_ HO447))) (below_size (bl_ HB))); replace HO441 := am_ (Kd.R_elder' (kr_ HO441) (Kd.R_base ho0) hb); replace HO447 := am_ (Kd.R_elder' (kr_ HO447) (Kd.R_base ho0) hb); replace BK433 := bb_ BK433 hb; replace BK434 := bb_ BK434 hb; replace BK435 := bb_ BK435 hb; replace HB := bs_ HB hb; (try clear hb); (try clear ho0); obtain ⟨Ao76, co76, eo76⟩ := Kd.R_slice HO453.out; subst eo76) | (go_at_call 70; (with_reducible refine (spec_l03Is.calls kj2 t450 _ _ t451 t454 false _ ?side1 ?side2 A33.out).mono ?_); (case side1 => exact cr_ HO453); (case side2 => exact (Kd.R_reads' HO453.out).2.1); rintro e w77 ⟨rfl, hb⟩; replace HO441 := am_ (Kd.R_below (kr_ HO441) hb); replace HO447 := am_ (Kd.R_below (kr_ HO447) hb); replace HO453 := am_ (Kd.R_below (kr_ HO453) hb); replace BK433 := bb_ BK433 hb; replace BK434 := bb_ BK434 hb; replace BK435 := bb_ BK435 hb; replace HB := bs_ HB hb; (try clear hb)))
        go_meet
        case rel => exact ⟨_, (true), (by first | rfl | (simp; done) | (simp [*]; done)), H', ⟨by have := HJ2.out; first | omega | exact Nat.le_refl _⟩, ⟨bk_ BK433⟩, ⟨bk_ BK434⟩, ⟨bk_ BK435⟩, ⟨bl_ HB⟩⟩
      ·replace c31 := Bool.eq_false_iff.mpr c31
       subst c31
       rw [if_neg (show ¬ (false = true) by decide)] at H; (try dsimp only at H)
       have H' := am_ H
       clear H; have hnb78 := NB433_434.out; have hnc78 := NB434_433.out; have hnb79 := NB433_435.out; have hnc79 := NB435_433.out
       obtain ⟨hcz80_0, hcz80_1, hcz80_2, hcz80_3, hcz80_4, hcz80_5, hfz80_0, hfz80_1, hfz80_2, hfz80_3, hfz80_4, hfz80_5⟩ := ck6_ BK433; have hnb81 := NB434_435.out; have hnc81 := NB435_434.out
       obtain ⟨hcz82_0, hcz82_1, hcz82_2, hcz82_3, hcz82_4, hcz82_5, hfz82_0, hfz82_1, hfz82_2, hfz82_3, hfz82_4, hfz82_5⟩ := ck6_ BK434
       go_wp2_with (first | ((with_reducible refine gate_callee (f := 71) rfl ?_); refine goesL_ (some 21) rfl rfl Tryd.func71 (by kernel_rfl) rfl #[.agg #[.int .i64 a0_0, .slice A0_1 l0_1.length c0_1, .int .i64 a0_2], .agg #[.int .i64 a1_0, .slice A1_1 l1_1.length c1_1, .int .i64 a1_2]] rfl ma_ ?_; (with_reducible refine (spec_l03Mul.calls kj2 a0_0 _ _ l0_1 a0_2 a1_0 _ _ l1_1 a1_2 t438 t439 t442 _ ?side1 ?side2 ?side3 ?side4 A26.out).mono ?_); (case side1 => exact cb_ HR0_1 HB); (case side2 => exact HC0_1.out); (case side3 => exact cb_ HR1_1 HB); (case side4 => exact HC1_1.out); rintro e w83 ⟨v440, rfl, ho0, hb⟩; refine ⟨_, rfl, ?_⟩; have HO441 := am_ (Kd.R_lower ho0 (below_size (bl_ HB))); replace BK433 := bb_ BK433 hb; replace BK434 := bb_ BK434 hb; replace BK435 := bb_ BK435 hb; replace HB := bs_ HB hb; (try clear hb); (try clear ho0); obtain ⟨Ao84, co84, eo84⟩ := Kd.R_slice HO441.out; subst eo84) | ((with_reducible refine gate_callee (f := 70) rfl ?_); refine goesL_ (some 22) rfl rfl Tryd.func70 (by kernel_rfl) rfl #[.agg #[.int .i64 t438, .slice Ao84 t439.length co84, .int .i64 t442]] rfl ma_ ?_; (with_reducible refine (spec_l03Is.calls kj2 t438 _ _ t439 t442 true _ ?side1 ?side2 A27.out).mono ?_); (case side1 => exact cr_ HO441); (case side2 => exact (Kd.R_reads' HO441.out).2.1); rintro e w85 ⟨rfl, hb⟩; refine ⟨_, rfl, ?_⟩; replace HO441 := am_ (Kd.R_below (kr_ HO441) hb); replace BK433 := bb_ BK433 hb; replace BK434 := bb_ BK434 hb; replace BK435 := bb_ BK435 hb; replace HB := bs_ HB hb; (try clear hb); obtain ⟨hcz86_0, hcz86_1, hcz86_2, hcz86_3, hcz86_4, hcz86_5, hfz86_0, hfz86_1, hfz86_2, hfz86_3, hfz86_4, hfz86_5⟩ := ck6_ BK433; obtain ⟨hcz87_0, hcz87_1, hcz87_2, hcz87_3, hcz87_4, hcz87_5, hfz87_0, hfz87_1, hfz87_2, hfz87_3, hfz87_4, hfz87_5⟩ := ck6_ BK434) | (go_at_call 71; (with_reducible refine (spec_l03Mul.calls kj2 a0_3 _ _ l0_4 a0_5 a1_3 _ _ l1_4 a1_5 t444 t445 t448 _ ?side1 ?side2 ?side3 ?side4 A29.out).mono ?_); (case side1 => exact cb_ HR0_4 HB); (case side2 => exact HC0_4.out); (case side3 => exact cb_ HR1_4 HB); (case side4 => exact HC1_4.out); rintro e w88 ⟨v446, rfl, ho0, hb⟩; have HO447 := am_ (Kd.R_lower (Kd.R_new' ho0 (Kd.R_lt (kr_ HO441))) (below_size (bl_ HB))); replace HO441 := am_ (Kd.R_elder' (kr_ HO441) (Kd.R_base ho0) hb); replace BK433 := bb_ BK433 hb; replace BK434 := bb_ BK434 hb; replace BK435 := bb_ BK435 hb; replace HB := bs_ HB hb; (try clear hb); (try clear ho0); obtain ⟨Ao89, co89, eo89⟩ := Kd.R_slice HO447.out; subst eo89) | (go_at_call 70; (with_reducible refine (spec_l03Is.calls kj2 t444 _ _ t445 t448 false _ ?side1 ?side2 A30.out).mono ?_); (case side1 => exact cr_ HO447); (case side2 => exact (Kd.R_reads' HO447.out).2.1); rintro e w90 ⟨rfl, hb⟩; replace HO441 := am_ (Kd.R_below (kr_ HO441) hb); replace HO447 := am_ (Kd.R_below (kr_ HO447) hb); replace BK433 := bb_ BK433 hb; replace BK434 := bb_ BK434 hb; replace BK435 := bb_ BK435 hb; replace HB := bs_ HB hb; (try clear hb)))
       go_meet
       case rel => exact ⟨_, (true), (by first | rfl | (simp; done) | (simp [*]; done)), H', ⟨by have := HJ2.out; first | omega | exact Nat.le_refl _⟩, ⟨bk_ BK433⟩, ⟨bk_ BK434⟩, ⟨bk_ BK435⟩, ⟨bl_ HB⟩⟩
     ·replace c28 := Bool.eq_false_iff.mpr c28
      subst c28
      rw [if_neg (show ¬ (false = true) by decide)] at H; (try dsimp only at H)
      have H' := am_ H
      clear H; have hnb91 := NB433_434.out; have hnc91 := NB434_433.out; have hnb92 := NB433_435.out; have hnc92 := NB435_433.out
      obtain ⟨hcz93_0, hcz93_1, hcz93_2, hcz93_3, hcz93_4, hcz93_5, hfz93_0, hfz93_1, hfz93_2, hfz93_3, hfz93_4, hfz93_5⟩ := ck6_ BK433; have hnb94 := NB434_435.out; have hnc94 := NB435_434.out
      obtain ⟨hcz95_0, hcz95_1, hcz95_2, hcz95_3, hcz95_4, hcz95_5, hfz95_0, hfz95_1, hfz95_2, hfz95_3, hfz95_4, hfz95_5⟩ := ck6_ BK434
      go_wp2_with (first | ((with_reducible refine gate_callee (f := 71) rfl ?_); refine goesL_ (some 21) rfl rfl Tryd.func71 (by kernel_rfl) rfl #[.agg #[.int .i64 a0_0, .slice A0_1 l0_1.length c0_1, .int .i64 a0_2], .agg #[.int .i64 a1_0, .slice A1_1 l1_1.length c1_1, .int .i64 a1_2]] rfl ma_ ?_; (with_reducible refine (spec_l03Mul.calls kj2 a0_0 _ _ l0_1 a0_2 a1_0 _ _ l1_1 a1_2 t438 t439 t442 _ ?side1 ?side2 ?side3 ?side4 A26.out).mono ?_); (case side1 => exact cb_ HR0_1 HB); (case side2 => exact HC0_1.out); (case side3 => exact cb_ HR1_1 HB); (case side4 => exact HC1_1.out); rintro e w96 ⟨v440, rfl, ho0, hb⟩; refine ⟨_, rfl, ?_⟩; have HO441 := am_ (Kd.R_lower ho0 (below_size (bl_ HB))); replace BK433 := bb_ BK433 hb; replace BK434 := bb_ BK434 hb; replace BK435 := bb_ BK435 hb; replace HB := bs_ HB hb; (try clear hb); (try clear ho0); obtain ⟨Ao97, co97, eo97⟩ := Kd.R_slice HO441.out; subst eo97) | ((with_reducible refine gate_callee (f := 70) rfl ?_); refine goesL_ (some 22) rfl rfl Tryd.func70 (by kernel_rfl) rfl #[.agg #[.int .i64 t438, .slice Ao97 t439.length co97, .int .i64 t442]] rfl ma_ ?_; (with_reducible refine (spec_l03Is.calls kj2 t438 _ _ t439 t442 false _ ?side1 ?side2 A27.out).mono ?_); (case side1 => exact cr_ HO441); (case side2 => exact (Kd.R_reads' HO441.out).2.1); rintro e w98 ⟨rfl, hb⟩; refine ⟨_, rfl, ?_⟩; replace HO441 := am_ (Kd.R_below (kr_ HO441) hb); replace BK433 := bb_ BK433 hb; replace BK434 := bb_ BK434 hb; replace BK435 := bb_ BK435 hb; replace HB := bs_ HB hb; (try clear hb)))
      go_meet
      case rel => exact ⟨_, (true), (by first | rfl | (simp; done) | (simp [*]; done)), H', ⟨by have := HJ2.out; first | omega | exact Nat.le_refl _⟩, ⟨bk_ BK433⟩, ⟨bk_ BK434⟩, ⟨bk_ BK435⟩, ⟨bl_ HB⟩⟩
    case rest =>
     clear HC25; try clear c8; try clear c21; try clear c28; try clear hcz24_0; try clear hcz24_1; try clear hcz24_2; try clear hcz24_3; try clear hcz24_4; try clear hcz24_5
     try clear hfz24_0; try clear hfz24_1; try clear hfz24_2; try clear hfz24_3; try clear hfz24_4; try clear hfz24_5

     obtain ⟨kq, x50_24, rfl, HA, HJ24, BK433, BK434, BK435, HB⟩ := hcut
     cases kq with
     | zero => exact absurd HA.out (by simp [spec_MultiplyExacts.j1])
     | succ kj24 =>
      have H := HA.out; clear HA
      simp only [spec_MultiplyExacts.j1] at H
      by_cases c99 : x50_24 = true
      ·subst c99
       rw [if_pos rfl] at H; (try dsimp only at H)
       simp only [Option.some.injEq, Prod.mk.injEq] at H
       obtain ⟨rfl, rfl, rfl, rfl, rfl, rfl, rfl⟩ := H
       have hnb100 := NB435_433.out; have hnc100 := NB433_435.out; have hnb101 := NB435_434.out; have hnc101 := NB434_435.out
       obtain ⟨hcz102_0, hcz102_1, hcz102_2, hcz102_3, hcz102_4, hcz102_5, hfz102_0, hfz102_1, hfz102_2, hfz102_3, hfz102_4, hfz102_5⟩ := ck6_ BK435
       go_wp2
       refine bodyPost_ret (results_ct rfl _ _ gb435 47 #[.int .i64 0, .slice none 0 0, .int .i64 0, .int .i64 0, .slice none 0 0, .int .i64 0] (0, 0) _ rfl (by (with_reducible repeat (first | refine blk_drewN ?_ _ | refine blk_drew ?_ | refine blk_alloc ?_ _)); refine blk_put (cs := #[.int .i64 0, .slice none 0 0, .int .i64 0, .int .i64 0, .slice none 0 0, .int .i64 0]) ?_ 5 _ rfl; (with_reducible repeat (first | refine blk_drewN ?_ _ | refine blk_drew ?_ | refine blk_alloc ?_ _)); refine blk_put (cs := #[.int .i64 0, .slice none 0 0, .int .i64 0, .int .i64 0, .slice none 0 0, .int .i64 0]) ?_ 4 _ rfl; (with_reducible repeat (first | refine blk_drewN ?_ _ | refine blk_drew ?_ | refine blk_alloc ?_ _)); refine blk_put (cs := #[.int .i64 0, .slice none 0 0, .int .i64 0, .int .i64 0, .slice none 0 0, .int .i64 0]) ?_ 3 _ rfl; (with_reducible repeat (first | refine blk_drewN ?_ _ | refine blk_drew ?_ | refine blk_alloc ?_ _)); refine blk_put (cs := #[.int .i64 0, .slice none 0 0, .int .i64 0, .int .i64 0, .slice none 0 0, .int .i64 0]) ?_ 2 _ rfl; (with_reducible repeat (first | refine blk_drewN ?_ _ | refine blk_drew ?_ | refine blk_alloc ?_ _)); refine blk_put (cs := #[.int .i64 0, .slice none 0 0, .int .i64 0, .int .i64 0, .slice none 0 0, .int .i64 0]) ?_ 1 _ rfl; (with_reducible repeat (first | refine blk_drewN ?_ _ | refine blk_drew ?_ | refine blk_alloc ?_ _)); refine blk_put (cs := #[.int .i64 0, .slice none 0 0, .int .i64 0, .int .i64 0, .slice none 0 0, .int .i64 0]) ?_ 0 _ rfl; (with_reducible repeat (first | refine blk_drewN ?_ _ | refine blk_drew ?_ | refine blk_alloc ?_ _)); exact BK435.out) Tryd.underlying47 rfl (by kernel_rfl)) rfl ?_
       exact ⟨_, _, by first | rfl | (simp [errW_none, errW_some] <;> rfl) | (simp [*, errW_none, errW_some] <;> rfl), by first | exact Kd.R_nil _ _ _ _ _ | exact Kd.N_nil _ _ _ _ _ | exact Kd.V_nil _ _ _ _ _ | exact Kd.Q_nil _ _ _ _ _ | exact Kd.S_nil _ _ _ _ _, by first | exact Kd.R_nil _ _ _ _ _ | exact Kd.N_nil _ _ _ _ _ | exact Kd.V_nil _ _ _ _ _ | exact Kd.Q_nil _ _ _ _ _ | exact Kd.S_nil _ _ _ _ _, bl_ HB⟩
      ·replace c99 := Bool.eq_false_iff.mpr c99
       subst c99
       rw [if_neg (show ¬ (false = true) by decide)] at H; (try dsimp only at H)
       replace H := Option.bind_eq_some_iff.mp H
       obtain ⟨⟨t462, t463, t466, t467, t468, t471⟩, A1030, H⟩ := H
       try dsimp only at H
       have A103 := am_ A1030; clear A1030
       replace H := Option.bind_eq_some_iff.mp H
       obtain ⟨⟨t472, t473, t476, t477, t478, t481, t482⟩, A1040, H⟩ := H
       try dsimp only at H
       have A104 := am_ A1040; clear A1040
       simp only [Option.some.injEq, Prod.mk.injEq] at H
       obtain ⟨rfl, rfl, rfl, rfl, rfl, rfl, rfl⟩ := H
       have hnb105 := NB433_434.out; have hnc105 := NB434_433.out; have hnb106 := NB433_435.out; have hnc106 := NB435_433.out
       obtain ⟨hcz107_0, hcz107_1, hcz107_2, hcz107_3, hcz107_4, hcz107_5, hfz107_0, hfz107_1, hfz107_2, hfz107_3, hfz107_4, hfz107_5⟩ := ck6_ BK433; have hnb108 := NB434_435.out; have hnc108 := NB435_434.out
       obtain ⟨hcz109_0, hcz109_1, hcz109_2, hcz109_3, hcz109_4, hcz109_5, hfz109_0, hfz109_1, hfz109_2, hfz109_3, hfz109_4, hfz109_5⟩ := ck6_ BK434
       go_wp2_with (first | ((with_reducible refine gate_callee (f := 77) rfl ?_); refine goesL_ (some 55) rfl rfl Tryd.func77 (by kernel_rfl) rfl #[.agg #[.int .i64 a0_0, .slice A0_1 l0_1.length c0_1, .int .i64 a0_2, .int .i64 a0_3, .slice A0_4 l0_4.length c0_4, .int .i64 a0_5], .agg #[.int .i64 a1_0, .slice A1_1 l1_1.length c1_1, .int .i64 a1_2, .int .i64 a1_3, .slice A1_4 l1_4.length c1_4, .int .i64 a1_5]] rfl ma_ ?_; (with_reducible refine (spec_l03Times.calls kj24 a0_0 _ _ l0_1 a0_2 a0_3 _ _ l0_4 a0_5 a1_0 _ _ l1_1 a1_2 a1_3 _ _ l1_4 a1_5 t462 t463 t466 t467 t468 t471 _ ?side1 ?side2 ?side3 ?side4 ?side5 ?side6 ?side7 ?side8 A103.out).mono ?_); (case side1 => exact cb_ HR0_1 HB); (case side2 => exact HC0_1.out); (case side3 => exact cb_ HR0_4 HB); (case side4 => exact HC0_4.out); (case side5 => exact cb_ HR1_1 HB); (case side6 => exact HC1_1.out); (case side7 => exact cb_ HR1_4 HB); (case side8 => exact HC1_4.out); rintro e w110 ⟨v464, v469, rfl, ho0, ho1, hb⟩; refine ⟨_, rfl, ?_⟩; have HO465 := am_ (Kd.R_lower ho0 (below_size (bl_ HB))); have HO470 := am_ (Kd.R_lower ho1 (below_size (bl_ HB))); replace BK433 := bb_ BK433 hb; replace BK434 := bb_ BK434 hb; replace BK435 := bb_ BK435 hb; replace HB := bs_ HB hb; (try clear hb); (try clear ho0); (try clear ho1); obtain ⟨Ao111, co111, eo111⟩ := Kd.R_slice HO465.out; subst eo111; obtain ⟨Ao112, co112, eo112⟩ := Kd.R_slice HO470.out; subst eo112) | ((with_reducible refine gate_callee (f := 64) rfl ?_); refine goesL_ (some 56) rfl rfl Tryd.func64 (by kernel_rfl) rfl #[.agg #[.int .i64 t462, .slice Ao111 t463.length co111, .int .i64 t466, .int .i64 t467, .slice Ao112 t468.length co112, .int .i64 t471]] rfl ma_ ?_; (with_reducible refine (spec_l03FitPair.calls kj24 t462 (fun k_ => some k_ = (.slice Ao111 t463.length co111 : Value).ownBlock) (.slice Ao111 t463.length co111) t463 t466 t467 (fun k_ => some k_ = (.slice Ao112 t468.length co112 : Value).ownBlock) (.slice Ao112 t468.length co112) t468 t471 t472 t473 t476 t477 t478 t481 t482 w _ ?side1 ?side2 ?side3 ?side4 ?side5 A104.out).mono ?_); (case side1 => exact bl_ HB); (case side2 => exact Kd.R_tight rfl HO465.out); (case side3 => exact fun k_ e_ => (HO465.out.1 k_ e_.symm)); (case side4 => exact Kd.R_tight rfl HO470.out); (case side5 => exact fun k_ e_ => (HO470.out.1 k_ e_.symm)); rintro e w113 ⟨v474, v479, rfl, ho0, ho1, hb, hkp⟩; refine ⟨_, rfl, ?_⟩; have n0_ := am_ (blk_kept (bk_ BK433) hkp (fun hs_ => Or.elim hs_ (fun e_ => (fun e_ => (Kd.R_ne HO465.out BK433.out (by decide)) e_) e_) (fun e_ => (fun e_ => (Kd.R_ne HO470.out BK433.out (by decide)) e_) e_))); have n1_ := am_ (blk_kept (bk_ BK434) hkp (fun hs_ => Or.elim hs_ (fun e_ => (fun e_ => (Kd.R_ne HO465.out BK434.out (by decide)) e_) e_) (fun e_ => (fun e_ => (Kd.R_ne HO470.out BK434.out (by decide)) e_) e_))); have n2_ := am_ (blk_kept (bk_ BK435) hkp (fun hs_ => Or.elim hs_ (fun e_ => (fun e_ => (Kd.R_ne HO465.out BK435.out (by decide)) e_) e_) (fun e_ => (fun e_ => (Kd.R_ne HO470.out BK435.out (by decide)) e_) e_))); have n3_ := am_ (Kd.R_mono (ok' := fun k_ => some k_ ≠ (v479 : Value).ownBlock) ho0 (fun k_ hk_ => hk_.2)); have n4_ := am_ (Kd.R_mono (ok' := fun k_ => some k_ ≠ (v474 : Value).ownBlock) ho1 (fun k_ hk_ => hk_.2)); have n5_ := am_ (hb); clear BK433; clear BK434; clear BK435; clear HB; clear HO465; clear HO470; have BK433 := n0_; have BK434 := n1_; have BK435 := n2_; have HO475 := n3_; have HO480 := n4_; have HB := n5_; clear n0_ n1_ n2_ n3_ n4_ n5_; (try clear hb); (try clear hkp); (try clear ho0); (try clear ho1)) | ((with_reducible refine gate_dst (N := 6) rfl ?_); refine bx_ 6 #[.int .i64 0, .slice none 0 0, .int .i64 0, .int .i64 0, .slice none 0 0, .int .i64 0] 47 ?_; intro gb483 hg w114 hbox hb; obtain ⟨BK483, GW483, GE483⟩ := nb_ hbox hg HB; obtain ⟨NB433_483, NB483_433⟩ := nn_ hg BK433; obtain ⟨NB434_483, NB483_434⟩ := nn_ hg BK434; obtain ⟨NB435_483, NB483_435⟩ := nn_ hg BK435; replace HO475 := am_ (Kd.R_below (kr_ HO475) hb); replace HO480 := am_ (Kd.R_below (kr_ HO480) hb); replace BK433 := bb_ BK433 hb; replace BK434 := bb_ BK434 hb; replace BK435 := bb_ BK435 hb; replace HB := bs_ HB hb; clear hb hbox hg; have hnb115 := NB483_433.out; have hnc115 := NB433_483.out; have hnb116 := NB483_434.out; have hnc116 := NB434_483.out; have hnb117 := NB483_435.out; have hnc117 := NB435_483.out; obtain ⟨hcz118_0, hcz118_1, hcz118_2, hcz118_3, hcz118_4, hcz118_5, hfz118_0, hfz118_1, hfz118_2, hfz118_3, hfz118_4, hfz118_5⟩ := ck6_ BK483; obtain ⟨Ao119, co119, eo119⟩ := Kd.R_slice HO475.out; subst eo119; obtain ⟨Ao120, co120, eo120⟩ := Kd.R_slice HO480.out; subst eo120; obtain ⟨hcz121_0, hcz121_1, hcz121_2, hcz121_3, hcz121_4, hcz121_5, hfz121_0, hfz121_1, hfz121_2, hfz121_3, hfz121_4, hfz121_5⟩ := ck6_ BK435))
       refine bodyPost_ret (results_ct rfl _ _ gb435 47 #[.int .i64 t472, .slice Ao119 t473.length co119, .int .i64 t476, .int .i64 t477, .slice Ao120 t478.length co120, .int .i64 t481] (0, 0) _ rfl (by (with_reducible repeat (first | refine blk_drewN ?_ _ | refine blk_drew ?_ | refine blk_alloc ?_ _)); refine blk_put (cs := #[.int .i64 t472, .slice Ao119 t473.length co119, .int .i64 t476, .int .i64 t477, .slice Ao120 t478.length co120, .int .i64 0]) ?_ 5 _ rfl; (with_reducible repeat (first | refine blk_drewN ?_ _ | refine blk_drew ?_ | refine blk_alloc ?_ _)); refine blk_put (cs := #[.int .i64 t472, .slice Ao119 t473.length co119, .int .i64 t476, .int .i64 t477, .slice none 0 0, .int .i64 0]) ?_ 4 _ rfl; (with_reducible repeat (first | refine blk_drewN ?_ _ | refine blk_drew ?_ | refine blk_alloc ?_ _)); refine blk_put (cs := #[.int .i64 t472, .slice Ao119 t473.length co119, .int .i64 t476, .int .i64 0, .slice none 0 0, .int .i64 0]) ?_ 3 _ rfl; (with_reducible repeat (first | refine blk_drewN ?_ _ | refine blk_drew ?_ | refine blk_alloc ?_ _)); refine blk_put (cs := #[.int .i64 t472, .slice Ao119 t473.length co119, .int .i64 0, .int .i64 0, .slice none 0 0, .int .i64 0]) ?_ 2 _ rfl; (with_reducible repeat (first | refine blk_drewN ?_ _ | refine blk_drew ?_ | refine blk_alloc ?_ _)); refine blk_put (cs := #[.int .i64 t472, .slice none 0 0, .int .i64 0, .int .i64 0, .slice none 0 0, .int .i64 0]) ?_ 1 _ rfl; (with_reducible repeat (first | refine blk_drewN ?_ _ | refine blk_drew ?_ | refine blk_alloc ?_ _)); refine blk_put (cs := #[.int .i64 0, .slice none 0 0, .int .i64 0, .int .i64 0, .slice none 0 0, .int .i64 0]) ?_ 0 _ rfl; (with_reducible repeat (first | refine blk_drewN ?_ _ | refine blk_drew ?_ | refine blk_alloc ?_ _)); refine blk_far ?_ NB435_483.out _; (with_reducible repeat (first | refine blk_drewN ?_ _ | refine blk_drew ?_ | refine blk_alloc ?_ _)); refine blk_far ?_ NB435_483.out _; (with_reducible repeat (first | refine blk_drewN ?_ _ | refine blk_drew ?_ | refine blk_alloc ?_ _)); refine blk_far ?_ NB435_483.out _; (with_reducible repeat (first | refine blk_drewN ?_ _ | refine blk_drew ?_ | refine blk_alloc ?_ _)); refine blk_far ?_ NB435_483.out _; (with_reducible repeat (first | refine blk_drewN ?_ _ | refine blk_drew ?_ | refine blk_alloc ?_ _)); refine blk_far ?_ NB435_483.out _; (with_reducible repeat (first | refine blk_drewN ?_ _ | refine blk_drew ?_ | refine blk_alloc ?_ _)); refine blk_far ?_ NB435_483.out _; (with_reducible repeat (first | refine blk_drewN ?_ _ | refine blk_drew ?_ | refine blk_alloc ?_ _)); exact BK435.out) Tryd.underlying47 rfl (by kernel_rfl)) rfl ?_
       exact ⟨_, _, by first | rfl | (simp [errW_none, errW_some] <;> rfl) | (simp [*, errW_none, errW_some] <;> rfl), by (with_reducible repeat (first | apply Kd.R_alloc | apply Kd.R_drewN | apply Kd.R_drew)); exact Kd.R_mono (Kd.R_far (p := ⟨gb435, 5, none⟩) (Kd.R_far (p := ⟨gb435, 4, none⟩) (Kd.R_far (p := ⟨gb435, 3, none⟩) (Kd.R_far (p := ⟨gb435, 2, none⟩) (Kd.R_far (p := ⟨gb435, 1, none⟩) (Kd.R_far (p := ⟨gb435, 0, none⟩) (Kd.R_far (p := ⟨gb483, 5, none⟩) (Kd.R_far (p := ⟨gb483, 4, none⟩) (Kd.R_far (p := ⟨gb483, 3, none⟩) (Kd.R_far (p := ⟨gb483, 2, none⟩) (Kd.R_far (p := ⟨gb483, 1, none⟩) (Kd.R_far (p := ⟨gb483, 0, none⟩) (Kd.R_types (Kd.R_types HO475.out BK483.out (by decide)) BK435.out (by decide)) (fun _ hk => hk.1.2) (.int .i64 t472)) (fun _ hk => hk.1.2) (.slice Ao119 t473.length co119)) (fun _ hk => hk.1.2) (.int .i64 t476)) (fun _ hk => hk.1.2) (.int .i64 t477)) (fun _ hk => hk.1.2) (.slice Ao120 t478.length co120)) (fun _ hk => hk.1.2) (.int .i64 t481)) (fun _ hk => hk.2) (.int .i64 t472)) (fun _ hk => hk.2) (.slice Ao119 t473.length co119)) (fun _ hk => hk.2) (.int .i64 t476)) (fun _ hk => hk.2) (.int .i64 t477)) (fun _ hk => hk.2) (.slice Ao120 t478.length co120)) (fun _ hk => hk.2) (.int .i64 t481)) (fun _ hk => hk.1.1), by (with_reducible repeat (first | apply Kd.R_alloc | apply Kd.R_drewN | apply Kd.R_drew)); exact Kd.R_mono (Kd.R_far (p := ⟨gb435, 5, none⟩) (Kd.R_far (p := ⟨gb435, 4, none⟩) (Kd.R_far (p := ⟨gb435, 3, none⟩) (Kd.R_far (p := ⟨gb435, 2, none⟩) (Kd.R_far (p := ⟨gb435, 1, none⟩) (Kd.R_far (p := ⟨gb435, 0, none⟩) (Kd.R_far (p := ⟨gb483, 5, none⟩) (Kd.R_far (p := ⟨gb483, 4, none⟩) (Kd.R_far (p := ⟨gb483, 3, none⟩) (Kd.R_far (p := ⟨gb483, 2, none⟩) (Kd.R_far (p := ⟨gb483, 1, none⟩) (Kd.R_far (p := ⟨gb483, 0, none⟩) (Kd.R_types (Kd.R_types HO480.out BK483.out (by decide)) BK435.out (by decide)) (fun _ hk => hk.1.2) (.int .i64 t472)) (fun _ hk => hk.1.2) (.slice Ao119 t473.length co119)) (fun _ hk => hk.1.2) (.int .i64 t476)) (fun _ hk => hk.1.2) (.int .i64 t477)) (fun _ hk => hk.1.2) (.slice Ao120 t478.length co120)) (fun _ hk => hk.1.2) (.int .i64 t481)) (fun _ hk => hk.2) (.int .i64 t472)) (fun _ hk => hk.2) (.slice Ao119 t473.length co119)) (fun _ hk => hk.2) (.int .i64 t476)) (fun _ hk => hk.2) (.int .i64 t477)) (fun _ hk => hk.2) (.slice Ao120 t478.length co120)) (fun _ hk => hk.2) (.int .i64 t481)) (fun _ hk => hk.1.1), bl_ HB⟩
end Go.Proofs.YtghhphndbbefjaaDoor.X
