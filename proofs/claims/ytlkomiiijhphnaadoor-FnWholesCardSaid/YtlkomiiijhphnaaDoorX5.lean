/- Functions of the program as plain Lean functions, each with a proof that its call does what that function says. Printed by a program over the kit's print; conditions stand in each contract. -/
import Derived.Test.YtlkomiiijhphnaaDoorG10
import Derived.Test.YtlkomiiijhphnaaDoorG15
import Derived.Test.YtlkomiiijhphnaaDoorG16
namespace Go.Proofs.YtlkomiiijhphnaaDoor.X
open Go.RowKit Go.Proofs.YtlkomiiijhphnaaDoorW.PrintWords Go.Proofs.YtlkomiiijhphnaaDoorW.PrintLast Go.Proofs.YtlkomiiijhphnaaDoorW.PrintMore Go.Proofs.YtlkomiiijhphnaaDoor.Sq
attribute [local go_sem] max2_int min2_int max_two min_two max_three min_three max_four min_four   -- for this text's walks alone
set_option linter.unusedVariables false
set_option linter.unusedSimpArgs false
mutual
def spec_l02DivMod.l0 : Nat → Int → List Int → List Int → Int → Int → List Int → Int → List Int → Option (Int × List Int × Int × List Int)
  | 0, _, _, _, _, _, _, _, _ => none
  | k + 1, x6, x7, x8, x9, x302000, x302001, x303000, x303001 => if x9 ≥ 0 then ((spec_l02Bit.f x302000 x302001 x9).bind fun t320 => (spec_l02DivMod.l1 k x6 x7 x8 x9 t320 0 x302000 x302001 x303000 x303001)) else ((spec_l02Make.f k (wrap64 (x302000 * x303000)) x8).bind fun bt312 => ((spec_l02Make.f k x302000 x7).bind fun bt316 => (some (bt312.1, bt312.2, bt316.1, bt316.2))))
def spec_l02DivMod.l1 : Nat → Int → List Int → List Int → Int → Int → Int → Int → List Int → Int → List Int → Option (Int × List Int × Int × List Int)
  | 0, _, _, _, _, _, _, _, _, _, _ => none
  | k + 1, x6, x7, x8, x9, x10, x11, x302000, x302001, x303000, x303001 => if x11 ≤ x6 then (if 0 ≤ x11 then (if x11 < (x7.length : Int) then (spec_l02DivMod.l1 k x6 (x7.set (x11 : Int).toNat (Int.tmod (wrap64 ((wrap64 (2 * (rd x7 x11))) + x10)) 16777216)) x8 x9 (wrap64 (Int.tdiv (wrap64 ((wrap64 (2 * (rd x7 x11))) + x10)) 16777216)) (wrap64 (x11 + 1)) x302000 x302001 x303000 x303001) else (none)) else (none)) else (if 0 ≤ x6 then (if x6 < (x7.length : Int) then (spec_l02DivMod.l2 k x6 x7 x8 x9 ((rd x7 x6) == 0) (wrap64 (x6 - 1)) x302000 x302001 x303000 x303001) else (none)) else (none))
def spec_l02DivMod.j4 : Nat → Int → List Int → List Int → Int → Bool → Int → List Int → Int → List Int → Option (Int × List Int × Int × List Int)
  | 0, _, _, _, _, _, _, _, _, _ => none
  | k + 1, x6, x7, x8, x9, x13, x302000, x302001, x303000, x303001 => if x13 = true then (spec_l02DivMod.l0 k x6 x7 x8 (wrap64 (x9 - 1)) x302000 x302001 x303000 x303001) else (spec_l02DivMod.l3 k x6 x7 x8 x9 0 0 x302000 x302001 x303000 x303001)
def spec_l02DivMod.l3 : Nat → Int → List Int → List Int → Int → Int → Int → Int → List Int → Int → List Int → Option (Int × List Int × Int × List Int)
  | 0, _, _, _, _, _, _, _, _, _, _ => none
  | k + 1, x6, x7, x8, x9, x15, x16, x302000, x302001, x303000, x303001 => if x16 ≤ x6 then (if 0 ≤ x16 then (if x16 < (x7.length : Int) then (if x16 < x6 then (if x16 < (x303001.length : Int) then (if (wrap64 ((wrap64 ((rd x7 x16) - x15)) - (rd x303001 x16))) < 0 then (spec_l02DivMod.l3 k x6 (x7.set (x16 : Int).toNat (wrap64 ((wrap64 ((wrap64 ((rd x7 x16) - x15)) - (rd x303001 x16))) + 16777216))) x8 x9 1 (wrap64 (x16 + 1)) x302000 x302001 x303000 x303001) else (spec_l02DivMod.l3 k x6 (x7.set (x16 : Int).toNat (wrap64 ((wrap64 ((rd x7 x16) - x15)) - (rd x303001 x16)))) x8 x9 0 (wrap64 (x16 + 1)) x302000 x302001 x303000 x303001)) else (none)) else (if (wrap64 ((rd x7 x16) - x15)) < 0 then (spec_l02DivMod.l3 k x6 (x7.set (x16 : Int).toNat (wrap64 ((wrap64 ((rd x7 x16) - x15)) + 16777216))) x8 x9 1 (wrap64 (x16 + 1)) x302000 x302001 x303000 x303001) else (spec_l02DivMod.l3 k x6 (x7.set (x16 : Int).toNat (wrap64 ((rd x7 x16) - x15))) x8 x9 0 (wrap64 (x16 + 1)) x302000 x302001 x303000 x303001))) else (none)) else (none)) else (if 0 ≤ (wrap64 (Int.tdiv x9 24)) then (if (wrap64 (Int.tdiv x9 24)) < (x8.length : Int) then (if 0 ≤ (IntKind.u64.wrap (Int.tmod x9 24)) then (spec_l02DivMod.l0 k x6 x7 (x8.set ((wrap64 (Int.tdiv x9 24)) : Int).toNat (wrap64 ((rd x8 (wrap64 (Int.tdiv x9 24))) + (shl .i64 1 (IntKind.u64.wrap (Int.tmod x9 24)))))) (wrap64 (x9 - 1)) x302000 x302001 x303000 x303001) else (none)) else (none)) else (none))
def spec_l02DivMod.l2 : Nat → Int → List Int → List Int → Int → Bool → Int → Int → List Int → Int → List Int → Option (Int × List Int × Int × List Int)
  | 0, _, _, _, _, _, _, _, _, _, _ => none
  | k + 1, x6, x7, x8, x9, x13, x14, x302000, x302001, x303000, x303001 => if x14 ≥ 0 then (spec_l02DivMod.j3 k x6 x7 x8 x9 x13 x14 x13 x302000 x302001 x303000 x303001) else (spec_l02DivMod.j3 k x6 x7 x8 x9 x13 x14 false x302000 x302001 x303000 x303001)
def spec_l02DivMod.j3 : Nat → Int → List Int → List Int → Int → Bool → Int → Bool → Int → List Int → Int → List Int → Option (Int × List Int × Int × List Int)
  | 0, _, _, _, _, _, _, _, _, _, _, _ => none
  | k + 1, x6, x7, x8, x9, x13, x14, x68, x302000, x302001, x303000, x303001 => if x68 = true then (if 0 ≤ x14 then (if x14 < (x7.length : Int) then (if x14 < (x303001.length : Int) then (if (rd x7 x14) = (rd x303001 x14) then (if x14 = 0 then (spec_l02DivMod.l2 k x6 x7 x8 x9 false (wrap64 (x14 - 1)) x302000 x302001 x303000 x303001) else (spec_l02DivMod.l2 k x6 x7 x8 x9 x13 (wrap64 (x14 - 1)) x302000 x302001 x303000 x303001)) else (spec_l02DivMod.j4 k x6 x7 x8 x9 (decide ((rd x7 x14) < (rd x303001 x14))) x302000 x302001 x303000 x303001)) else (none)) else (none)) else (none)) else (spec_l02DivMod.j4 k x6 x7 x8 x9 x13 x302000 x302001 x303000 x303001)
end
def spec_l02DivMod.f (k : Nat) (a0_0 : Int) (l0_1 : List Int) (a1_0 : Int) (l1_1 : List Int) : Option (Int × List Int × Int × List Int) := if 0 ≤ (wrap64 ((l1_1.length : Int) + 1)) then (if (wrap64 ((l1_1.length : Int) + 1) : Int).toNat ≤ 35184372088832 then (if 0 ≤ (l0_1.length : Int) then (if ((l0_1.length : Int) : Int).toNat ≤ 35184372088832 then ((spec_l02Length.f k a0_0 l0_1).bind fun t311 => (spec_l02DivMod.l0 k (l1_1.length : Int) (List.replicate (wrap64 ((l1_1.length : Int) + 1) : Int).toNat 0) (List.replicate ((l0_1.length : Int) : Int).toNat 0) (wrap64 (t311 - 1)) a0_0 l0_1 a1_0 l1_1)) else (none)) else (none)) else (none)) else (none)
def spec_l02DivMod.T2 : Bool × List (List Nat × List Nat) := (true, [([], []), ([0], [0]), ([1, 1], [1]), ([], []), ([3], [3]), ([4], [4]), ([5, 5], [5]), ([2, 0, 1, 2], [2]), ([6, 7, 0, 1, 2, 3, 4, 5, 6, 7], [6])])
def spec_l02DivMod.B2 : List Nat := [0, 1, 3, 0, 8, 24, 56, 7, 255]
theorem spec_l02DivMod.tab2 : rtab .any (opsOf Tryd.f42 2) = spec_l02DivMod.T2 := by kernel_rfl
theorem spec_l02DivMod.bits2 : waitsOk spec_l02DivMod.T2.2 spec_l02DivMod.B2 = true := by kernel_rfl
def spec_l02DivMod.T17 : Bool × List (List Nat × List Nat) := (true, [([], []), ([], []), ([0, 1], [0, 1]), ([2], [2]), ([], []), ([4], [4]), ([], []), ([5, 6], [5, 6]), ([7], [7]), ([3, 8], [3, 8])])
def spec_l02DivMod.B17 : List Nat := [0, 0, 3, 7, 0, 16, 0, 112, 240, 511]
theorem spec_l02DivMod.tab17 : rtab .any (opsOf Tryd.f42 17) = spec_l02DivMod.T17 := by kernel_rfl
theorem spec_l02DivMod.bits17 : waitsOk spec_l02DivMod.T17.2 spec_l02DivMod.B17 = true := by kernel_rfl
def spec_l02DivMod.T18 : Bool × List (List Nat × List Nat) := (true, [([], []), ([], []), ([0, 1], [0, 1]), ([2], [2]), ([], []), ([4], [4]), ([], []), ([5, 6], [5, 6]), ([7], [7]), ([3, 8], [3, 8]), ([9, 0, 1, 2, 3, 4, 5, 6, 7, 8, 9], [9])])
def spec_l02DivMod.B18 : List Nat := [0, 0, 3, 7, 0, 16, 0, 112, 240, 511, 1023]
theorem spec_l02DivMod.tab18 : rtab .any (opsOf Tryd.f42 18) = spec_l02DivMod.T18 := by kernel_rfl
theorem spec_l02DivMod.bits18 : waitsOk spec_l02DivMod.T18.2 spec_l02DivMod.B18 = true := by kernel_rfl
def spec_l02DivMod.T35 : Bool × List (List Nat × List Nat) := (true, [([], []), ([0], [0]), ([], []), ([2], [2]), ([1, 3], [1, 3]), ([], []), ([4, 5], [4, 5]), ([], []), ([7], [7]), ([], []), ([8, 9, 6], [8, 9]), ([6, 10, 0, 1, 2, 3, 4, 5, 6], [6]), ([10, 11, 0, 1, 2, 3, 4, 5, 6, 7, 8, 9, 10, 11], [10])])
def spec_l02DivMod.B35 : List Nat := [0, 1, 0, 4, 15, 0, 63, 0, 128, 0, 1023, 2047, 4095]
theorem spec_l02DivMod.tab35 : rtab .any (opsOf Tryd.f42 35) = spec_l02DivMod.T35 := by kernel_rfl
theorem spec_l02DivMod.bits35 : waitsOk spec_l02DivMod.T35.2 spec_l02DivMod.B35 = true := by kernel_rfl
set_option maxHeartbeats 8000000 in
set_option maxRecDepth 100000 in
theorem spec_l02DivMod.calls (k : Nat) (a0_0 : Int) (A0_1 : Option Addr) (c0_1 : Nat) (l0_1 : List Int) (a1_0 : Int) (A1_1 : Option Addr) (c1_1 : Nat) (l1_1 : List Int) (r1 : Int) (r2 : List Int) (r3 : Int) (r4 : List Int) (w : World) (hr0_1 : Kd.C (Kd.int .i64) w A0_1 l0_1.length l0_1) (hc0_1 : l0_1.length ≤ c0_1) (hr1_1 : Kd.C (Kd.int .i64) w A1_1 l1_1.length l1_1) (hc1_1 : l1_1.length ≤ c1_1) (h : spec_l02DivMod.f k a0_0 l0_1 a1_0 l1_1 = some (r1, r2, r3, r4)) :
  Calls Tryd.prog 42 #[.agg #[.int .i64 a0_0, .slice A0_1 l0_1.length c0_1], .agg #[.int .i64 a1_0, .slice A1_1 l1_1.length c1_1]] w fun e w' => ∃ v1_ v3_ : Value, e = .returned (.tuple #[.agg #[.int .i64 r1, v1_], .agg #[.int .i64 r3, v3_]]) ∧ Kd.R (Kd.int .i64) 2 w' w.heap.size (fun k_ => some k_ ≠ (v3_ : Value).ownBlock) v1_ r2 ∧ Kd.R (Kd.int .i64) 2 w' w.heap.size (fun k_ => some k_ ≠ (v1_ : Value).ownBlock) v3_ r4 ∧ Below w.heap.size w w' := by
 have hu26 := Tryd.underlying26; have HR0_1 := am_ hr0_1; have HC0_1 := am_ hc0_1; clear hr0_1 hc0_1; have HR1_1 := am_ hr1_1; have HC1_1 := am_ hc1_1; clear hr1_1 hc1_1; have HB := am_ (Below.refl w.heap.size w)
 have H : (if 0 ≤ (wrap64 ((l1_1.length : Int) + 1)) then (if (wrap64 ((l1_1.length : Int) + 1) : Int).toNat ≤ 35184372088832 then (if 0 ≤ (l0_1.length : Int) then (if ((l0_1.length : Int) : Int).toNat ≤ 35184372088832 then ((spec_l02Length.f k a0_0 l0_1).bind fun t311 => (spec_l02DivMod.l0 k (l1_1.length : Int) (List.replicate (wrap64 ((l1_1.length : Int) + 1) : Int).toNat 0) (List.replicate ((l0_1.length : Int) : Int).toNat 0) (wrap64 (t311 - 1)) a0_0 l0_1 a1_0 l1_1)) else (none)) else (none)) else (none)) else (none)) = some (r1, r2, r3, r4) := h
 clear h
 obtain ⟨ji3, hji3⟩ : ∃ j_ : Int, (wrap64 ((l1_1.length : Int) + 1)) = j_ := ⟨_, rfl⟩
 replace H : (if 0 ≤ (ji3) then (if (ji3 : Int).toNat ≤ 35184372088832 then (if 0 ≤ (l0_1.length : Int) then (if ((l0_1.length : Int) : Int).toNat ≤ 35184372088832 then ((spec_l02Length.f k a0_0 l0_1).bind fun t311 => (spec_l02DivMod.l0 k (l1_1.length : Int) (List.replicate (ji3 : Int).toNat 0) (List.replicate ((l0_1.length : Int) : Int).toNat 0) (wrap64 (t311 - 1)) a0_0 l0_1 a1_0 l1_1)) else (none)) else (none)) else (none)) else (none)) = some (r1, r2, r3, r4) := by first | (rw [hji3] at H; exact H) | (simp only [hji3] at H ⊢; exact H)
 have hji3w : (IntKind.i64.wrap ((l1_1.length : Int) + 1)) = ji3 := (i64_w _).trans hji3
 by_cases c4 : 0 ≤ (ji3)
 ·rw [if_pos c4] at H
  have c4b0 := eq_true c4
  have c4b1 : decide (0 ≤ (ji3)) = true := decide_eq_true c4
  clear c4
  by_cases c5 : (ji3 : Int).toNat ≤ 35184372088832
  ·rw [if_pos c5] at H
   have c5b0 := eq_true c5
   have c5b1 : decide ((ji3 : Int).toNat ≤ 35184372088832) = true := decide_eq_true c5
   clear c5
   obtain ⟨y305, hy305⟩ : ∃ y_ : List Int, y_ = (List.replicate (ji3 : Int).toNat 0) := ⟨_, rfl⟩
   replace H : (if 0 ≤ (l0_1.length : Int) then (if ((l0_1.length : Int) : Int).toNat ≤ 35184372088832 then ((spec_l02Length.f k a0_0 l0_1).bind fun t311 => (spec_l02DivMod.l0 k (l1_1.length : Int) y305 (List.replicate ((l0_1.length : Int) : Int).toNat 0) (wrap64 (t311 - 1)) a0_0 l0_1 a1_0 l1_1)) else (none)) else (none)) = some (r1, r2, r3, r4) := by first | (rw [hy305]; with_reducible exact H) | (have H2_ := (Option.bind_some _ _).symm.trans H; rw [hy305]; with_reducible exact H2_) | (have H2_ := (Option.bind_some _ _).symm.trans H; with_reducible exact H2_) | with_reducible exact H | (rw [hy305]; exact H) | exact H
   have Ny305 := am_ hy305; clear hy305
   by_cases c6 : 0 ≤ (l0_1.length : Int)
   ·rw [if_pos c6] at H
    have c6b0 := eq_true c6
    have c6b1 : decide (0 ≤ (l0_1.length : Int)) = true := decide_eq_true c6
    clear c6
    by_cases c7 : ((l0_1.length : Int) : Int).toNat ≤ 35184372088832
    ·rw [if_pos c7] at H
     have c7b0 := eq_true c7
     have c7b1 : decide (((l0_1.length : Int) : Int).toNat ≤ 35184372088832) = true := decide_eq_true c7
     clear c7
     obtain ⟨y308, hy308⟩ : ∃ y_ : List Int, y_ = (List.replicate ((l0_1.length : Int) : Int).toNat 0) := ⟨_, rfl⟩
     replace H : ((spec_l02Length.f k a0_0 l0_1).bind fun t311 => (spec_l02DivMod.l0 k (l1_1.length : Int) y305 y308 (wrap64 (t311 - 1)) a0_0 l0_1 a1_0 l1_1)) = some (r1, r2, r3, r4) := by first | (rw [hy308]; with_reducible exact H) | (have H2_ := (Option.bind_some _ _).symm.trans H; rw [hy308]; with_reducible exact H2_) | (have H2_ := (Option.bind_some _ _).symm.trans H; with_reducible exact H2_) | with_reducible exact H | (rw [hy308]; exact H) | exact H
     have Ny308 := am_ hy308; clear hy308
     replace H := Option.bind_eq_some_iff.mp H
     obtain ⟨t311, A80, H⟩ := H
     try dsimp only at H
     have A8 := am_ A80; clear A80
     have H' := am_ H
     clear H
     go_enter Tryd.func42, Tryd.ntmps42
     try go_wp2_with (first | ((with_reducible refine gate_dst (N := 2) rfl ?_); refine bx_ 2 #[.int .i64 a0_0, .slice A0_1 l0_1.length c0_1] 26 ?_; intro gb301 hg w9 hbox hb; obtain ⟨BK301, GW301, GE301⟩ := nb_ hbox hg HB; replace HB := bs_ HB hb; clear hb hbox hg) | ((with_reducible refine gate_dst (N := 3) rfl ?_); refine bx_ 3 #[.int .i64 a1_0, .slice A1_1 l1_1.length c1_1] 26 ?_; intro gb302 hg w10 hbox hb; obtain ⟨BK302, GW302, GE302⟩ := nb_ hbox hg HB; obtain ⟨NB301_302, NB302_301⟩ := nn_ hg BK301; replace BK301 := bb_ BK301 hb; replace HB := bs_ HB hb; clear hb hbox hg) | ((with_reducible refine gate_dst (N := 4) rfl ?_); refine bx_ 4 #[.int .i64 0, .slice none 0 0] 26 ?_; intro gb303 hg w11 hbox hb; obtain ⟨BK303, GW303, GE303⟩ := nb_ hbox hg HB; obtain ⟨NB301_303, NB303_301⟩ := nn_ hg BK301; obtain ⟨NB302_303, NB303_302⟩ := nn_ hg BK302; replace BK301 := bb_ BK301 hb; replace BK302 := bb_ BK302 hb; replace HB := bs_ HB hb; clear hb hbox hg) | ((with_reducible refine gate_dst (N := 5) rfl ?_); refine bx_ 5 #[.int .i64 0, .slice none 0 0] 26 ?_; intro gb304 hg w12 hbox hb; obtain ⟨BK304, GW304, GE304⟩ := nb_ hbox hg HB; obtain ⟨NB301_304, NB304_301⟩ := nn_ hg BK301; obtain ⟨NB302_304, NB304_302⟩ := nn_ hg BK302; obtain ⟨NB303_304, NB304_303⟩ := nn_ hg BK303; replace BK301 := bb_ BK301 hb; replace BK302 := bb_ BK302 hb; replace BK303 := bb_ BK303 hb; replace HB := bs_ HB hb; clear hb hbox hg; have hnb13 := NB302_301.out; have hnc13 := NB301_302.out; have hnb14 := NB302_303.out; have hnc14 := NB303_302.out; have hnb15 := NB302_304.out; have hnc15 := NB304_302.out; obtain ⟨hcz16_0, hcz16_1, hfz16_0, hfz16_1⟩ := ck2_ BK302))
     replace BK301 := am_ (blk_drew BK301.out); replace BK302 := am_ (blk_drew BK302.out); replace BK303 := am_ (blk_drew BK303.out); replace BK304 := am_ (blk_drew BK304.out); replace HB := am_ (below_drew1 HB.out)
     refine start_ (n := 9) (S := fun w' => w'.cell? ⟨gb301, 0, none⟩ = some (.int .i64 a0_0) ∧ w'.cell? ⟨gb301, 1, none⟩ = some (.slice A0_1 l0_1.length c0_1)) (ds := []) #[false, false, false, false, false, false, false, false, false] (by kernel_rfl) rfl rfl ⟨bc_ BK301 0, bc_ BK301 1⟩ (fun hHeld => ?_); refine with_tabW spec_l02DivMod.tab2 spec_l02DivMod.bits2 (fun HT_ HW_ => ?_)
     generalize w12.drew = w17 at BK301 BK302 BK303 BK304 HB hHeld ⊢
     refine pu_ #[true, false, false, false, false, false, false, false, false] 0 21 (any_of HT_.out (by kernel_rfl)) ?_
     refine pu_ #[true, true, false, false, false, false, false, false, false] 1 22 (any_of HT_.out (by kernel_rfl)) ?_
     refine pu_ #[true, true, false, true, false, false, false, false, false] 3 24 (any_of HT_.out (by kernel_rfl)) ?_
     refine tk_ #[true, true, false, true, true, false, false, false, false] 4 25 (take_ofW HT_.out HW_.out (by kernel_rfl)) hHeld ?_
     refine pu_ #[true, true, false, true, true, true, false, false, false] 5 26 (any_of HT_.out (by kernel_rfl)) ?_
     refine join_ (σ := Value × Value) 1 #[true, true, true, true, true, true, true, true, false] (fun s_ => [(23, s_.1), (27, s_.2), (7, s_.1)]) (fun s_ w' => (w'.cell? ⟨gb301, 0, none⟩ = some (.int .i64 a0_0) ∧ w'.cell? ⟨gb301, 1, none⟩ = some (.slice A0_1 l0_1.length c0_1)) ∧ (Kd.R (Kd.int .i64) 2 w' w.heap.size (fun k_ => some k_ ≠ (s_.2 : Value).ownBlock) s_.1 y305) ∧ (Kd.R (Kd.int .i64) 2 w' w.heap.size (fun k_ => some k_ ≠ (s_.1 : Value).ownBlock) s_.2 y308) ∧ (w'.heap[gb301]? = some (.cells #[.int .i64 a0_0, .slice A0_1 l0_1.length c0_1] 26 (0, 0))) ∧ (w'.heap[gb302]? = some (.cells #[.int .i64 a1_0, .slice A1_1 l1_1.length c1_1] 26 (0, 0))) ∧ (w'.heap[gb303]? = some (.cells #[.int .i64 0, .slice none 0 0] 26 (0, 0))) ∧ (w'.heap[gb304]? = some (.cells #[.int .i64 0, .slice none 0 0] 26 (0, 0))) ∧ (Below w.heap.size w w')) ?_ ?_
     rotate_left
     ·intro hCont
      refine two_ (i := 2) (j := 6) (Ni := some 23) (Nj := some 27) #[true, true, true, true, true, true, false, false, false] #[true, true, false, true, true, true, true, false, false] rfl rfl rfl rfl (two_of HT_.out (by kernel_rfl)) (by decide) (by decide) (fun K hK => ?_) (fun K hK => ?_)
      ·skip
       refine Kd.R_make_step (Kd.int .i64) _ 2 (by rfl) (N := 23) rfl 24 _ _ rfl ji3 rfl rfl Tryd.underlying24 (.int .i64 0) 8 info2 rfl (by decide) (by omega) 0 (ok := fun _ => True) (okp := fun _ => True) rfl (fun _ hk => hk) trivial (of_decide_eq_true (by first | (with_reducible assumption) | assumption)) (Nat.le_trans (Nat.mul_le_mul_right _ (of_decide_eq_true (by first | (with_reducible assumption) | assumption) : ji3.toNat ≤ 35184372088832)) (by omega)) (Below.refl _ _) (Nat.le_refl _) ?_
       intro v306 w18 ho19 hb hg_ hnew_
       clear hg_ hnew_
       (first | rw [← Ny305.out] at ho19 | (simp only [Int.reduceToNat] at ho19; rw [← Ny305.out] at ho19))
       have HO307 := am_ (Kd.R_lower ho19 (below_size (bl_ HB))); replace BK301 := am_ (blk_below (bk_ BK301) hb); replace BK302 := am_ (blk_below (bk_ BK302) hb); replace BK303 := am_ (blk_below (bk_ BK303) hb); replace BK304 := am_ (blk_below (bk_ BK304) hb); replace HB := am_ (below_step (bl_ HB) hb); clear hb ho19
       refine hK.out _ _ ⟨bc_ BK301 0, bc_ BK301 1⟩ (fun hHeld => ?_)
       clear hK K
       refine nr_ ?_
       refine pu_ #[true, true, true, true, true, true, false, true, false] 7 7 (any_of HT_.out (by kernel_rfl)) ?_
       refine one_ (i := 6) (N := some 27) #[true, true, true, true, true, true, true, true, false] rfl rfl (one_of HT_.out (by kernel_rfl)) (by decide) (fun K hK => ?_)
       refine Kd.R_make_step (Kd.int .i64) _ 2 (by rfl) (N := 27) rfl 24 _ _ rfl (l0_1.length : Int) rfl rfl Tryd.underlying24 (.int .i64 0) 8 info2 rfl (by decide) (by omega) 0 (ok := fun _ => True) (okp := fun _ => True) rfl (fun _ hk => hk) trivial (of_decide_eq_true (by first | (with_reducible assumption) | assumption)) (Nat.le_trans (Nat.mul_le_mul_right _ (of_decide_eq_true (by first | (with_reducible assumption) | assumption) : (l0_1.length : Int).toNat ≤ 35184372088832)) (by omega)) (Below.refl _ _) (Nat.le_refl _) ?_
       intro v309 w20 ho21 hb hg_ hnew_
       clear hg_ hnew_
       (first | rw [← Ny308.out] at ho21 | (simp only [Int.reduceToNat] at ho21; rw [← Ny308.out] at ho21))
       have HO310 := am_ (Kd.R_lower (Kd.R_new' ho21 (Kd.R_lt (kr_ HO307))) (below_size (bl_ HB))); replace HO307 := am_ (Kd.R_elder' (kr_ HO307) (Kd.R_base ho21) hb); replace BK301 := am_ (blk_below (bk_ BK301) hb); replace BK302 := am_ (blk_below (bk_ BK302) hb); replace BK303 := am_ (blk_below (bk_ BK303) hb); replace BK304 := am_ (blk_below (bk_ BK304) hb); replace HB := am_ (below_step (bl_ HB) hb); clear hb ho21
       refine hK.out _ _ ⟨bc_ BK301 0, bc_ BK301 1⟩ (fun hHeld => ?_)
       clear hK K
       refine nr_ ?_
       exact norm_ (by simp only [putAll, Act.put, List.setIfInBounds_toArray, List.set_cons_zero, List.set_cons_succ]) (hCont (v306, v309) _ ⟨hHeld, (km_ HO307 (fun _ hk => hk.2)), (km_ HO310 (fun _ hk => hk.2)), (bk_ BK301), (bk_ BK302), (bk_ BK303), (bk_ BK304), (bl_ HB)⟩)
      ·skip
       refine Kd.R_make_step (Kd.int .i64) _ 2 (by rfl) (N := 27) rfl 24 _ _ rfl (l0_1.length : Int) rfl rfl Tryd.underlying24 (.int .i64 0) 8 info2 rfl (by decide) (by omega) 0 (ok := fun _ => True) (okp := fun _ => True) rfl (fun _ hk => hk) trivial (of_decide_eq_true (by first | (with_reducible assumption) | assumption)) (Nat.le_trans (Nat.mul_le_mul_right _ (of_decide_eq_true (by first | (with_reducible assumption) | assumption) : (l0_1.length : Int).toNat ≤ 35184372088832)) (by omega)) (Below.refl _ _) (Nat.le_refl _) ?_
       intro v309 w18 ho19 hb hg_ hnew_
       clear hg_ hnew_
       (first | rw [← Ny308.out] at ho19 | (simp only [Int.reduceToNat] at ho19; rw [← Ny308.out] at ho19))
       have HO310 := am_ (Kd.R_lower ho19 (below_size (bl_ HB))); replace BK301 := am_ (blk_below (bk_ BK301) hb); replace BK302 := am_ (blk_below (bk_ BK302) hb); replace BK303 := am_ (blk_below (bk_ BK303) hb); replace BK304 := am_ (blk_below (bk_ BK304) hb); replace HB := am_ (below_step (bl_ HB) hb); clear hb ho19
       refine hK.out _ _ ⟨bc_ BK301 0, bc_ BK301 1⟩ (fun hHeld => ?_)
       clear hK K
       refine nr_ ?_
       refine one_ (i := 2) (N := some 23) #[true, true, true, true, true, true, true, false, false] rfl rfl (one_of HT_.out (by kernel_rfl)) (by decide) (fun K hK => ?_)
       refine Kd.R_make_step (Kd.int .i64) _ 2 (by rfl) (N := 23) rfl 24 _ _ rfl ji3 rfl rfl Tryd.underlying24 (.int .i64 0) 8 info2 rfl (by decide) (by omega) 0 (ok := fun _ => True) (okp := fun _ => True) rfl (fun _ hk => hk) trivial (of_decide_eq_true (by first | (with_reducible assumption) | assumption)) (Nat.le_trans (Nat.mul_le_mul_right _ (of_decide_eq_true (by first | (with_reducible assumption) | assumption) : ji3.toNat ≤ 35184372088832)) (by omega)) (Below.refl _ _) (Nat.le_refl _) ?_
       intro v306 w20 ho21 hb hg_ hnew_
       clear hg_ hnew_
       (first | rw [← Ny305.out] at ho21 | (simp only [Int.reduceToNat] at ho21; rw [← Ny305.out] at ho21))
       have HO307 := am_ (Kd.R_lower (Kd.R_new' ho21 (Kd.R_lt (kr_ HO310))) (below_size (bl_ HB))); replace HO310 := am_ (Kd.R_elder' (kr_ HO310) (Kd.R_base ho21) hb); replace BK301 := am_ (blk_below (bk_ BK301) hb); replace BK302 := am_ (blk_below (bk_ BK302) hb); replace BK303 := am_ (blk_below (bk_ BK303) hb); replace BK304 := am_ (blk_below (bk_ BK304) hb); replace HB := am_ (below_step (bl_ HB) hb); clear hb ho21
       refine hK.out _ _ ⟨bc_ BK301 0, bc_ BK301 1⟩ (fun hHeld => ?_)
       clear hK K
       refine nr_ ?_
       refine pu_ #[true, true, true, true, true, true, true, true, false] 7 7 (any_of HT_.out (by kernel_rfl)) ?_
       exact norm_ (by simp only [putAll, Act.put, List.setIfInBounds_toArray, List.set_cons_zero, List.set_cons_succ]) (hCont (v306, v309) _ ⟨hHeld, (km_ HO307 (fun _ hk => hk.2)), (km_ HO310 (fun _ hk => hk.2)), (bk_ BK301), (bk_ BK302), (bk_ BK303), (bk_ BK304), (bl_ HB)⟩)
     rintro ⟨v306, v309⟩ w22 ⟨hS_, h0_, h1_, h2_, h3_, h4_, h5_, h6_⟩
     try dsimp only at hS_ h0_ h1_ h2_ h3_ h4_ h5_ h6_
     have n0_ := am_ h0_
     have n1_ := am_ h1_
     have n2_ := am_ h2_
     have n3_ := am_ h3_
     have n4_ := am_ h4_
     have n5_ := am_ h5_
     have n6_ := am_ h6_
     clear BK301 BK302 BK303 BK304 HB h0_ h1_ h2_ h3_ h4_ h5_ h6_; have HO307 := n0_; have HO310 := n1_; have BK301 := n2_; have BK302 := n3_; have BK303 := n4_; have BK304 := n5_; have HB := n6_; clear n0_ n1_ n2_ n3_ n4_ n5_ n6_
     have hHeld : w22.cell? ⟨gb301, 0, none⟩ = some (.int .i64 a0_0) ∧ w22.cell? ⟨gb301, 1, none⟩ = some (.slice A0_1 l0_1.length c0_1) := hS_
     refine norm_ (a' := ?_) ?_ ?_
     rotate_left
     ·simp only [putAll, Act.put, List.setIfInBounds_toArray, List.set_cons_zero, List.set_cons_succ]
      rfl
     refine pu_ #[true, true, true, true, true, true, true, true, true] 8 8 (any_of HT_.out (by kernel_rfl)) ?_
     refine done_ (done_of HT_.out (by kernel_rfl)) ?_
     have hnb23 := NB301_303.out; have hnc23 := NB303_301.out; have hnb24 := NB301_304.out; have hnc24 := NB304_301.out
     obtain ⟨hcz25_0, hcz25_1, hfz25_0, hfz25_1⟩ := ck2_ BK301
     try go_wp2_with (first | ((with_reducible refine gate_callee (f := 88) rfl ?_); refine goesL_ (some 29) rfl rfl Tryd.func88 (by kernel_rfl) rfl #[.agg #[.int .i64 a0_0, .slice A0_1 l0_1.length c0_1]] rfl ma_ ?_; (with_reducible refine (spec_l02Length.calls k a0_0 _ _ l0_1 t311 _ ?side1 ?side2 A8.out).mono ?_); (case side1 => exact cb_ HR0_1 HB); (case side2 => exact HC0_1.out); rintro e w26 ⟨rfl, hb⟩; refine ⟨_, rfl, ?_⟩; replace HO307 := am_ (Kd.R_below (kr_ HO307) hb); replace HO310 := am_ (Kd.R_below (kr_ HO310) hb); replace BK301 := bb_ BK301 hb; replace BK302 := bb_ BK302 hb; replace BK303 := bb_ BK303 hb; replace BK304 := bb_ BK304 hb; replace HB := bs_ HB hb; (try clear hb)))
     go_loopg [9] k (fun kq v9 w' => ∃ (x7_1 : List Int) (x8_1 : List Int) (x9_1 : Int), v9 = .int .i64 x9_1 ∧ Aside0 (spec_l02DivMod.l0 kq (l1_1.length : Int) x7_1 x8_1 x9_1 a0_0 l0_1 a1_0 l1_1 = some (r1, r2, r3, r4)) ∧ Aside0 (kq ≤ k) ∧ Aside0 (Kd.R (Kd.int .i64) 2 w' w.heap.size (fun k_ => some k_ ≠ (v309 : Value).ownBlock) v306 x7_1) ∧ Aside0 (Kd.R (Kd.int .i64) 2 w' w.heap.size (fun k_ => some k_ ≠ (v306 : Value).ownBlock) v309 x8_1) ∧ Aside0 (w'.heap[gb301]? = some (.cells #[.int .i64 a0_0, (.slice A0_1 l0_1.length c0_1)] 26 (0, 0))) ∧ Aside0 (w'.heap[gb302]? = some (.cells #[.int .i64 a1_0, (.slice A1_1 l1_1.length c1_1)] 26 (0, 0))) ∧ Aside0 (w'.heap[gb303]? = some (.cells #[.int .i64 0, (.slice none 0 0)] 26 (0, 0))) ∧ Aside0 (w'.heap[gb304]? = some (.cells #[.int .i64 0, (.slice none 0 0)] 26 (0, 0))) ∧ Aside0 (Below w.heap.size w w'))
     case atStart => exact ⟨(y305), (y308), (wrap64 (t311 - 1)), (by first | rfl | (simp; done) | (simp [*]; done)), H', ⟨Nat.le_refl _⟩, ⟨kr_ HO307⟩, ⟨kr_ HO310⟩, ⟨bk_ BK301⟩, ⟨bk_ BK302⟩, ⟨bk_ BK303⟩, ⟨bk_ BK304⟩, ⟨bl_ HB⟩⟩
     case round =>
      clear H'; try clear c4; try clear c4b0; try clear c4b1; try clear c5; try clear c5b0; try clear c5b1; try clear c6; try clear c6b0; try clear c6b1; try clear c7; try clear c7b0; try clear c7b1; try clear hcz16_0; try clear hcz16_1; try clear hcz25_0; try clear hcz25_1; try clear hfz16_0; try clear hfz16_1; try clear hfz25_0; try clear hfz25_1
      obtain ⟨x7_1, x8_1, x9_1, rfl, HA, HK1, HO_7, HO_8, BK301, BK302, BK303, BK304, HB⟩ := hrel
      cases gk with
      | zero => exact absurd HA.out (by simp [spec_l02DivMod.l0])
      | succ k1 =>
       have H := HA.out; clear HA
       simp only [spec_l02DivMod.l0] at H
       by_cases c27 : x9_1 ≥ 0
       ·rw [if_pos c27] at H
        have c27b0 : decide (0 ≤ x9_1) = true := decide_eq_true c27
        clear c27
        replace H := Option.bind_eq_some_iff.mp H
        obtain ⟨t320, A280, H⟩ := H
        try dsimp only at H
        have A28 := am_ A280; clear A280
        have H' := am_ H
        clear H; have hnb29 := NB301_302.out; have hnc29 := NB302_301.out; have hnb30 := NB301_303.out; have hnc30 := NB303_301.out; have hnb31 := NB301_304.out; have hnc31 := NB304_301.out
        obtain ⟨hcz32_0, hcz32_1, hfz32_0, hfz32_1⟩ := ck2_ BK301
        go_wp2_with (first | ((with_reducible refine gate_callee (f := 89) rfl ?_); refine goesL_ (some 37) rfl rfl Tryd.func89 (by kernel_rfl) rfl #[.agg #[.int .i64 a0_0, .slice A0_1 l0_1.length c0_1], .int .i64 x9_1] rfl ma_ ?_; (with_reducible refine (spec_l02Bit.calls a0_0 _ _ l0_1 x9_1 t320 _ ?side1 ?side2 A28.out).mono ?_); (case side1 => exact cb_ HR0_1 HB); (case side2 => exact HC0_1.out); rintro e w33 ⟨rfl, hb⟩; refine ⟨_, rfl, ?_⟩; replace HO_7 := am_ (Kd.R_below (kr_ HO_7) hb); replace HO_8 := am_ (Kd.R_below (kr_ HO_8) hb); replace BK301 := bb_ BK301 hb; replace BK302 := bb_ BK302 hb; replace BK303 := bb_ BK303 hb; replace BK304 := bb_ BK304 hb; replace HB := bs_ HB hb; (try clear hb)))
        go_loopg [10, 11] k1 (fun kq v10 v11 w' => ∃ (x7_2 : List Int) (x10_2 : Int) (x11_2 : Int), v10 = .int .i64 x10_2 ∧ v11 = .int .i64 x11_2 ∧ Aside0 (spec_l02DivMod.l1 kq (l1_1.length : Int) x7_2 x8_1 x9_1 x10_2 x11_2 a0_0 l0_1 a1_0 l1_1 = some (r1, r2, r3, r4)) ∧ Aside0 (kq ≤ k1) ∧ Aside0 (Kd.R (Kd.int .i64) 2 w' w.heap.size (fun k_ => some k_ ≠ (v309 : Value).ownBlock) v306 x7_2) ∧ Aside0 (Kd.R (Kd.int .i64) 2 w' w.heap.size (fun k_ => some k_ ≠ (v306 : Value).ownBlock) v309 x8_1) ∧ Aside0 (w'.heap[gb301]? = some (.cells #[.int .i64 a0_0, (.slice A0_1 l0_1.length c0_1)] 26 (0, 0))) ∧ Aside0 (w'.heap[gb302]? = some (.cells #[.int .i64 a1_0, (.slice A1_1 l1_1.length c1_1)] 26 (0, 0))) ∧ Aside0 (w'.heap[gb303]? = some (.cells #[.int .i64 0, (.slice none 0 0)] 26 (0, 0))) ∧ Aside0 (w'.heap[gb304]? = some (.cells #[.int .i64 0, (.slice none 0 0)] 26 (0, 0))) ∧ Aside0 (Below w.heap.size w w'))
        case atStart => exact ⟨(x7_1), (t320), (0), (by first | rfl | (simp; done) | (simp [*]; done)), (by first | rfl | (simp; done) | (simp [*]; done)), H', ⟨Nat.le_refl _⟩, ⟨kr_ HO_7⟩, ⟨kr_ HO_8⟩, ⟨bk_ BK301⟩, ⟨bk_ BK302⟩, ⟨bk_ BK303⟩, ⟨bk_ BK304⟩, ⟨bl_ HB⟩⟩
        case round =>
         clear H'; try clear c4; try clear c4b0; try clear c4b1; try clear c5; try clear c5b0; try clear c5b1; try clear c6; try clear c6b0; try clear c6b1; try clear c7; try clear c7b0; try clear c7b1; try clear c27; try clear c27b0; try clear hcz16_0; try clear hcz16_1; try clear hcz25_0; try clear hcz25_1; try clear hcz32_0; try clear hcz32_1; try clear hfz16_0; try clear hfz16_1; try clear hfz25_0; try clear hfz25_1; try clear hfz32_0; try clear hfz32_1
         obtain ⟨x7_2, x10_2, x11_2, rfl, rfl, HA, HK2, HO_7, HO_8, BK301, BK302, BK303, BK304, HB⟩ := hrel
         cases gk with
         | zero => exact absurd HA.out (by simp [spec_l02DivMod.l1])
         | succ k2 =>
          have H := HA.out; clear HA
          simp only [spec_l02DivMod.l1] at H
          by_cases c34 : x11_2 ≤ (l1_1.length : Int)
          ·rw [if_pos c34] at H
           have c34b0 : decide (x11_2 ≤ (l1_1.length : Int)) = true := decide_eq_true c34
           clear c34
           by_cases c35 : 0 ≤ x11_2
           ·rw [if_pos c35] at H
            have c35b0 : decide (0 ≤ x11_2) = true := decide_eq_true c35
            clear c35
            by_cases c36 : x11_2 < (x7_2.length : Int)
            ·rw [if_pos c36] at H
             have c36b0 : decide (x11_2 < (x7_2.length : Int)) = true := decide_eq_true c36
             clear c36
             obtain ⟨y322, hy322⟩ : ∃ y_ : List Int, y_ = (x7_2.set (x11_2 : Int).toNat (Int.tmod (wrap64 ((wrap64 (2 * (rd x7_2 x11_2))) + x10_2)) 16777216)) := ⟨_, rfl⟩
             replace H : (spec_l02DivMod.l1 k2 (l1_1.length : Int) y322 x8_1 x9_1 (wrap64 (Int.tdiv (wrap64 ((wrap64 (2 * (rd x7_2 x11_2))) + x10_2)) 16777216)) (wrap64 (x11_2 + 1)) a0_0 l0_1 a1_0 l1_1) = some (r1, r2, r3, r4) := by first | (rw [hy322]; with_reducible exact H) | (have H2_ := (Option.bind_some _ _).symm.trans H; rw [hy322]; with_reducible exact H2_) | (have H2_ := (Option.bind_some _ _).symm.trans H; with_reducible exact H2_) | with_reducible exact H | (rw [hy322]; exact H) | exact H
             have Ny322 := am_ hy322; clear hy322
             have H' := am_ H
             clear H
             obtain ⟨Ao38, co38, eo38⟩ := Kd.R_slice HO_7.out
             subst eo38
             have p321 : 0 ≤ (x11_2 : Int) := of_decide_eq_true (by first | (with_reducible assumption) | assumption)
             have q321 : x11_2 < (x7_2.length : Int) := of_decide_eq_true (by first | (with_reducible assumption) | assumption)
             obtain ⟨ad321, e321, hx321_0⟩ := Kd.at_int (Kd.R_reads' HO_7.out).2.2 x11_2 p321 q321
             cases e321
             replace p321 := eq_true p321
             replace q321 := eq_true q321
             have p37 : 0 ≤ (x11_2 : Int) := of_decide_eq_true (by first | (with_reducible assumption) | assumption)
             have q37 : (x11_2 : Int) < ((x7_2.length : Int) : Int) := of_decide_eq_true (by first | (with_reducible assumption) | assumption)
             obtain ⟨go37, co37, eo37, gb37, gl37, cl37, HG37⟩ := Kd.R_form HO_7.out (by omega)
             (first | cases eo37 | (injection eo37 with ea_ en_ ec_; (first | subst ea_ | (injection ea_ with ea_; subst ea_)); subst ec_; clear en_))
             have GB37 := am_ gb37; have GG37 := am_ HG37; clear gb37 gl37 HG37
             (first | simp only [add_plain] at hx321_0 | skip)
             obtain ⟨hx37_0, hf37_0⟩ := Kd.R_celln 0 HO_7.out (x11_2 : Int) p37 q37
             replace p37 := eq_true p37
             replace q37 := eq_true q37
             have HP39 := Kd.R_putg HO_7.out (x11_2 : Int) (Int.tmod (wrap64 ((wrap64 (2 * (rd x7_2 x11_2))) + x10_2)) 16777216)
             go_wp2_with (first | ((with_reducible refine gate_store (t := 2) (p := 54) rfl ?_); refine store_event (t := 2) (p := 54) (v := ?vo_w40) (w1 := (wr.setCell ⟨go37, (x11_2 : Int).toNat, none⟩ (.int .i64 (Int.tmod (wrap64 ((wrap64 (2 * (rd x7_2 x11_2))) + x10_2)) 16777216)))) ?hg ?ho ?hn ?hr ?_; (case ho => rfl); (case hg => rfl); (case hn => rfl); (case hr => first | (go_simp; done) | (go_simp; rfl)); intro w40 hw; have hg : wr.grownBy w40 (some go37) := (by rw [hw]; exact HP39.2); have hp_ : Kd.R (Kd.int .i64) 2 w40 w.heap.size (fun k_ => some k_ ≠ (v309 : Value).ownBlock) (.slice (some ⟨go37, 0, none⟩) x7_2.length co38) y322 := (by rw [hw, Ny322.out]; exact HP39.1); clear HP39; have n0_ := am_ (hp_); have n1_ := am_ (Kd.R_after (v := (.slice (some ⟨go37, 0, none⟩) x7_2.length co38)) (v1 := (.slice (some ⟨go37, 0, none⟩) x7_2.length co38)) (ok := (fun _ => True)) (km_ HO_8 (fun _ hk => ⟨trivial, hk⟩)) hg (.inl rfl)); have n2_ := am_ (blk_grown (g := gb301) (o := .cells #[.int .i64 a0_0, .slice A0_1 l0_1.length c0_1] 26 (0, 0)) (bk_ BK301) hg (Kd.R_ne HO_7.out BK301.out (by decide))); have n3_ := am_ (blk_grown (g := gb302) (o := .cells #[.int .i64 a1_0, .slice A1_1 l1_1.length c1_1] 26 (0, 0)) (bk_ BK302) hg (Kd.R_ne HO_7.out BK302.out (by decide))); have n4_ := am_ (blk_grown (g := gb303) (o := .cells #[.int .i64 0, .slice none 0 0] 26 (0, 0)) (bk_ BK303) hg (Kd.R_ne HO_7.out BK303.out (by decide))); have n5_ := am_ (blk_grown (g := gb304) (o := .cells #[.int .i64 0, .slice none 0 0] 26 (0, 0)) (bk_ BK304) hg (Kd.R_ne HO_7.out BK304.out (by decide))); have n6_ := am_ ((by rw [hw]; exact below_set (HB.out) GB37.out : Below w.heap.size w w40)); clear HO_7; clear HO_8; clear BK301; clear BK302; clear BK303; clear BK304; clear HB; have HO_7 := n0_; have HO_8 := n1_; have BK301 := n2_; have BK302 := n3_; have BK303 := n4_; have BK304 := n5_; have HB := n6_; clear n0_ n1_ n2_ n3_ n4_ n5_ n6_; clear hg hw hp_))
             go_roundg k2
             case measure => have := HK1.out; have := HK2.out; omega
             case rel => exact ⟨(y322), (wrap64 (Int.tdiv (wrap64 ((wrap64 (2 * (rd x7_2 x11_2))) + x10_2)) 16777216)), (wrap64 (x11_2 + 1)), (by first | rfl | (simp; done) | (simp [*]; done)), (by first | rfl | (simp; done) | (simp [*]; done)), H', ⟨by have := HK1.out; have := HK2.out; omega⟩, ⟨kr_ HO_7⟩, ⟨km_ HO_8 (fun _ hk => hk.2)⟩, ⟨bk_ BK301⟩, ⟨bk_ BK302⟩, ⟨bk_ BK303⟩, ⟨bk_ BK304⟩, ⟨bl_ HB⟩⟩
            ·rw [if_neg c36] at H
             exact absurd H (by simp)
           ·rw [if_neg c35] at H
            exact absurd H (by simp)
          ·rw [if_neg c34] at H
           have c34b0 : decide (x11_2 ≤ (l1_1.length : Int)) = false := decide_eq_false c34
           clear c34
           by_cases c41 : 0 ≤ (l1_1.length : Int)
           ·rw [if_pos c41] at H
            have c41b0 : decide (0 ≤ (l1_1.length : Int)) = true := decide_eq_true c41
            have c41b1 : decide (0 ≤ l1_1.length) = true := decide_eq_true (by omega)
            clear c41
            by_cases c42 : (l1_1.length : Int) < (x7_2.length : Int)
            ·rw [if_pos c42] at H
             have c42b0 : decide ((l1_1.length : Int) < (x7_2.length : Int)) = true := decide_eq_true c42
             have c42b1 : decide (l1_1.length < x7_2.length) = true := decide_eq_true (Int.ofNat_lt.mp c42)
             clear c42; have HC43 := am_ H; clear H
             obtain ⟨Ao44, co44, eo44⟩ := Kd.R_slice HO_7.out
             subst eo44
             have p323 : 0 ≤ ((l1_1.length : Int) : Int) := of_decide_eq_true (by first | (with_reducible assumption) | assumption)
             have q323 : (l1_1.length : Int) < (x7_2.length : Int) := of_decide_eq_true (by first | (with_reducible assumption) | assumption)
             obtain ⟨ad323, e323, hx323_0⟩ := Kd.at_int (Kd.R_reads' HO_7.out).2.2 (l1_1.length : Int) p323 q323
             cases e323
             (try simp only [Go.IntWalk.toNatUp] at hx323_0)
             replace p323 := eq_true p323
             replace q323 := eq_true q323
             go_upto_block 4 with (fail)
             go_cut [13] (fun v13 wc => ∃ (kq : Nat) (x13_42 : Bool), v13 = .bool x13_42 ∧ Aside0 (spec_l02DivMod.j4 kq (l1_1.length : Int) x7_2 x8_1 x9_1 x13_42 a0_0 l0_1 a1_0 l1_1 = some (r1, r2, r3, r4)) ∧ Aside0 (kq ≤ k2) ∧ Aside0 (Kd.R (Kd.int .i64) 2 wc w.heap.size (fun k_ => some k_ ≠ (v309 : Value).ownBlock) (.slice (some ad323) x7_2.length co44) x7_2) ∧ Aside0 (Kd.R (Kd.int .i64) 2 wc w.heap.size (fun k_ => some k_ ≠ ((.slice (some ad323) x7_2.length co44) : Value).ownBlock) v309 x8_1) ∧ Aside0 (wc.heap[gb301]? = some (.cells #[.int .i64 a0_0, (.slice A0_1 l0_1.length c0_1)] 26 (0, 0))) ∧ Aside0 (wc.heap[gb302]? = some (.cells #[.int .i64 a1_0, (.slice A1_1 l1_1.length c1_1)] 26 (0, 0))) ∧ Aside0 (wc.heap[gb303]? = some (.cells #[.int .i64 0, (.slice none 0 0)] 26 (0, 0))) ∧ Aside0 (wc.heap[gb304]? = some (.cells #[.int .i64 0, (.slice none 0 0)] 26 (0, 0))) ∧ Aside0 (Below w.heap.size w wc))
             case first =>
              have H := HC43.out; clear HC43
              have H' := am_ H
              clear H
              go_wp2
              go_loopg [13, 14] k2 (fun kq v13 v14 w' => ∃ (x13_3 : Bool) (x14_3 : Int), v13 = .bool x13_3 ∧ v14 = .int .i64 x14_3 ∧ Aside0 (spec_l02DivMod.l2 kq (l1_1.length : Int) x7_2 x8_1 x9_1 x13_3 x14_3 a0_0 l0_1 a1_0 l1_1 = some (r1, r2, r3, r4)) ∧ Aside0 (kq ≤ k2) ∧ Aside0 (Kd.R (Kd.int .i64) 2 w' w.heap.size (fun k_ => some k_ ≠ (v309 : Value).ownBlock) (.slice (some ad323) x7_2.length co44) x7_2) ∧ Aside0 (Kd.R (Kd.int .i64) 2 w' w.heap.size (fun k_ => some k_ ≠ ((.slice (some ad323) x7_2.length co44) : Value).ownBlock) v309 x8_1) ∧ Aside0 (w'.heap[gb301]? = some (.cells #[.int .i64 a0_0, (.slice A0_1 l0_1.length c0_1)] 26 (0, 0))) ∧ Aside0 (w'.heap[gb302]? = some (.cells #[.int .i64 a1_0, (.slice A1_1 l1_1.length c1_1)] 26 (0, 0))) ∧ Aside0 (w'.heap[gb303]? = some (.cells #[.int .i64 0, (.slice none 0 0)] 26 (0, 0))) ∧ Aside0 (w'.heap[gb304]? = some (.cells #[.int .i64 0, (.slice none 0 0)] 26 (0, 0))) ∧ Aside0 (Below w.heap.size w w'))
              case atStart => exact ⟨(((rd x7_2 (l1_1.length : Int)) == 0)), (wrap64 ((l1_1.length : Int) - 1)), (by first | rfl | (simp; done) | (simp [*]; done)), (by first | rfl | (simp; done) | (simp [*]; done)), H', ⟨Nat.le_refl _⟩, ⟨kr_ HO_7⟩, ⟨kr_ HO_8⟩, ⟨bk_ BK301⟩, ⟨bk_ BK302⟩, ⟨bk_ BK303⟩, ⟨bk_ BK304⟩, ⟨bl_ HB⟩⟩
              case round =>
               clear H'; try clear c4; try clear c4b0; try clear c4b1; try clear c5; try clear c5b0; try clear c5b1; try clear c6; try clear c6b0; try clear c6b1; try clear c7; try clear c7b0; try clear c7b1; try clear c27; try clear c27b0; try clear c34; try clear c34b0; try clear c35; try clear c41; try clear c41b0; try clear c41b1; try clear c42; try clear c42b0; try clear c42b1; try clear hcz16_0; try clear hcz16_1; try clear hcz25_0; try clear hcz25_1; try clear hcz32_0; try clear hcz32_1; try clear hfz16_0; try clear hfz16_1; try clear hfz25_0; try clear hfz25_1; try clear hfz32_0; try clear hfz32_1; try clear hx323_0; try clear p323; try clear q323
               obtain ⟨x13_3, x14_3, rfl, rfl, HA, HK3, HO_7, HO_8, BK301, BK302, BK303, BK304, HB⟩ := hrel
               cases gk with
               | zero => exact absurd HA.out (by simp [spec_l02DivMod.l2])
               | succ k3 =>
                have H := HA.out; clear HA
                simp only [spec_l02DivMod.l2] at H
                have HC45 := am_ H; clear H
                go_upto_region 15 with (fail)
                go_cut [68] (fun v68 wc => ∃ (kq : Nat) (x68_44 : Bool), v68 = .bool x68_44 ∧ Aside0 (spec_l02DivMod.j3 kq (l1_1.length : Int) x7_2 x8_1 x9_1 x13_3 x14_3 x68_44 a0_0 l0_1 a1_0 l1_1 = some (r1, r2, r3, r4)) ∧ Aside0 (kq ≤ k3) ∧ Aside0 (Kd.R (Kd.int .i64) 2 wc w.heap.size (fun k_ => some k_ ≠ (v309 : Value).ownBlock) (.slice (some ad323) x7_2.length co44) x7_2) ∧ Aside0 (Kd.R (Kd.int .i64) 2 wc w.heap.size (fun k_ => some k_ ≠ ((.slice (some ad323) x7_2.length co44) : Value).ownBlock) v309 x8_1) ∧ Aside0 (wc.heap[gb301]? = some (.cells #[.int .i64 a0_0, (.slice A0_1 l0_1.length c0_1)] 26 (0, 0))) ∧ Aside0 (wc.heap[gb302]? = some (.cells #[.int .i64 a1_0, (.slice A1_1 l1_1.length c1_1)] 26 (0, 0))) ∧ Aside0 (wc.heap[gb303]? = some (.cells #[.int .i64 0, (.slice none 0 0)] 26 (0, 0))) ∧ Aside0 (wc.heap[gb304]? = some (.cells #[.int .i64 0, (.slice none 0 0)] 26 (0, 0))) ∧ Aside0 (Below w.heap.size w wc))
                case first =>
                 have H := HC45.out; clear HC45
                 by_cases c46 : x14_3 ≥ 0
                 ·rw [if_pos c46] at H
                  have c46b0 : decide (0 ≤ x14_3) = true := decide_eq_true c46
                  clear c46
                  (first | rw [c46b0] | (simp only [i64_w, i32_w]; rw [c46b0]) | skip)
                  have H' := am_ H
                  clear H
                  go_wp2
                  go_meet
                  case rel => exact ⟨_, (x13_3), (by first | rfl | (simp; done) | (simp [*]; done)), H', ⟨by have := HK1.out; have := HK2.out; have := HK3.out; first | omega | exact Nat.le_refl _⟩, ⟨kr_ HO_7⟩, ⟨kr_ HO_8⟩, ⟨bk_ BK301⟩, ⟨bk_ BK302⟩, ⟨bk_ BK303⟩, ⟨bk_ BK304⟩, ⟨bl_ HB⟩⟩
                 ·rw [if_neg c46] at H
                  have c46b0 : decide (0 ≤ x14_3) = false := decide_eq_false c46
                  clear c46
                  (first | rw [c46b0] | (simp only [i64_w, i32_w]; rw [c46b0]) | skip)
                  have H' := am_ H
                  clear H
                  go_wp2
                  go_meet
                  case rel => exact ⟨_, (false), (by first | rfl | (simp; done) | (simp [*]; done)), H', ⟨by have := HK1.out; have := HK2.out; have := HK3.out; first | omega | exact Nat.le_refl _⟩, ⟨kr_ HO_7⟩, ⟨kr_ HO_8⟩, ⟨bk_ BK301⟩, ⟨bk_ BK302⟩, ⟨bk_ BK303⟩, ⟨bk_ BK304⟩, ⟨bl_ HB⟩⟩
                case rest =>
                 clear HC45; try clear c4; try clear c4b0; try clear c4b1; try clear c5; try clear c5b0; try clear c5b1; try clear c6; try clear c6b0; try clear c6b1; try clear c7; try clear c7b0; try clear c7b1; try clear c27; try clear c27b0; try clear c34; try clear c34b0; try clear c35; try clear c41; try clear c41b0; try clear c41b1; try clear c42; try clear c42b0; try clear c42b1; try clear c46; try clear hcz16_0; try clear hcz16_1; try clear hcz25_0; try clear hcz25_1; try clear hcz32_0; try clear hcz32_1; try clear hfz16_0; try clear hfz16_1; try clear hfz25_0; try clear hfz25_1; try clear hfz32_0; try clear hfz32_1; try clear hx323_0; try clear p323; try clear q323
                 obtain ⟨kq, x68_44, rfl, HA, HJ44, HO_7, HO_8, BK301, BK302, BK303, BK304, HB⟩ := hcut
                 cases kq with
                 | zero => exact absurd HA.out (by simp [spec_l02DivMod.j3])
                 | succ kj44 =>
                  have H := HA.out; clear HA
                  simp only [spec_l02DivMod.j3] at H
                  by_cases c47 : x68_44 = true
                  ·subst c47
                   rw [if_pos rfl] at H
                   by_cases c48 : 0 ≤ x14_3
                   ·rw [if_pos c48] at H
                    have c48b0 : decide (0 ≤ x14_3) = true := decide_eq_true c48
                    clear c48
                    by_cases c49 : x14_3 < (x7_2.length : Int)
                    ·rw [if_pos c49] at H
                     have c49b0 : decide (x14_3 < (x7_2.length : Int)) = true := decide_eq_true c49
                     clear c49
                     by_cases c50 : x14_3 < (l1_1.length : Int)
                     ·rw [if_pos c50] at H
                      have c50b0 : decide (x14_3 < (l1_1.length : Int)) = true := decide_eq_true c50
                      clear c50
                      have HASIDE := am_ H; clear H
                      try go_wp2
                      replace HO_7 := am_ (Kd.R_drew HO_7.out); replace HO_8 := am_ (Kd.R_drew HO_8.out); replace BK301 := am_ (blk_drew BK301.out); replace BK302 := am_ (blk_drew BK302.out); replace BK303 := am_ (blk_drew BK303.out); replace BK304 := am_ (blk_drew BK304.out); replace HB := am_ (below_drew1 HB.out)
                      have p324 : 0 ≤ (x14_3 : Int) := of_decide_eq_true (by first | (with_reducible assumption) | assumption)
                      have q324 : x14_3 < (x7_2.length : Int) := of_decide_eq_true (by first | (with_reducible assumption) | assumption)
                      obtain ⟨ad324, e324, hx324_0⟩ := Kd.at_int (Kd.R_reads' HO_7.out).2.2 x14_3 p324 q324
                      obtain rfl : ad323 = ad324 := (by injection e324)
                      replace p324 := eq_true p324
                      replace q324 := eq_true q324
                      have p325 : 0 ≤ (x14_3 : Int) := of_decide_eq_true (by first | (with_reducible assumption) | assumption)
                      have q325 : x14_3 < (l1_1.length : Int) := of_decide_eq_true (by first | (with_reducible assumption) | assumption)
                      obtain ⟨ad325, e325, hx325_0⟩ := Kd.at_int HR1_1.out x14_3 p325 q325
                      have hw325_0 := hx325_0
                      cases e325
                      replace hx325_0 := (HB.out.cell (World.block_lt_of_cell? w _ hx325_0)).trans hx325_0
                      replace p325 := eq_true p325
                      replace q325 := eq_true q325
                      refine start_ (n := 10) (S := fun w' => w'.cell? ⟨gb302, 0, none⟩ = some (.int .i64 a1_0) ∧ w'.cell? ⟨gb302, 1, none⟩ = some (.slice (some ad325) l1_1.length c1_1) ∧ w'.cell? (ad323.add (x14_3).toNat) = some (.int .i64 (rd x7_2 x14_3)) ∧ w'.cell? (ad325.add (x14_3).toNat) = some (.int .i64 (rd l1_1 x14_3))) (ds := []) #[false, false, false, false, false, false, false, false, false, false] (by kernel_rfl) rfl rfl ⟨bc_ BK302 0, bc_ BK302 1, hx324_0, ((HB.out.cell (World.block_lt_of_cell? w _ hw325_0)).trans hw325_0)⟩ (fun hHeld => ?_); refine with_tabW spec_l02DivMod.tab17 spec_l02DivMod.bits17 (fun HT_ HW_ => ?_)
                      generalize wc.drew = w53 at HO_7 HO_8 BK301 BK302 BK303 BK304 HB hx324_0 hx325_0 hHeld ⊢
                      refine pu_ #[true, false, false, false, false, false, false, false, false, false] 0 71 (any_of HT_.out (by kernel_rfl)) ?_
                      refine pu_ #[true, true, false, false, false, false, false, false, false, false] 1 72 (any_of HT_.out (by kernel_rfl)) ?_
                      refine pu_ #[true, true, true, false, false, false, false, false, false, false] 2 73 (any_of HT_.out (by kernel_rfl)) ?_
                      refine pu_ #[true, true, true, false, true, false, false, false, false, false] 4 75 (any_of HT_.out (by kernel_rfl)) ?_
                      refine pu_ #[true, true, true, false, true, false, true, false, false, false] 6 77 (any_of HT_.out (by kernel_rfl)) ?_
                      refine tk_ #[true, true, true, true, true, false, true, false, false, false] 3 74 (take_ofW HT_.out HW_.out (by kernel_rfl)) hHeld ?_
                      refine tk_ #[true, true, true, true, true, true, true, false, false, false] 5 76 (take_ofW HT_.out HW_.out (by kernel_rfl)) hHeld ?_
                      refine pu_ #[true, true, true, true, true, true, true, true, false, false] 7 78 (any_of HT_.out (by kernel_rfl)) ?_
                      refine tk_ #[true, true, true, true, true, true, true, true, true, false] 8 79 (take_ofW HT_.out HW_.out (by kernel_rfl)) hHeld ?_
                      refine pu_ #[true, true, true, true, true, true, true, true, true, true] 9 80 (any_of HT_.out (by kernel_rfl)) ?_
                      refine done_ (done_of HT_.out (by kernel_rfl)) ?_
                      have H := HASIDE.out; clear HASIDE
                      by_cases c51 : (rd x7_2 x14_3) = (rd l1_1 x14_3)
                      ·rw [if_pos c51] at H
                       have c51b0 : ((rd x7_2 x14_3) == (rd l1_1 x14_3)) = true := beq_iff_eq.mpr c51
                       have c51b1 : ((rd x7_2 x14_3) != (rd l1_1 x14_3)) = false := bne_eq_false_iff_eq.mpr c51
                       clear c51
                       by_cases c52 : x14_3 = 0
                       ·rw [if_pos c52] at H
                        have c52b0 : (x14_3 == 0) = true := beq_iff_eq.mpr c52
                        have c52b1 : (x14_3 != 0) = false := bne_eq_false_iff_eq.mpr c52
                        clear c52
                        have H' := am_ H
                        clear H
                        try go_wp2
                        go_roundg kj44
                        case measure => have := HK1.out; have := HK2.out; have := HK3.out; have := HJ44.out; omega
                        case rel => exact ⟨(false), (wrap64 (x14_3 - 1)), (by first | rfl | (simp; done) | (simp [*]; done)), (by first | rfl | (simp; done) | (simp [*]; done)), H', ⟨by have := HK1.out; have := HK2.out; have := HK3.out; have := HJ44.out; omega⟩, ⟨kr_ HO_7⟩, ⟨kr_ HO_8⟩, ⟨bk_ BK301⟩, ⟨bk_ BK302⟩, ⟨bk_ BK303⟩, ⟨bk_ BK304⟩, ⟨bl_ HB⟩⟩
                       ·rw [if_neg c52] at H
                        have c52b0 : (x14_3 == 0) = false := beq_eq_false_iff_ne.mpr c52
                        have c52b1 : (x14_3 != 0) = true := bne_iff_ne.mpr c52
                        have H' := am_ H
                        clear H
                        try go_wp2
                        go_roundg kj44
                        case measure => have := HK1.out; have := HK2.out; have := HK3.out; have := HJ44.out; omega
                        case rel => exact ⟨(x13_3), (wrap64 (x14_3 - 1)), (by first | rfl | (simp; done) | (simp [*]; done)), (by first | rfl | (simp; done) | (simp [*]; done)), H', ⟨by have := HK1.out; have := HK2.out; have := HK3.out; have := HJ44.out; omega⟩, ⟨kr_ HO_7⟩, ⟨kr_ HO_8⟩, ⟨bk_ BK301⟩, ⟨bk_ BK302⟩, ⟨bk_ BK303⟩, ⟨bk_ BK304⟩, ⟨bl_ HB⟩⟩
                      ·rw [if_neg c51] at H
                       have c51b0 : ((rd x7_2 x14_3) == (rd l1_1 x14_3)) = false := beq_eq_false_iff_ne.mpr c51
                       have c51b1 : ((rd x7_2 x14_3) != (rd l1_1 x14_3)) = true := bne_iff_ne.mpr c51
                       have H' := am_ H
                       clear H
                       try go_wp2
                       replace HO_7 := am_ (Kd.R_drew HO_7.out); replace HO_8 := am_ (Kd.R_drew HO_8.out); replace BK301 := am_ (blk_drew BK301.out); replace BK302 := am_ (blk_drew BK302.out); replace BK303 := am_ (blk_drew BK303.out); replace BK304 := am_ (blk_drew BK304.out); replace HB := am_ (below_drew1 HB.out)
                       have p326 : 0 ≤ (x14_3 : Int) := of_decide_eq_true (by first | (with_reducible assumption) | assumption)
                       have q326 : x14_3 < (x7_2.length : Int) := of_decide_eq_true (by first | (with_reducible assumption) | assumption)
                       obtain ⟨ad326, e326, hx326_0⟩ := Kd.at_int (Kd.R_reads' HO_7.out).2.2 x14_3 p326 q326
                       obtain rfl : ad323 = ad326 := (by injection e326)
                       replace p326 := eq_true p326
                       replace q326 := eq_true q326
                       have p327 : 0 ≤ (x14_3 : Int) := of_decide_eq_true (by first | (with_reducible assumption) | assumption)
                       have q327 : x14_3 < (l1_1.length : Int) := of_decide_eq_true (by first | (with_reducible assumption) | assumption)
                       obtain ⟨ad327, e327, hx327_0⟩ := Kd.at_int HR1_1.out x14_3 p327 q327
                       have hw327_0 := hx327_0
                       obtain rfl : ad325 = ad327 := (by injection e327)
                       replace hx327_0 := (HB.out.cell (World.block_lt_of_cell? w _ hx327_0)).trans hx327_0
                       replace p327 := eq_true p327
                       replace q327 := eq_true q327
                       refine start_ (n := 11) (S := fun w' => w'.cell? ⟨gb302, 0, none⟩ = some (.int .i64 a1_0) ∧ w'.cell? ⟨gb302, 1, none⟩ = some (.slice (some ad325) l1_1.length c1_1) ∧ w'.cell? (ad323.add (x14_3).toNat) = some (.int .i64 (rd x7_2 x14_3)) ∧ w'.cell? (ad325.add (x14_3).toNat) = some (.int .i64 (rd l1_1 x14_3))) (ds := []) #[false, false, false, false, false, false, false, false, false, false, false] (by kernel_rfl) rfl rfl ⟨bc_ BK302 0, bc_ BK302 1, hx326_0, ((HB.out.cell (World.block_lt_of_cell? w _ hw327_0)).trans hw327_0)⟩ (fun hHeld => ?_); refine with_tabW spec_l02DivMod.tab18 spec_l02DivMod.bits18 (fun HT_ HW_ => ?_)
                       generalize w53.drew = w56 at HO_7 HO_8 BK301 BK302 BK303 BK304 HB hx326_0 hx327_0 hHeld ⊢
                       refine pu_ #[true, false, false, false, false, false, false, false, false, false, false] 0 81 (any_of HT_.out (by kernel_rfl)) ?_
                       refine pu_ #[true, true, false, false, false, false, false, false, false, false, false] 1 82 (any_of HT_.out (by kernel_rfl)) ?_
                       refine pu_ #[true, true, true, false, false, false, false, false, false, false, false] 2 83 (any_of HT_.out (by kernel_rfl)) ?_
                       refine pu_ #[true, true, true, false, true, false, false, false, false, false, false] 4 85 (any_of HT_.out (by kernel_rfl)) ?_
                       refine pu_ #[true, true, true, false, true, false, true, false, false, false, false] 6 87 (any_of HT_.out (by kernel_rfl)) ?_
                       refine tk_ #[true, true, true, true, true, false, true, false, false, false, false] 3 84 (take_ofW HT_.out HW_.out (by kernel_rfl)) hHeld ?_
                       refine tk_ #[true, true, true, true, true, true, true, false, false, false, false] 5 86 (take_ofW HT_.out HW_.out (by kernel_rfl)) hHeld ?_
                       refine pu_ #[true, true, true, true, true, true, true, true, false, false, false] 7 88 (any_of HT_.out (by kernel_rfl)) ?_
                       refine tk_ #[true, true, true, true, true, true, true, true, true, false, false] 8 89 (take_ofW HT_.out HW_.out (by kernel_rfl)) hHeld ?_
                       refine pu_ #[true, true, true, true, true, true, true, true, true, true, false] 9 90 (any_of HT_.out (by kernel_rfl)) ?_
                       refine pu_ #[true, true, true, true, true, true, true, true, true, true, true] 10 13 (any_of HT_.out (by kernel_rfl)) ?_
                       refine done_ (done_of HT_.out (by kernel_rfl)) ?_
                       try go_wp2
                       go_meet
                       case rel => exact ⟨_, (decide ((rd x7_2 x14_3) < (rd l1_1 x14_3))), (by first | rfl | (simp; done) | (simp [*]; done)), H', ⟨by have := HK1.out; have := HK2.out; have := HK3.out; have := HJ44.out; first | omega | exact Nat.le_refl _⟩, ⟨kr_ HO_7⟩, ⟨kr_ HO_8⟩, ⟨bk_ BK301⟩, ⟨bk_ BK302⟩, ⟨bk_ BK303⟩, ⟨bk_ BK304⟩, ⟨bl_ HB⟩⟩
                     ·rw [if_neg c50] at H
                      exact absurd H (by simp)
                    ·rw [if_neg c49] at H
                     exact absurd H (by simp)
                   ·rw [if_neg c48] at H
                    exact absurd H (by simp)
                  ·replace c47 := Bool.eq_false_iff.mpr c47
                   subst c47
                   rw [if_neg (show ¬ (false = true) by decide)] at H
                   have H' := am_ H
                   clear H
                   go_wp2
                   go_meet
                   case rel => exact ⟨_, (x13_3), (by first | rfl | (simp; done) | (simp [*]; done)), H', ⟨by have := HK1.out; have := HK2.out; have := HK3.out; have := HJ44.out; first | omega | exact Nat.le_refl _⟩, ⟨kr_ HO_7⟩, ⟨kr_ HO_8⟩, ⟨bk_ BK301⟩, ⟨bk_ BK302⟩, ⟨bk_ BK303⟩, ⟨bk_ BK304⟩, ⟨bl_ HB⟩⟩
             case rest =>
              clear HC43; try clear c4; try clear c5; try clear c41; try clear c41b0; try clear c41b1; try clear c42; try clear c42b0; try clear c42b1; try clear hcz16_0; try clear hcz16_1; try clear hcz25_0; try clear hcz25_1; try clear hcz32_0; try clear hcz32_1; try clear hfz16_0; try clear hfz16_1; try clear hfz25_0; try clear hfz25_1; try clear hfz32_0; try clear hfz32_1; try clear hx323_0; try clear p323; try clear q323
              obtain ⟨kq, x13_42, rfl, HA, HJ42, HO_7, HO_8, BK301, BK302, BK303, BK304, HB⟩ := hcut
              cases kq with
              | zero => exact absurd HA.out (by simp [spec_l02DivMod.j4])
              | succ kj42 =>
               have H := HA.out; clear HA
               simp only [spec_l02DivMod.j4] at H
               by_cases c57 : x13_42 = true
               ·subst c57
                rw [if_pos rfl] at H
                have H' := am_ H
                clear H
                go_wp2
                go_roundg kj42
                case measure => have := HK1.out; have := HK2.out; have := HJ42.out; omega
                case rel => exact ⟨(x7_2), (x8_1), (wrap64 (x9_1 - 1)), (by first | rfl | (simp; done) | (simp [*]; done)), H', ⟨by have := HK1.out; have := HK2.out; have := HJ42.out; omega⟩, ⟨kr_ HO_7⟩, ⟨kr_ HO_8⟩, ⟨bk_ BK301⟩, ⟨bk_ BK302⟩, ⟨bk_ BK303⟩, ⟨bk_ BK304⟩, ⟨bl_ HB⟩⟩
               ·replace c57 := Bool.eq_false_iff.mpr c57
                subst c57
                rw [if_neg (show ¬ (false = true) by decide)] at H
                have H' := am_ H
                clear H
                go_wp2
                try generalize ad153.add l1_1.length = pq59
                try generalize ad323.add l1_1.length = pq59
                go_loopg [15, 16] kj42 (fun kq v15 v16 w' => ∃ (x7_4 : List Int) (x15_4 : Int) (x16_4 : Int), v15 = .int .i64 x15_4 ∧ v16 = .int .i64 x16_4 ∧ Aside0 (spec_l02DivMod.l3 kq (l1_1.length : Int) x7_4 x8_1 x9_1 x15_4 x16_4 a0_0 l0_1 a1_0 l1_1 = some (r1, r2, r3, r4)) ∧ Aside0 (kq ≤ kj42) ∧ Aside0 (Kd.R (Kd.int .i64) 2 w' w.heap.size (fun k_ => some k_ ≠ (v309 : Value).ownBlock) (.slice (some ad323) x7_2.length co44) x7_4) ∧ Aside0 (Kd.R (Kd.int .i64) 2 w' w.heap.size (fun k_ => some k_ ≠ ((.slice (some ad323) x7_2.length co44) : Value).ownBlock) v309 x8_1) ∧ Aside0 (w'.heap[gb301]? = some (.cells #[.int .i64 a0_0, (.slice A0_1 l0_1.length c0_1)] 26 (0, 0))) ∧ Aside0 (w'.heap[gb302]? = some (.cells #[.int .i64 a1_0, (.slice A1_1 l1_1.length c1_1)] 26 (0, 0))) ∧ Aside0 (w'.heap[gb303]? = some (.cells #[.int .i64 0, (.slice none 0 0)] 26 (0, 0))) ∧ Aside0 (w'.heap[gb304]? = some (.cells #[.int .i64 0, (.slice none 0 0)] 26 (0, 0))) ∧ Aside0 (Below w.heap.size w w'))
                case atStart => exact ⟨(x7_2), (0), (0), (by first | rfl | (simp; done) | (simp [*]; done)), (by first | rfl | (simp; done) | (simp [*]; done)), H', ⟨Nat.le_refl _⟩, ⟨kr_ HO_7⟩, ⟨kr_ HO_8⟩, ⟨bk_ BK301⟩, ⟨bk_ BK302⟩, ⟨bk_ BK303⟩, ⟨bk_ BK304⟩, ⟨bl_ HB⟩⟩
                case round =>
                 clear H'; try clear c4; try clear c5; try clear c41; try clear c41b0; try clear c41b1; try clear c42; try clear c42b0; try clear c42b1; try clear c57; try clear hcz16_0; try clear hcz16_1; try clear hcz25_0; try clear hcz25_1; try clear hcz32_0; try clear hcz32_1; try clear hfz16_0; try clear hfz16_1; try clear hfz25_0; try clear hfz25_1; try clear hfz32_0; try clear hfz32_1; try clear hx323_0; try clear p323; try clear q323
                 obtain ⟨x7_4, x15_4, x16_4, rfl, rfl, HA, HK4, HO_7, HO_8, BK301, BK302, BK303, BK304, HB⟩ := hrel
                 have hl7_4 := (Kd.R_reads' HO_7.out).1
                 rw [hl7_4] at HO_7
                 (try simp only [hl7_4])
                 (try simp only [hl7_4] at BK301)
                 (try simp only [hl7_4] at BK302)
                 (try simp only [hl7_4] at BK303)
                 (try simp only [hl7_4] at BK304)
                 (try simp only [hl7_4] at HO_8)
                 cases gk with
                 | zero => exact absurd HA.out (by simp [spec_l02DivMod.l3])
                 | succ k4 =>
                  have H := HA.out; clear HA
                  simp only [spec_l02DivMod.l3] at H
                  by_cases c58 : x16_4 ≤ (l1_1.length : Int)
                  ·rw [if_pos c58] at H
                   have c58b0 : decide (x16_4 ≤ (l1_1.length : Int)) = true := decide_eq_true c58
                   clear c58
                   by_cases c59 : 0 ≤ x16_4
                   ·rw [if_pos c59] at H
                    have c59b0 : decide (0 ≤ x16_4) = true := decide_eq_true c59
                    clear c59
                    by_cases c60 : x16_4 < (x7_4.length : Int)
                    ·rw [if_pos c60] at H
                     have c60b0 : decide (x16_4 < (x7_4.length : Int)) = true := decide_eq_true c60
                     clear c60
                     by_cases c61 : x16_4 < (l1_1.length : Int)
                     ·rw [if_pos c61] at H
                      have c61b0 : decide (x16_4 < (l1_1.length : Int)) = true := decide_eq_true c61
                      clear c61
                      by_cases c62 : x16_4 < (l1_1.length : Int)
                      ·rw [if_pos c62] at H
                       have c62b0 : decide (x16_4 < (l1_1.length : Int)) = true := decide_eq_true c62
                       clear c62
                       by_cases c63 : (wrap64 ((wrap64 ((rd x7_4 x16_4) - x15_4)) - (rd l1_1 x16_4))) < 0
                       ·rw [if_pos c63] at H
                        have c63b0 : decide ((wrap64 ((wrap64 ((rd x7_4 x16_4) - x15_4)) - (rd l1_1 x16_4))) < 0) = true := decide_eq_true c63
                        clear c63
                        obtain ⟨y332, hy332⟩ : ∃ y_ : List Int, y_ = (x7_4.set (x16_4 : Int).toNat (wrap64 ((wrap64 ((wrap64 ((rd x7_4 x16_4) - x15_4)) - (rd l1_1 x16_4))) + 16777216))) := ⟨_, rfl⟩
                        replace H : (spec_l02DivMod.l3 k4 (l1_1.length : Int) y332 x8_1 x9_1 1 (wrap64 (x16_4 + 1)) a0_0 l0_1 a1_0 l1_1) = some (r1, r2, r3, r4) := by first | (rw [hy332]; with_reducible exact H) | (have H2_ := (Option.bind_some _ _).symm.trans H; rw [hy332]; with_reducible exact H2_) | (have H2_ := (Option.bind_some _ _).symm.trans H; with_reducible exact H2_) | with_reducible exact H | (rw [hy332]; exact H) | exact H
                        have Ny332 := am_ hy332; clear hy332
                        have H' := am_ H
                        clear H
                        have p330 : 0 ≤ (x16_4 : Int) := of_decide_eq_true (by first | (with_reducible assumption) | assumption)
                        have q330 : x16_4 < (x7_4.length : Int) := of_decide_eq_true (by first | (with_reducible assumption) | assumption)
                        obtain ⟨ad330, e330, hx330_0⟩ := Kd.at_int (Kd.R_reads' HO_7.out).2.2 x16_4 p330 q330
                        obtain rfl : ad323 = ad330 := (by injection e330)
                        replace p330 := eq_true p330
                        replace q330 := eq_true q330
                        have hnb65 := NB302_301.out; have hnc65 := NB301_302.out; have hnb66 := NB302_303.out; have hnc66 := NB303_302.out; have hnb67 := NB302_304.out; have hnc67 := NB304_302.out
                        obtain ⟨hcz68_0, hcz68_1, hfz68_0, hfz68_1⟩ := ck2_ BK302
                        have p331 : 0 ≤ (x16_4 : Int) := of_decide_eq_true (by first | (with_reducible assumption) | assumption)
                        have q331 : x16_4 < (l1_1.length : Int) := of_decide_eq_true (by first | (with_reducible assumption) | assumption)
                        obtain ⟨ad331, e331, hx331_0⟩ := Kd.at_int HR1_1.out x16_4 p331 q331
                        cases e331
                        replace hx331_0 := (HB.out.cell (World.block_lt_of_cell? w _ hx331_0)).trans hx331_0
                        replace p331 := eq_true p331
                        replace q331 := eq_true q331
                        have p64 : 0 ≤ (x16_4 : Int) := of_decide_eq_true (by first | (with_reducible assumption) | assumption)
                        have q64 : (x16_4 : Int) < ((x7_4.length : Int) : Int) := of_decide_eq_true (by first | (with_reducible assumption) | assumption)
                        obtain ⟨go64, co64, eo64, gb64, gl64, cl64, HG64⟩ := Kd.R_form HO_7.out (by omega)
                        (first | cases eo64 | (injection eo64 with ea_ en_ ec_; (first | subst ea_ | (injection ea_ with ea_; subst ea_)); subst ec_; clear en_))
                        have GB64 := am_ gb64; have GG64 := am_ HG64; clear gb64 gl64 HG64
                        (first | simp only [add_plain] at hx323_0 | skip)
                        (first | simp only [add_plain] at hx324_0 | skip)
                        (first | simp only [add_plain] at hx326_0 | skip)
                        (first | simp only [add_plain] at hx330_0 | skip)
                        obtain ⟨hx64_0, hf64_0⟩ := Kd.R_celln 0 HO_7.out (x16_4 : Int) p64 q64
                        replace p64 := eq_true p64
                        replace q64 := eq_true q64
                        have HP69 := Kd.R_putg HO_7.out (x16_4 : Int) (wrap64 ((wrap64 ((wrap64 ((rd x7_4 x16_4) - x15_4)) - (rd l1_1 x16_4))) + 16777216))
                        go_wp2_with (first | ((with_reducible refine gate_store (t := 2) (p := 122) rfl ?_); refine store_event (t := 2) (p := 122) (v := ?vo_w70) (w1 := (wr.setCell ⟨go64, (x16_4 : Int).toNat, none⟩ (.int .i64 (wrap64 ((wrap64 ((wrap64 ((rd x7_4 x16_4) - x15_4)) - (rd l1_1 x16_4))) + 16777216))))) ?hg ?ho ?hn ?hr ?_; (case ho => rfl); (case hg => rfl); (case hn => rfl); (case hr => first | (go_simp; done) | (go_simp; rfl)); intro w70 hw; have hg : wr.grownBy w70 (some go64) := (by rw [hw]; exact HP69.2); have hp_ : Kd.R (Kd.int .i64) 2 w70 w.heap.size (fun k_ => some k_ ≠ (v309 : Value).ownBlock) (.slice (some ⟨go64, 0, none⟩) x7_4.length co44) y332 := (by rw [hw, Ny332.out]; exact HP69.1); clear HP69; have n0_ := am_ (hp_); have n1_ := am_ (Kd.R_after (v := (.slice (some ⟨go64, 0, none⟩) x7_4.length co44)) (v1 := (.slice (some ⟨go64, 0, none⟩) x7_4.length co44)) (ok := (fun _ => True)) (km_ HO_8 (fun _ hk => ⟨trivial, hk⟩)) hg (.inl rfl)); have n2_ := am_ (blk_grown (g := gb301) (o := .cells #[.int .i64 a0_0, .slice A0_1 l0_1.length c0_1] 26 (0, 0)) (bk_ BK301) hg (Kd.R_ne HO_7.out BK301.out (by decide))); have n3_ := am_ (blk_grown (g := gb302) (o := .cells #[.int .i64 a1_0, .slice (some ad331) l1_1.length c1_1] 26 (0, 0)) (bk_ BK302) hg (Kd.R_ne HO_7.out BK302.out (by decide))); have n4_ := am_ (blk_grown (g := gb303) (o := .cells #[.int .i64 0, .slice none 0 0] 26 (0, 0)) (bk_ BK303) hg (Kd.R_ne HO_7.out BK303.out (by decide))); have n5_ := am_ (blk_grown (g := gb304) (o := .cells #[.int .i64 0, .slice none 0 0] 26 (0, 0)) (bk_ BK304) hg (Kd.R_ne HO_7.out BK304.out (by decide))); have n6_ := am_ ((by rw [hw]; exact below_set (HB.out) GB64.out : Below w.heap.size w w70)); clear HO_7; clear HO_8; clear BK301; clear BK302; clear BK303; clear BK304; clear HB; have HO_7 := n0_; have HO_8 := n1_; have BK301 := n2_; have BK302 := n3_; have BK303 := n4_; have BK304 := n5_; have HB := n6_; clear n0_ n1_ n2_ n3_ n4_ n5_ n6_; clear hg hw hp_))
                        (try simp only [← hl7_4])
                        go_roundg k4
                        case measure => have := HK1.out; have := HK2.out; have := HJ42.out; have := HK4.out; omega
                        case rel => exact ⟨(y332), (1), (wrap64 (x16_4 + 1)), (by first | rfl | (simp; done) | (simp [*]; done)), (by first | rfl | (simp; done) | (simp [*]; done)), H', ⟨by have := HK1.out; have := HK2.out; have := HJ42.out; have := HK4.out; omega⟩, ⟨by (try simp only [hl7_4]); (with_reducible repeat (first | apply Kd.R_alloc | apply Kd.R_drewN | apply Kd.R_drew)); exact HO_7.out⟩, ⟨by (try simp only [hl7_4]); (with_reducible repeat (first | apply Kd.R_alloc | apply Kd.R_drewN | apply Kd.R_drew)); exact Kd.R_mono HO_8.out (fun _ hk => hk.2)⟩, ⟨by (try simp only [hl7_4]); (with_reducible repeat (first | refine blk_drewN ?_ _ | refine blk_drew ?_ | refine blk_alloc ?_ _)); exact BK301.out⟩, ⟨by (try simp only [hl7_4]); (with_reducible repeat (first | refine blk_drewN ?_ _ | refine blk_drew ?_ | refine blk_alloc ?_ _)); exact BK302.out⟩, ⟨by (try simp only [hl7_4]); (with_reducible repeat (first | refine blk_drewN ?_ _ | refine blk_drew ?_ | refine blk_alloc ?_ _)); exact BK303.out⟩, ⟨by (try simp only [hl7_4]); (with_reducible repeat (first | refine blk_drewN ?_ _ | refine blk_drew ?_ | refine blk_alloc ?_ _)); exact BK304.out⟩, ⟨bl_ HB⟩⟩
                       ·rw [if_neg c63] at H
                        have c63b0 : decide ((wrap64 ((wrap64 ((rd x7_4 x16_4) - x15_4)) - (rd l1_1 x16_4))) < 0) = false := decide_eq_false c63
                        clear c63
                        obtain ⟨y333, hy333⟩ : ∃ y_ : List Int, y_ = (x7_4.set (x16_4 : Int).toNat (wrap64 ((wrap64 ((rd x7_4 x16_4) - x15_4)) - (rd l1_1 x16_4)))) := ⟨_, rfl⟩
                        replace H : (spec_l02DivMod.l3 k4 (l1_1.length : Int) y333 x8_1 x9_1 0 (wrap64 (x16_4 + 1)) a0_0 l0_1 a1_0 l1_1) = some (r1, r2, r3, r4) := by first | (rw [hy333]; with_reducible exact H) | (have H2_ := (Option.bind_some _ _).symm.trans H; rw [hy333]; with_reducible exact H2_) | (have H2_ := (Option.bind_some _ _).symm.trans H; with_reducible exact H2_) | with_reducible exact H | (rw [hy333]; exact H) | exact H
                        have Ny333 := am_ hy333; clear hy333
                        have H' := am_ H
                        clear H
                        have p330 : 0 ≤ (x16_4 : Int) := of_decide_eq_true (by first | (with_reducible assumption) | assumption)
                        have q330 : x16_4 < (x7_4.length : Int) := of_decide_eq_true (by first | (with_reducible assumption) | assumption)
                        obtain ⟨ad330, e330, hx330_0⟩ := Kd.at_int (Kd.R_reads' HO_7.out).2.2 x16_4 p330 q330
                        obtain rfl : ad323 = ad330 := (by injection e330)
                        replace p330 := eq_true p330
                        replace q330 := eq_true q330
                        have hnb72 := NB302_301.out; have hnc72 := NB301_302.out; have hnb73 := NB302_303.out; have hnc73 := NB303_302.out; have hnb74 := NB302_304.out; have hnc74 := NB304_302.out
                        obtain ⟨hcz75_0, hcz75_1, hfz75_0, hfz75_1⟩ := ck2_ BK302
                        have p331 : 0 ≤ (x16_4 : Int) := of_decide_eq_true (by first | (with_reducible assumption) | assumption)
                        have q331 : x16_4 < (l1_1.length : Int) := of_decide_eq_true (by first | (with_reducible assumption) | assumption)
                        obtain ⟨ad331, e331, hx331_0⟩ := Kd.at_int HR1_1.out x16_4 p331 q331
                        cases e331
                        replace hx331_0 := (HB.out.cell (World.block_lt_of_cell? w _ hx331_0)).trans hx331_0
                        replace p331 := eq_true p331
                        replace q331 := eq_true q331
                        have p71 : 0 ≤ (x16_4 : Int) := of_decide_eq_true (by first | (with_reducible assumption) | assumption)
                        have q71 : (x16_4 : Int) < ((x7_4.length : Int) : Int) := of_decide_eq_true (by first | (with_reducible assumption) | assumption)
                        obtain ⟨go71, co71, eo71, gb71, gl71, cl71, HG71⟩ := Kd.R_form HO_7.out (by omega)
                        (first | cases eo71 | (injection eo71 with ea_ en_ ec_; (first | subst ea_ | (injection ea_ with ea_; subst ea_)); subst ec_; clear en_))
                        have GB71 := am_ gb71; have GG71 := am_ HG71; clear gb71 gl71 HG71
                        (first | simp only [add_plain] at hx330_0 | skip)
                        obtain ⟨hx71_0, hf71_0⟩ := Kd.R_celln 0 HO_7.out (x16_4 : Int) p71 q71
                        replace p71 := eq_true p71
                        replace q71 := eq_true q71
                        have HP76 := Kd.R_putg HO_7.out (x16_4 : Int) (wrap64 ((wrap64 ((rd x7_4 x16_4) - x15_4)) - (rd l1_1 x16_4)))
                        go_wp2_with (first | ((with_reducible refine gate_store (t := 2) (p := 122) rfl ?_); refine store_event (t := 2) (p := 122) (v := ?vo_w77) (w1 := (wr.setCell ⟨go71, (x16_4 : Int).toNat, none⟩ (.int .i64 (wrap64 ((wrap64 ((rd x7_4 x16_4) - x15_4)) - (rd l1_1 x16_4)))))) ?hg ?ho ?hn ?hr ?_; (case ho => rfl); (case hg => rfl); (case hn => rfl); (case hr => first | (go_simp; done) | (go_simp; rfl)); intro w77 hw; have hg : wr.grownBy w77 (some go71) := (by rw [hw]; exact HP76.2); have hp_ : Kd.R (Kd.int .i64) 2 w77 w.heap.size (fun k_ => some k_ ≠ (v309 : Value).ownBlock) (.slice (some ⟨go71, 0, none⟩) x7_4.length co44) y333 := (by rw [hw, Ny333.out]; exact HP76.1); clear HP76; have n0_ := am_ (hp_); have n1_ := am_ (Kd.R_after (v := (.slice (some ⟨go71, 0, none⟩) x7_4.length co44)) (v1 := (.slice (some ⟨go71, 0, none⟩) x7_4.length co44)) (ok := (fun _ => True)) (km_ HO_8 (fun _ hk => ⟨trivial, hk⟩)) hg (.inl rfl)); have n2_ := am_ (blk_grown (g := gb301) (o := .cells #[.int .i64 a0_0, .slice A0_1 l0_1.length c0_1] 26 (0, 0)) (bk_ BK301) hg (Kd.R_ne HO_7.out BK301.out (by decide))); have n3_ := am_ (blk_grown (g := gb302) (o := .cells #[.int .i64 a1_0, .slice (some ad331) l1_1.length c1_1] 26 (0, 0)) (bk_ BK302) hg (Kd.R_ne HO_7.out BK302.out (by decide))); have n4_ := am_ (blk_grown (g := gb303) (o := .cells #[.int .i64 0, .slice none 0 0] 26 (0, 0)) (bk_ BK303) hg (Kd.R_ne HO_7.out BK303.out (by decide))); have n5_ := am_ (blk_grown (g := gb304) (o := .cells #[.int .i64 0, .slice none 0 0] 26 (0, 0)) (bk_ BK304) hg (Kd.R_ne HO_7.out BK304.out (by decide))); have n6_ := am_ ((by rw [hw]; exact below_set (HB.out) GB71.out : Below w.heap.size w w77)); clear HO_7; clear HO_8; clear BK301; clear BK302; clear BK303; clear BK304; clear HB; have HO_7 := n0_; have HO_8 := n1_; have BK301 := n2_; have BK302 := n3_; have BK303 := n4_; have BK304 := n5_; have HB := n6_; clear n0_ n1_ n2_ n3_ n4_ n5_ n6_; clear hg hw hp_))
                        (try simp only [← hl7_4])
                        go_roundg k4
                        case measure => have := HK1.out; have := HK2.out; have := HJ42.out; have := HK4.out; omega
                        case rel => exact ⟨(y333), (0), (wrap64 (x16_4 + 1)), (by first | rfl | (simp; done) | (simp [*]; done)), (by first | rfl | (simp; done) | (simp [*]; done)), H', ⟨by have := HK1.out; have := HK2.out; have := HJ42.out; have := HK4.out; omega⟩, ⟨by (try simp only [hl7_4]); (with_reducible repeat (first | apply Kd.R_alloc | apply Kd.R_drewN | apply Kd.R_drew)); exact HO_7.out⟩, ⟨by (try simp only [hl7_4]); (with_reducible repeat (first | apply Kd.R_alloc | apply Kd.R_drewN | apply Kd.R_drew)); exact Kd.R_mono HO_8.out (fun _ hk => hk.2)⟩, ⟨by (try simp only [hl7_4]); (with_reducible repeat (first | refine blk_drewN ?_ _ | refine blk_drew ?_ | refine blk_alloc ?_ _)); exact BK301.out⟩, ⟨by (try simp only [hl7_4]); (with_reducible repeat (first | refine blk_drewN ?_ _ | refine blk_drew ?_ | refine blk_alloc ?_ _)); exact BK302.out⟩, ⟨by (try simp only [hl7_4]); (with_reducible repeat (first | refine blk_drewN ?_ _ | refine blk_drew ?_ | refine blk_alloc ?_ _)); exact BK303.out⟩, ⟨by (try simp only [hl7_4]); (with_reducible repeat (first | refine blk_drewN ?_ _ | refine blk_drew ?_ | refine blk_alloc ?_ _)); exact BK304.out⟩, ⟨bl_ HB⟩⟩
                      ·rw [if_neg c62] at H
                       exact absurd H (by simp)
                     ·rw [if_neg c61] at H
                      have c61b0 : decide (x16_4 < (l1_1.length : Int)) = false := decide_eq_false c61
                      clear c61
                      by_cases c78 : (wrap64 ((rd x7_4 x16_4) - x15_4)) < 0
                      ·rw [if_pos c78] at H
                       have c78b0 : decide ((wrap64 ((rd x7_4 x16_4) - x15_4)) < 0) = true := decide_eq_true c78
                       clear c78
                       obtain ⟨y334, hy334⟩ : ∃ y_ : List Int, y_ = (x7_4.set (x16_4 : Int).toNat (wrap64 ((wrap64 ((rd x7_4 x16_4) - x15_4)) + 16777216))) := ⟨_, rfl⟩
                       replace H : (spec_l02DivMod.l3 k4 (l1_1.length : Int) y334 x8_1 x9_1 1 (wrap64 (x16_4 + 1)) a0_0 l0_1 a1_0 l1_1) = some (r1, r2, r3, r4) := by first | (rw [hy334]; with_reducible exact H) | (have H2_ := (Option.bind_some _ _).symm.trans H; rw [hy334]; with_reducible exact H2_) | (have H2_ := (Option.bind_some _ _).symm.trans H; with_reducible exact H2_) | with_reducible exact H | (rw [hy334]; exact H) | exact H
                       have Ny334 := am_ hy334; clear hy334
                       have H' := am_ H
                       clear H
                       have p330 : 0 ≤ (x16_4 : Int) := of_decide_eq_true (by first | (with_reducible assumption) | assumption)
                       have q330 : x16_4 < (x7_4.length : Int) := of_decide_eq_true (by first | (with_reducible assumption) | assumption)
                       obtain ⟨ad330, e330, hx330_0⟩ := Kd.at_int (Kd.R_reads' HO_7.out).2.2 x16_4 p330 q330
                       obtain rfl : ad323 = ad330 := (by injection e330)
                       replace p330 := eq_true p330
                       replace q330 := eq_true q330
                       have p79 : 0 ≤ (x16_4 : Int) := of_decide_eq_true (by first | (with_reducible assumption) | assumption)
                       have q79 : (x16_4 : Int) < ((x7_4.length : Int) : Int) := of_decide_eq_true (by first | (with_reducible assumption) | assumption)
                       obtain ⟨go79, co79, eo79, gb79, gl79, cl79, HG79⟩ := Kd.R_form HO_7.out (by omega)
                       (first | cases eo79 | (injection eo79 with ea_ en_ ec_; (first | subst ea_ | (injection ea_ with ea_; subst ea_)); subst ec_; clear en_))
                       have GB79 := am_ gb79; have GG79 := am_ HG79; clear gb79 gl79 HG79
                       (first | simp only [add_plain] at hx330_0 | skip)
                       obtain ⟨hx79_0, hf79_0⟩ := Kd.R_celln 0 HO_7.out (x16_4 : Int) p79 q79
                       replace p79 := eq_true p79
                       replace q79 := eq_true q79
                       have HP80 := Kd.R_putg HO_7.out (x16_4 : Int) (wrap64 ((wrap64 ((rd x7_4 x16_4) - x15_4)) + 16777216))
                       go_wp2_with (first | ((with_reducible refine gate_store (t := 2) (p := 122) rfl ?_); refine store_event (t := 2) (p := 122) (v := ?vo_w81) (w1 := (wr.setCell ⟨go79, (x16_4 : Int).toNat, none⟩ (.int .i64 (wrap64 ((wrap64 ((rd x7_4 x16_4) - x15_4)) + 16777216))))) ?hg ?ho ?hn ?hr ?_; (case ho => rfl); (case hg => rfl); (case hn => rfl); (case hr => first | (go_simp; done) | (go_simp; rfl)); intro w81 hw; have hg : wr.grownBy w81 (some go79) := (by rw [hw]; exact HP80.2); have hp_ : Kd.R (Kd.int .i64) 2 w81 w.heap.size (fun k_ => some k_ ≠ (v309 : Value).ownBlock) (.slice (some ⟨go79, 0, none⟩) x7_4.length co44) y334 := (by rw [hw, Ny334.out]; exact HP80.1); clear HP80; have n0_ := am_ (hp_); have n1_ := am_ (Kd.R_after (v := (.slice (some ⟨go79, 0, none⟩) x7_4.length co44)) (v1 := (.slice (some ⟨go79, 0, none⟩) x7_4.length co44)) (ok := (fun _ => True)) (km_ HO_8 (fun _ hk => ⟨trivial, hk⟩)) hg (.inl rfl)); have n2_ := am_ (blk_grown (g := gb301) (o := .cells #[.int .i64 a0_0, .slice A0_1 l0_1.length c0_1] 26 (0, 0)) (bk_ BK301) hg (Kd.R_ne HO_7.out BK301.out (by decide))); have n3_ := am_ (blk_grown (g := gb302) (o := .cells #[.int .i64 a1_0, .slice A1_1 l1_1.length c1_1] 26 (0, 0)) (bk_ BK302) hg (Kd.R_ne HO_7.out BK302.out (by decide))); have n4_ := am_ (blk_grown (g := gb303) (o := .cells #[.int .i64 0, .slice none 0 0] 26 (0, 0)) (bk_ BK303) hg (Kd.R_ne HO_7.out BK303.out (by decide))); have n5_ := am_ (blk_grown (g := gb304) (o := .cells #[.int .i64 0, .slice none 0 0] 26 (0, 0)) (bk_ BK304) hg (Kd.R_ne HO_7.out BK304.out (by decide))); have n6_ := am_ ((by rw [hw]; exact below_set (HB.out) GB79.out : Below w.heap.size w w81)); clear HO_7; clear HO_8; clear BK301; clear BK302; clear BK303; clear BK304; clear HB; have HO_7 := n0_; have HO_8 := n1_; have BK301 := n2_; have BK302 := n3_; have BK303 := n4_; have BK304 := n5_; have HB := n6_; clear n0_ n1_ n2_ n3_ n4_ n5_ n6_; clear hg hw hp_))
                       (try simp only [← hl7_4])
                       go_roundg k4
                       case measure => have := HK1.out; have := HK2.out; have := HJ42.out; have := HK4.out; omega
                       case rel => exact ⟨(y334), (1), (wrap64 (x16_4 + 1)), (by first | rfl | (simp; done) | (simp [*]; done)), (by first | rfl | (simp; done) | (simp [*]; done)), H', ⟨by have := HK1.out; have := HK2.out; have := HJ42.out; have := HK4.out; omega⟩, ⟨by (try simp only [hl7_4]); (with_reducible repeat (first | apply Kd.R_alloc | apply Kd.R_drewN | apply Kd.R_drew)); exact HO_7.out⟩, ⟨by (try simp only [hl7_4]); (with_reducible repeat (first | apply Kd.R_alloc | apply Kd.R_drewN | apply Kd.R_drew)); exact Kd.R_mono HO_8.out (fun _ hk => hk.2)⟩, ⟨by (try simp only [hl7_4]); (with_reducible repeat (first | refine blk_drewN ?_ _ | refine blk_drew ?_ | refine blk_alloc ?_ _)); exact BK301.out⟩, ⟨by (try simp only [hl7_4]); (with_reducible repeat (first | refine blk_drewN ?_ _ | refine blk_drew ?_ | refine blk_alloc ?_ _)); exact BK302.out⟩, ⟨by (try simp only [hl7_4]); (with_reducible repeat (first | refine blk_drewN ?_ _ | refine blk_drew ?_ | refine blk_alloc ?_ _)); exact BK303.out⟩, ⟨by (try simp only [hl7_4]); (with_reducible repeat (first | refine blk_drewN ?_ _ | refine blk_drew ?_ | refine blk_alloc ?_ _)); exact BK304.out⟩, ⟨bl_ HB⟩⟩
                      ·rw [if_neg c78] at H
                       have c78b0 : decide ((wrap64 ((rd x7_4 x16_4) - x15_4)) < 0) = false := decide_eq_false c78
                       clear c78
                       obtain ⟨y335, hy335⟩ : ∃ y_ : List Int, y_ = (x7_4.set (x16_4 : Int).toNat (wrap64 ((rd x7_4 x16_4) - x15_4))) := ⟨_, rfl⟩
                       replace H : (spec_l02DivMod.l3 k4 (l1_1.length : Int) y335 x8_1 x9_1 0 (wrap64 (x16_4 + 1)) a0_0 l0_1 a1_0 l1_1) = some (r1, r2, r3, r4) := by first | (rw [hy335]; with_reducible exact H) | (have H2_ := (Option.bind_some _ _).symm.trans H; rw [hy335]; with_reducible exact H2_) | (have H2_ := (Option.bind_some _ _).symm.trans H; with_reducible exact H2_) | with_reducible exact H | (rw [hy335]; exact H) | exact H
                       have Ny335 := am_ hy335; clear hy335
                       have H' := am_ H
                       clear H
                       have p330 : 0 ≤ (x16_4 : Int) := of_decide_eq_true (by first | (with_reducible assumption) | assumption)
                       have q330 : x16_4 < (x7_4.length : Int) := of_decide_eq_true (by first | (with_reducible assumption) | assumption)
                       obtain ⟨ad330, e330, hx330_0⟩ := Kd.at_int (Kd.R_reads' HO_7.out).2.2 x16_4 p330 q330
                       obtain rfl : ad323 = ad330 := (by injection e330)
                       replace p330 := eq_true p330
                       replace q330 := eq_true q330
                       have p82 : 0 ≤ (x16_4 : Int) := of_decide_eq_true (by first | (with_reducible assumption) | assumption)
                       have q82 : (x16_4 : Int) < ((x7_4.length : Int) : Int) := of_decide_eq_true (by first | (with_reducible assumption) | assumption)
                       obtain ⟨go82, co82, eo82, gb82, gl82, cl82, HG82⟩ := Kd.R_form HO_7.out (by omega)
                       (first | cases eo82 | (injection eo82 with ea_ en_ ec_; (first | subst ea_ | (injection ea_ with ea_; subst ea_)); subst ec_; clear en_))
                       have GB82 := am_ gb82; have GG82 := am_ HG82; clear gb82 gl82 HG82
                       (first | simp only [add_plain] at hx330_0 | skip)
                       obtain ⟨hx82_0, hf82_0⟩ := Kd.R_celln 0 HO_7.out (x16_4 : Int) p82 q82
                       replace p82 := eq_true p82
                       replace q82 := eq_true q82
                       have HP83 := Kd.R_putg HO_7.out (x16_4 : Int) (wrap64 ((rd x7_4 x16_4) - x15_4))
                       go_wp2_with (first | ((with_reducible refine gate_store (t := 2) (p := 122) rfl ?_); refine store_event (t := 2) (p := 122) (v := ?vo_w84) (w1 := (wr.setCell ⟨go82, (x16_4 : Int).toNat, none⟩ (.int .i64 (wrap64 ((rd x7_4 x16_4) - x15_4))))) ?hg ?ho ?hn ?hr ?_; (case ho => rfl); (case hg => rfl); (case hn => rfl); (case hr => first | (go_simp; done) | (go_simp; rfl)); intro w84 hw; have hg : wr.grownBy w84 (some go82) := (by rw [hw]; exact HP83.2); have hp_ : Kd.R (Kd.int .i64) 2 w84 w.heap.size (fun k_ => some k_ ≠ (v309 : Value).ownBlock) (.slice (some ⟨go82, 0, none⟩) x7_4.length co44) y335 := (by rw [hw, Ny335.out]; exact HP83.1); clear HP83; have n0_ := am_ (hp_); have n1_ := am_ (Kd.R_after (v := (.slice (some ⟨go82, 0, none⟩) x7_4.length co44)) (v1 := (.slice (some ⟨go82, 0, none⟩) x7_4.length co44)) (ok := (fun _ => True)) (km_ HO_8 (fun _ hk => ⟨trivial, hk⟩)) hg (.inl rfl)); have n2_ := am_ (blk_grown (g := gb301) (o := .cells #[.int .i64 a0_0, .slice A0_1 l0_1.length c0_1] 26 (0, 0)) (bk_ BK301) hg (Kd.R_ne HO_7.out BK301.out (by decide))); have n3_ := am_ (blk_grown (g := gb302) (o := .cells #[.int .i64 a1_0, .slice A1_1 l1_1.length c1_1] 26 (0, 0)) (bk_ BK302) hg (Kd.R_ne HO_7.out BK302.out (by decide))); have n4_ := am_ (blk_grown (g := gb303) (o := .cells #[.int .i64 0, .slice none 0 0] 26 (0, 0)) (bk_ BK303) hg (Kd.R_ne HO_7.out BK303.out (by decide))); have n5_ := am_ (blk_grown (g := gb304) (o := .cells #[.int .i64 0, .slice none 0 0] 26 (0, 0)) (bk_ BK304) hg (Kd.R_ne HO_7.out BK304.out (by decide))); have n6_ := am_ ((by rw [hw]; exact below_set (HB.out) GB82.out : Below w.heap.size w w84)); clear HO_7; clear HO_8; clear BK301; clear BK302; clear BK303; clear BK304; clear HB; have HO_7 := n0_; have HO_8 := n1_; have BK301 := n2_; have BK302 := n3_; have BK303 := n4_; have BK304 := n5_; have HB := n6_; clear n0_ n1_ n2_ n3_ n4_ n5_ n6_; clear hg hw hp_))
                       (try simp only [← hl7_4])
                       go_roundg k4
                       case measure => have := HK1.out; have := HK2.out; have := HJ42.out; have := HK4.out; omega
                       case rel => exact ⟨(y335), (0), (wrap64 (x16_4 + 1)), (by first | rfl | (simp; done) | (simp [*]; done)), (by first | rfl | (simp; done) | (simp [*]; done)), H', ⟨by have := HK1.out; have := HK2.out; have := HJ42.out; have := HK4.out; omega⟩, ⟨by (try simp only [hl7_4]); (with_reducible repeat (first | apply Kd.R_alloc | apply Kd.R_drewN | apply Kd.R_drew)); exact HO_7.out⟩, ⟨by (try simp only [hl7_4]); (with_reducible repeat (first | apply Kd.R_alloc | apply Kd.R_drewN | apply Kd.R_drew)); exact Kd.R_mono HO_8.out (fun _ hk => hk.2)⟩, ⟨by (try simp only [hl7_4]); (with_reducible repeat (first | refine blk_drewN ?_ _ | refine blk_drew ?_ | refine blk_alloc ?_ _)); exact BK301.out⟩, ⟨by (try simp only [hl7_4]); (with_reducible repeat (first | refine blk_drewN ?_ _ | refine blk_drew ?_ | refine blk_alloc ?_ _)); exact BK302.out⟩, ⟨by (try simp only [hl7_4]); (with_reducible repeat (first | refine blk_drewN ?_ _ | refine blk_drew ?_ | refine blk_alloc ?_ _)); exact BK303.out⟩, ⟨by (try simp only [hl7_4]); (with_reducible repeat (first | refine blk_drewN ?_ _ | refine blk_drew ?_ | refine blk_alloc ?_ _)); exact BK304.out⟩, ⟨bl_ HB⟩⟩
                    ·rw [if_neg c60] at H
                     exact absurd H (by simp)
                   ·rw [if_neg c59] at H
                    exact absurd H (by simp)
                  ·rw [if_neg c58] at H
                   have c58b0 : decide (x16_4 ≤ (l1_1.length : Int)) = false := decide_eq_false c58
                   clear c58
                   obtain ⟨ji85, hji85⟩ : ∃ j_ : Int, (wrap64 (Int.tdiv x9_1 24)) = j_ := ⟨_, rfl⟩
                   replace H : (if 0 ≤ (ji85) then (if (ji85) < (x8_1.length : Int) then (if 0 ≤ (IntKind.u64.wrap (Int.tmod x9_1 24)) then (spec_l02DivMod.l0 k4 (l1_1.length : Int) x7_4 (x8_1.set ((ji85) : Int).toNat (wrap64 ((rd x8_1 (ji85)) + (shl .i64 1 (IntKind.u64.wrap (Int.tmod x9_1 24)))))) (wrap64 (x9_1 - 1)) a0_0 l0_1 a1_0 l1_1) else (none)) else (none)) else (none)) = some (r1, r2, r3, r4) := by first | (rw [hji85] at H; exact H) | (simp only [hji85] at H ⊢; exact H)
                   have hji85w : (IntKind.i64.wrap (Int.tdiv x9_1 24)) = ji85 := (i64_w _).trans hji85
                   by_cases c86 : 0 ≤ (ji85)
                   ·rw [if_pos c86] at H
                    have c86b0 : decide (0 ≤ (ji85)) = true := decide_eq_true c86
                    clear c86
                    by_cases c87 : (ji85) < (x8_1.length : Int)
                    ·rw [if_pos c87] at H
                     have c87b0 : decide ((ji85) < (x8_1.length : Int)) = true := decide_eq_true c87
                     clear c87
                     obtain ⟨ji88, hji88⟩ : ∃ j_ : Int, (IntKind.u64.wrap (Int.tmod x9_1 24)) = j_ := ⟨_, rfl⟩
                     replace H : (if 0 ≤ (ji88) then (spec_l02DivMod.l0 k4 (l1_1.length : Int) x7_4 (x8_1.set ((ji85) : Int).toNat (wrap64 ((rd x8_1 (ji85)) + (shl .i64 1 (ji88))))) (wrap64 (x9_1 - 1)) a0_0 l0_1 a1_0 l1_1) else (none)) = some (r1, r2, r3, r4) := by first | (rw [hji88] at H; exact H) | (simp only [hji88] at H ⊢; exact H)
                     by_cases c89 : 0 ≤ (ji88)
                     ·rw [if_pos c89] at H
                      have c89b0 := eq_true c89
                      have c89b1 : decide (0 ≤ (ji88)) = true := decide_eq_true c89
                      clear c89
                      obtain ⟨ji90, hji90⟩ : ∃ j_ : Int, (shl .i64 1 (ji88)) = j_ := ⟨_, rfl⟩
                      replace H : (spec_l02DivMod.l0 k4 (l1_1.length : Int) x7_4 (x8_1.set ((ji85) : Int).toNat (wrap64 ((rd x8_1 (ji85)) + (ji90)))) (wrap64 (x9_1 - 1)) a0_0 l0_1 a1_0 l1_1) = some (r1, r2, r3, r4) := by first | (rw [hji90] at H; exact H) | (simp only [hji90] at H ⊢; exact H)
                      have hji90_ : (IntKind.i64.wrap (1 * 2 ^ min (ji88).toNat 64)) = ji90 := hji90
                      have hji90z : (ji88) ≤ 64 → (IntKind.i64.wrap (1 * 2 ^ (ji88).toNat)) = ji90 := shl_small hji90
                      have hji90u : (IntKind.i64.wrap (2 ^ min (ji88).toNat 64)) = ji90 := by have h_ := hji90_; rw [Int.one_mul] at h_; exact h_
                      have hji90v : (ji88) ≤ 64 → (IntKind.i64.wrap (2 ^ (ji88).toNat)) = ji90 := fun hle_ => by have h_ := hji90z hle_; rw [Int.one_mul] at h_; exact h_
                      have hji90y : (wrap64 (1 * 2 ^ min (ji88).toNat 64)) = ji90 := (i64_w _).symm.trans hji90_
                      have hji90x : (ji88) ≤ 64 → (wrap64 (1 * 2 ^ (ji88).toNat)) = ji90 := fun h_ => (i64_w _).symm.trans (hji90z h_)
                      obtain ⟨y329, hy329⟩ : ∃ y_ : List Int, y_ = (x8_1.set ((ji85) : Int).toNat (wrap64 ((rd x8_1 (ji85)) + (ji90)))) := ⟨_, rfl⟩
                      replace H : (spec_l02DivMod.l0 k4 (l1_1.length : Int) x7_4 y329 (wrap64 (x9_1 - 1)) a0_0 l0_1 a1_0 l1_1) = some (r1, r2, r3, r4) := by first | (rw [hy329]; with_reducible exact H) | (have H2_ := (Option.bind_some _ _).symm.trans H; rw [hy329]; with_reducible exact H2_) | (have H2_ := (Option.bind_some _ _).symm.trans H; with_reducible exact H2_) | with_reducible exact H | (rw [hy329]; exact H) | exact H
                      have Ny329 := am_ hy329; clear hy329
                      have H' := am_ H
                      clear H
                      obtain ⟨Ao92, co92, eo92⟩ := Kd.R_slice HO_8.out
                      subst eo92
                      have p328 : 0 ≤ ((ji85) : Int) := of_decide_eq_true (by first | (with_reducible assumption) | assumption)
                      have q328 : (ji85) < (x8_1.length : Int) := of_decide_eq_true (by first | (with_reducible assumption) | assumption)
                      obtain ⟨ad328, e328, hx328_0⟩ := Kd.at_int (Kd.R_reads' HO_8.out).2.2 (ji85) p328 q328
                      cases e328
                      replace p328 := eq_true p328
                      replace q328 := eq_true q328
                      have p91 : 0 ≤ ((ji85) : Int) := of_decide_eq_true (by first | (with_reducible assumption) | assumption)
                      have q91 : ((ji85) : Int) < ((x8_1.length : Int) : Int) := of_decide_eq_true (by first | (with_reducible assumption) | assumption)
                      obtain ⟨go91, co91, eo91, gb91, gl91, cl91, HG91⟩ := Kd.R_form HO_8.out (by omega)
                      (first | cases eo91 | (injection eo91 with ea_ en_ ec_; (first | subst ea_ | (injection ea_ with ea_; subst ea_)); subst ec_; clear en_))
                      have GB91 := am_ gb91; have GG91 := am_ HG91; clear gb91 gl91 HG91
                      (first | simp only [add_plain] at hx328_0 | skip)
                      obtain ⟨hx91_0, hf91_0⟩ := Kd.R_celln 0 HO_8.out ((ji85) : Int) p91 q91
                      replace p91 := eq_true p91
                      replace q91 := eq_true q91
                      have HP93 := Kd.R_putg HO_8.out ((ji85) : Int) (wrap64 ((rd x8_1 (ji85)) + (ji90)))
                      go_wp2_with (first | ((with_reducible refine gate_store (t := 2) (p := 136) rfl ?_); refine store_event (t := 2) (p := 136) (v := ?vo_w94) (w1 := (wr.setCell ⟨go91, ((ji85) : Int).toNat, none⟩ (.int .i64 (wrap64 ((rd x8_1 (ji85)) + (ji90)))))) ?hg ?ho ?hn ?hr ?_; (case ho => rfl); (case hg => rfl); (case hn => rfl); (case hr => first | (go_simp; done) | (go_simp; rfl)); intro w94 hw; have hg : wr.grownBy w94 (some go91) := (by rw [hw]; exact HP93.2); have hp_ : Kd.R (Kd.int .i64) 2 w94 w.heap.size (fun k_ => some k_ ≠ (.slice (some ad323) x7_4.length co44 : Value).ownBlock) (.slice (some ⟨go91, 0, none⟩) x8_1.length co92) y329 := (by rw [hw, Ny329.out]; exact HP93.1); clear HP93; have n0_ := am_ (Kd.R_after (v := (.slice (some ⟨go91, 0, none⟩) x8_1.length co92)) (v1 := (.slice (some ⟨go91, 0, none⟩) x8_1.length co92)) (ok := (fun _ => True)) (km_ HO_7 (fun _ hk => ⟨trivial, hk⟩)) hg (.inl rfl)); have n1_ := am_ (hp_); have n2_ := am_ (blk_grown (g := gb301) (o := .cells #[.int .i64 a0_0, .slice A0_1 l0_1.length c0_1] 26 (0, 0)) (bk_ BK301) hg (Kd.R_ne HO_8.out BK301.out (by decide))); have n3_ := am_ (blk_grown (g := gb302) (o := .cells #[.int .i64 a1_0, .slice A1_1 l1_1.length c1_1] 26 (0, 0)) (bk_ BK302) hg (Kd.R_ne HO_8.out BK302.out (by decide))); have n4_ := am_ (blk_grown (g := gb303) (o := .cells #[.int .i64 0, .slice none 0 0] 26 (0, 0)) (bk_ BK303) hg (Kd.R_ne HO_8.out BK303.out (by decide))); have n5_ := am_ (blk_grown (g := gb304) (o := .cells #[.int .i64 0, .slice none 0 0] 26 (0, 0)) (bk_ BK304) hg (Kd.R_ne HO_8.out BK304.out (by decide))); have n6_ := am_ ((by rw [hw]; exact below_set (HB.out) GB91.out : Below w.heap.size w w94)); clear HO_7; clear HO_8; clear BK301; clear BK302; clear BK303; clear BK304; clear HB; have HO_7 := n0_; have HO_8 := n1_; have BK301 := n2_; have BK302 := n3_; have BK303 := n4_; have BK304 := n5_; have HB := n6_; clear n0_ n1_ n2_ n3_ n4_ n5_ n6_; clear hg hw hp_))
                      (try simp only [← hl7_4])
                      go_roundg k4
                      case measure => have := HK1.out; have := HK2.out; have := HJ42.out; have := HK4.out; omega
                      case rel => exact ⟨(x7_4), (y329), (wrap64 (x9_1 - 1)), (by first | rfl | (simp; done) | (simp [*]; done)), H', ⟨by have := HK1.out; have := HK2.out; have := HJ42.out; have := HK4.out; omega⟩, ⟨by (try simp only [hl7_4]); (with_reducible repeat (first | apply Kd.R_alloc | apply Kd.R_drewN | apply Kd.R_drew)); exact Kd.R_mono HO_7.out (fun _ hk => hk.2)⟩, ⟨by (try simp only [hl7_4]); (with_reducible repeat (first | apply Kd.R_alloc | apply Kd.R_drewN | apply Kd.R_drew)); exact HO_8.out⟩, ⟨by (try simp only [hl7_4]); (with_reducible repeat (first | refine blk_drewN ?_ _ | refine blk_drew ?_ | refine blk_alloc ?_ _)); exact BK301.out⟩, ⟨by (try simp only [hl7_4]); (with_reducible repeat (first | refine blk_drewN ?_ _ | refine blk_drew ?_ | refine blk_alloc ?_ _)); exact BK302.out⟩, ⟨by (try simp only [hl7_4]); (with_reducible repeat (first | refine blk_drewN ?_ _ | refine blk_drew ?_ | refine blk_alloc ?_ _)); exact BK303.out⟩, ⟨by (try simp only [hl7_4]); (with_reducible repeat (first | refine blk_drewN ?_ _ | refine blk_drew ?_ | refine blk_alloc ?_ _)); exact BK304.out⟩, ⟨bl_ HB⟩⟩
                     ·rw [if_neg c89] at H
                      exact absurd H (by simp)
                    ·rw [if_neg c87] at H
                     exact absurd H (by simp)
                   ·rw [if_neg c86] at H
                    exact absurd H (by simp)
            ·rw [if_neg c42] at H
             exact absurd H (by simp)
           ·rw [if_neg c41] at H
            exact absurd H (by simp)
       ·rw [if_neg c27] at H
        have c27b0 : decide (0 ≤ x9_1) = false := decide_eq_false c27
        clear c27
        replace H := Option.bind_eq_some_iff.mp H
        obtain ⟨⟨t312, t313⟩, A950, H⟩ := H
        try dsimp only at H
        have A95 := am_ A950; clear A950
        replace H := Option.bind_eq_some_iff.mp H
        obtain ⟨⟨t316, t317⟩, A960, H⟩ := H
        try dsimp only at H
        have A96 := am_ A960; clear A960
        simp only [Option.some.injEq, Prod.mk.injEq] at H
        obtain ⟨rfl, rfl, rfl, rfl⟩ := H
        try go_wp2
        replace HO_7 := am_ (Kd.R_drew HO_7.out); replace HO_8 := am_ (Kd.R_drew HO_8.out); replace BK301 := am_ (blk_drew BK301.out); replace BK302 := am_ (blk_drew BK302.out); replace BK303 := am_ (blk_drew BK303.out); replace BK304 := am_ (blk_drew BK304.out); replace HB := am_ (below_drew1 HB.out)
        obtain ⟨Ao98, co98, eo98⟩ := Kd.R_slice HO_8.out
        (first | subst eo98 | (injection eo98 with f1_ f2_ f3_; have f4_ := f1_.symm; have f5_ := f3_.symm; clear f1_ f2_ f3_; subst f4_; subst f5_))
        refine start_ (n := 13) (S := fun w' => w'.cell? ⟨gb301, 0, none⟩ = some (.int .i64 a0_0) ∧ w'.cell? ⟨gb301, 1, none⟩ = some (.slice A0_1 l0_1.length c0_1) ∧ w'.cell? ⟨gb302, 0, none⟩ = some (.int .i64 a1_0) ∧ w'.cell? ⟨gb302, 1, none⟩ = some (.slice A1_1 l1_1.length c1_1)) (ds := []) #[false, false, false, false, false, false, false, false, false, false, false, false, false] (by kernel_rfl) rfl rfl ⟨bc_ BK301 0, bc_ BK301 1, bc_ BK302 0, bc_ BK302 1⟩ (fun hHeld => ?_); refine with_tabW spec_l02DivMod.tab35 spec_l02DivMod.bits35 (fun HT_ HW_ => ?_)
        generalize wr.drew = w97 at HO_7 HO_8 BK301 BK302 BK303 BK304 HB hHeld ⊢
        refine pu_ #[true, false, false, false, false, false, false, false, false, false, false, false, false] 0 137 (any_of HT_.out (by kernel_rfl)) ?_
        refine pu_ #[true, false, true, false, false, false, false, false, false, false, false, false, false] 2 139 (any_of HT_.out (by kernel_rfl)) ?_
        refine pu_ #[true, false, true, false, false, true, false, false, false, false, false, false, false] 5 142 (any_of HT_.out (by kernel_rfl)) ?_
        refine pu_ #[true, false, true, false, false, true, false, true, false, false, false, false, false] 7 144 (any_of HT_.out (by kernel_rfl)) ?_
        refine pu_ #[true, false, true, false, false, true, false, true, false, true, false, false, false] 9 146 (any_of HT_.out (by kernel_rfl)) ?_
        refine tk_ #[true, true, true, false, false, true, false, true, false, true, false, false, false] 1 138 (take_ofW HT_.out HW_.out (by kernel_rfl)) hHeld ?_
        refine tk_ #[true, true, true, true, false, true, false, true, false, true, false, false, false] 3 140 (take_ofW HT_.out HW_.out (by kernel_rfl)) hHeld ?_
        refine pu_ #[true, true, true, true, true, true, false, true, false, true, false, false, false] 4 141 (any_of HT_.out (by kernel_rfl)) ?_
        refine tk_ #[true, true, true, true, true, true, false, true, true, true, false, false, false] 8 145 (take_ofW HT_.out HW_.out (by kernel_rfl)) hHeld ?_
        refine one_ (i := 6) (N := some 143) #[true, true, true, true, true, true, true, true, true, true, false, false, false] rfl rfl (one_of HT_.out (by kernel_rfl)) (by decide) (fun K hK => ?_)
        refine goes_ Tryd.func81 (by kernel_rfl) rfl #[.int .i64 (wrap64 (a0_0 * a1_0)), .slice Ao98 x8_1.length co98] (by rfl) rfl rfl ma_ ?_
        with_reducible refine (spec_l02Make.calls k1 (wrap64 (a0_0 * a1_0)) _ _ x8_1 t312 t313 _ ?side1 ?side2 A95.out).mono ?_
        (case side1 => exact cr_ HO_8)
        (case side2 => exact (Kd.R_reads' HO_8.out).2.1)
        rintro e w99 ⟨v314, rfl, ho0, hb⟩
        refine ⟨_, rfl, ?_⟩
        have HO315 := am_ (Kd.R_lower (Kd.R_new' (Kd.R_new' ho0 (Kd.R_lt (kr_ HO_7))) (Kd.R_lt (kr_ HO_8))) (below_size (bl_ HB))); replace HO_7 := am_ (Kd.R_elder' (kr_ HO_7) (Kd.R_base ho0) hb); replace HO_8 := am_ (Kd.R_elder' (kr_ HO_8) (Kd.R_base ho0) hb); replace BK301 := am_ (blk_below (bk_ BK301) hb); replace BK302 := am_ (blk_below (bk_ BK302) hb); replace BK303 := am_ (blk_below (bk_ BK303) hb); replace BK304 := am_ (blk_below (bk_ BK304) hb); replace HB := am_ (below_step (bl_ HB) hb); (try clear hb); (try clear hb2); (try clear hk); (try clear hi); (try clear ho0)
        obtain ⟨Ao100, co100, eo100⟩ := Kd.R_slice HO_7.out
        (first | subst eo100 | (injection eo100 with f1_ f2_ f3_; have f4_ := f1_.symm; have f5_ := f3_.symm; clear f1_ f2_ f3_; subst f4_; subst f5_))
        refine hK.out _ _ ⟨bc_ BK301 0, bc_ BK301 1, bc_ BK302 0, bc_ BK302 1⟩ (fun hHeld => ?_)
        clear hK K
        refine nr_ ?_
        refine one_ (i := 10) (N := some 147) #[true, true, true, true, true, true, true, true, true, true, true, false, false] rfl rfl (one_of HT_.out (by kernel_rfl)) (by decide) (fun K hK => ?_)
        refine goes_ Tryd.func81 (by kernel_rfl) rfl #[.int .i64 a0_0, .slice Ao100 x7_1.length co100] (by rfl) rfl rfl ma_ ?_
        with_reducible refine (spec_l02Make.calls k1 a0_0 _ _ x7_1 t316 t317 _ ?side1 ?side2 A96.out).mono ?_
        (case side1 => exact cr_ HO_7)
        (case side2 => exact (Kd.R_reads' HO_7.out).2.1)
        rintro e w101 ⟨v318, rfl, ho0, hb⟩
        refine ⟨_, rfl, ?_⟩
        have HO319 := am_ (Kd.R_lower (Kd.R_new' (Kd.R_new' (Kd.R_new' ho0 (Kd.R_lt (kr_ HO_7))) (Kd.R_lt (kr_ HO_8))) (Kd.R_lt (kr_ HO315))) (below_size (bl_ HB))); replace HO_7 := am_ (Kd.R_elder' (kr_ HO_7) (Kd.R_base ho0) hb); replace HO_8 := am_ (Kd.R_elder' (kr_ HO_8) (Kd.R_base ho0) hb); replace HO315 := am_ (Kd.R_elder' (kr_ HO315) (Kd.R_base ho0) hb); replace BK301 := am_ (blk_below (bk_ BK301) hb); replace BK302 := am_ (blk_below (bk_ BK302) hb); replace BK303 := am_ (blk_below (bk_ BK303) hb); replace BK304 := am_ (blk_below (bk_ BK304) hb); replace HB := am_ (below_step (bl_ HB) hb); (try clear hb); (try clear hb2); (try clear hk); (try clear hi); (try clear ho0)
        obtain ⟨Ao103, co103, eo103⟩ := Kd.R_slice HO315.out
        (first | subst eo103 | (injection eo103 with f1_ f2_ f3_; have f4_ := f1_.symm; have f5_ := f3_.symm; clear f1_ f2_ f3_; subst f4_; subst f5_))
        obtain ⟨Ao106, co106, eo106⟩ := Kd.R_slice HO319.out
        (first | subst eo106 | (injection eo106 with f1_ f2_ f3_; have f4_ := f1_.symm; have f5_ := f3_.symm; clear f1_ f2_ f3_; subst f4_; subst f5_))
        refine hK.out _ _ ⟨bc_ BK301 0, bc_ BK301 1, bc_ BK302 0, bc_ BK302 1⟩ (fun hHeld => ?_)
        clear hK K
        refine nr_ ?_
        refine one_ (i := 11) (N := none) #[true, true, true, true, true, true, true, true, true, true, true, true, false] rfl rfl (one_of HT_.out (by kernel_rfl)) (by decide) (fun K hK => ?_)
        have hs102 : w101.cell? ⟨gb303, 0, none⟩ = some (.int .i64 0) := bc_ BK303 0
        have hfs102 := blk_frozen BK303.out 0; have hns102_0 := NB301_303.out; have hns102_1 := NB302_303.out; have hns102_3 := NB304_303.out; have hms102_0 := NB303_301.out; have hms102_1 := NB303_302.out; have hms102_3 := NB303_304.out
        have hs104 : w101.cell? ⟨gb303, 1, none⟩ = some (.slice none 0 0) := bc_ BK303 1
        have hfs104 := blk_frozen BK303.out 1; have hns104_0 := NB301_303.out; have hns104_1 := NB302_303.out; have hns104_3 := NB304_303.out; have hms104_0 := NB303_301.out; have hms104_1 := NB303_302.out; have hms104_3 := NB303_304.out
        refine skip_ (w1 := ?_) (by rfl) rfl ?_ ?_
        rotate_left
        ·go_simp
         rfl
        refine hK.out _ _ ⟨((cell_far (p := ⟨gb303, _, none⟩) NB301_303.out _).trans (((cell_far (p := ⟨gb303, _, none⟩) NB301_303.out _).trans (hHeld.1)))), ((cell_far (p := ⟨gb303, _, none⟩) NB301_303.out _).trans (((cell_far (p := ⟨gb303, _, none⟩) NB301_303.out _).trans (hHeld.2.1)))), ((cell_far (p := ⟨gb303, _, none⟩) NB302_303.out _).trans (((cell_far (p := ⟨gb303, _, none⟩) NB302_303.out _).trans (hHeld.2.2.1)))), ((cell_far (p := ⟨gb303, _, none⟩) NB302_303.out _).trans (((cell_far (p := ⟨gb303, _, none⟩) NB302_303.out _).trans (hHeld.2.2.2))))⟩ (fun hHeld => ?_)
        clear hK K
        refine one_ (i := 12) (N := none) #[true, true, true, true, true, true, true, true, true, true, true, true, true] rfl rfl (one_of HT_.out (by kernel_rfl)) (by decide) (fun K hK => ?_)
        have hs105 : w101.cell? ⟨gb304, 0, none⟩ = some (.int .i64 0) := bc_ BK304 0
        have hfs105 := blk_frozen BK304.out 0; have hns105_0 := NB301_304.out; have hns105_1 := NB302_304.out; have hns105_2 := NB303_304.out; have hms105_0 := NB304_301.out; have hms105_1 := NB304_302.out; have hms105_2 := NB304_303.out
        have hs107 : w101.cell? ⟨gb304, 1, none⟩ = some (.slice none 0 0) := bc_ BK304 1
        have hfs107 := blk_frozen BK304.out 1; have hns107_0 := NB301_304.out; have hns107_1 := NB302_304.out; have hns107_2 := NB303_304.out; have hms107_0 := NB304_301.out; have hms107_1 := NB304_302.out; have hms107_2 := NB304_303.out
        refine skip_ (w1 := ?_) (by rfl) rfl ?_ ?_
        rotate_left
        ·go_simp
         rfl
        refine hK.out _ _ ⟨((cell_far (p := ⟨gb304, _, none⟩) NB301_304.out _).trans (((cell_far (p := ⟨gb304, _, none⟩) NB301_304.out _).trans (hHeld.1)))), ((cell_far (p := ⟨gb304, _, none⟩) NB301_304.out _).trans (((cell_far (p := ⟨gb304, _, none⟩) NB301_304.out _).trans (hHeld.2.1)))), ((cell_far (p := ⟨gb304, _, none⟩) NB302_304.out _).trans (((cell_far (p := ⟨gb304, _, none⟩) NB302_304.out _).trans (hHeld.2.2.1)))), ((cell_far (p := ⟨gb304, _, none⟩) NB302_304.out _).trans (((cell_far (p := ⟨gb304, _, none⟩) NB302_304.out _).trans (hHeld.2.2.2))))⟩ (fun hHeld => ?_)
        clear hK K
        refine done_ (done_of HT_.out (by kernel_rfl)) ?_
        try go_wp2
        refine bodyPost_ret (results_cc rfl _ _ gb303 gb304 26 26 #[.int .i64 t312, .slice Ao103 t313.length co103] #[.int .i64 t316, .slice Ao106 t317.length co106] (0, 0) (0, 0) _ _ rfl (by (with_reducible repeat (first | refine blk_drewN ?_ _ | refine blk_drew ?_ | refine blk_alloc ?_ _)); refine blk_far ?_ NB303_304.out _; (with_reducible repeat (first | refine blk_drewN ?_ _ | refine blk_drew ?_ | refine blk_alloc ?_ _)); refine blk_far ?_ NB303_304.out _; (with_reducible repeat (first | refine blk_drewN ?_ _ | refine blk_drew ?_ | refine blk_alloc ?_ _)); refine blk_put (cs := #[.int .i64 t312, .slice none 0 0]) ?_ 1 _ rfl; (with_reducible repeat (first | refine blk_drewN ?_ _ | refine blk_drew ?_ | refine blk_alloc ?_ _)); refine blk_put (cs := #[.int .i64 0, .slice none 0 0]) ?_ 0 _ rfl; (with_reducible repeat (first | refine blk_drewN ?_ _ | refine blk_drew ?_ | refine blk_alloc ?_ _)); exact BK303.out) Tryd.underlying26 rfl (by kernel_rfl) rfl (by (with_reducible repeat (first | refine blk_drewN ?_ _ | refine blk_drew ?_ | refine blk_alloc ?_ _)); refine blk_put (cs := #[.int .i64 t316, .slice none 0 0]) ?_ 1 _ rfl; (with_reducible repeat (first | refine blk_drewN ?_ _ | refine blk_drew ?_ | refine blk_alloc ?_ _)); refine blk_put (cs := #[.int .i64 0, .slice none 0 0]) ?_ 0 _ rfl; (with_reducible repeat (first | refine blk_drewN ?_ _ | refine blk_drew ?_ | refine blk_alloc ?_ _)); refine blk_far ?_ NB304_303.out _; (with_reducible repeat (first | refine blk_drewN ?_ _ | refine blk_drew ?_ | refine blk_alloc ?_ _)); refine blk_far ?_ NB304_303.out _; (with_reducible repeat (first | refine blk_drewN ?_ _ | refine blk_drew ?_ | refine blk_alloc ?_ _)); exact BK304.out) Tryd.underlying26 rfl (by kernel_rfl)) rfl ?_
        exact ⟨_, _, by first | rfl | (simp [errW_none, errW_some] <;> rfl) | (simp only [← hji3]; first | rfl | (simp [errW_none, errW_some] <;> rfl)) | (simp [*, errW_none, errW_some] <;> rfl), by (with_reducible repeat (first | apply Kd.R_alloc | apply Kd.R_drewN | apply Kd.R_drew)); exact Kd.R_mono (Kd.R_far (p := ⟨gb304, 1, none⟩) (Kd.R_far (p := ⟨gb304, 0, none⟩) (Kd.R_far (p := ⟨gb303, 1, none⟩) (Kd.R_far (p := ⟨gb303, 0, none⟩) (Kd.R_types (Kd.R_types HO315.out BK303.out (by decide)) BK304.out (by decide)) (fun _ hk => hk.1.2) (.int .i64 t312)) (fun _ hk => hk.1.2) (.slice Ao103 t313.length co103)) (fun _ hk => hk.2) (.int .i64 t316)) (fun _ hk => hk.2) (.slice Ao106 t317.length co106)) (fun _ hk => hk.1.1.2), by (with_reducible repeat (first | apply Kd.R_alloc | apply Kd.R_drewN | apply Kd.R_drew)); exact Kd.R_mono (Kd.R_far (p := ⟨gb304, 1, none⟩) (Kd.R_far (p := ⟨gb304, 0, none⟩) (Kd.R_far (p := ⟨gb303, 1, none⟩) (Kd.R_far (p := ⟨gb303, 0, none⟩) (Kd.R_types (Kd.R_types HO319.out BK303.out (by decide)) BK304.out (by decide)) (fun _ hk => hk.1.2) (.int .i64 t312)) (fun _ hk => hk.1.2) (.slice Ao103 t313.length co103)) (fun _ hk => hk.2) (.int .i64 t316)) (fun _ hk => hk.2) (.slice Ao106 t317.length co106)) (fun _ hk => hk.1.1.2), bl_ HB⟩
    ·rw [if_neg c7] at H
     exact absurd H (by simp)
   ·rw [if_neg c6] at H
    exact absurd H (by simp)
  ·rw [if_neg c5] at H
   exact absurd H (by simp)
 ·rw [if_neg c4] at H
  exact absurd H (by simp)
end Go.Proofs.YtlkomiiijhphnaaDoor.X
