/- Functions of the program as plain Lean functions, each with a proof that its call does what that function says. Printed by a program over the kit's print; conditions stand in each contract. -/
import Derived.Test.YtghhphndbbefjaaDoorG10
import Derived.Test.YtghhphndbbefjaaDoorG15
import Derived.Test.YtghhphndbbefjaaDoorG17
import Derived.Test.YtghhphndbbefjaaDoorX4
import Derived.Test.YtghhphndbbefjaaDoorLawD
import Derived.Test.YtghhphndbbefjaaDoorX5
namespace Go.Proofs.YtghhphndbbefjaaDoor.X
open Go.RowKit Go.Proofs.YtghhphndbbefjaaDoorW.PrintWords Go.Proofs.YtghhphndbbefjaaDoorW.PrintLast Go.Proofs.YtghhphndbbefjaaDoorW.PrintMore Go.Proofs.YtghhphndbbefjaaDoor.Sq
attribute [local go_sem] max2_int min2_int max_two min_two max_three min_three max_four min_four   -- for this text's walks alone
set_option linter.unusedVariables false
set_option linter.unusedSimpArgs false
def spec_l02Bit.f (a0_0 : Int) (l0_1 : List Int) (a1 : Int) : Option (Int) := if (wrap64 (Int.tdiv a1 24)) ≥ (l0_1.length : Int) then (some 0) else (if 0 ≤ (wrap64 (Int.tdiv a1 24)) then (if (wrap64 (Int.tdiv a1 24)) < (l0_1.length : Int) then (if 0 ≤ (IntKind.u64.wrap (Int.tmod a1 24)) then (some (Go.bits .and .i64 (shr .i64 (rd l0_1 (wrap64 (Int.tdiv a1 24))) (IntKind.u64.wrap (Int.tmod a1 24))) 1)) else (none)) else (none)) else (none))
set_option maxHeartbeats 8000000 in
set_option maxRecDepth 100000 in
theorem spec_l02Bit.calls (a0_0 : Int) (A0_1 : Option Addr) (c0_1 : Nat) (l0_1 : List Int) (a1 : Int) (r : Int) (w : World) (hr0_1 : Kd.C (Kd.int .i64) w A0_1 l0_1.length l0_1) (hc0_1 : l0_1.length ≤ c0_1) (h : spec_l02Bit.f a0_0 l0_1 a1 = some r) :
  Calls Tryd.prog 86 #[.agg #[.int .i64 a0_0, .slice A0_1 l0_1.length c0_1], .int .i64 a1] w fun e w' => e = .returned (.int .i64 r) ∧ Below w.heap.size w w' := by
 have hu26 := Tryd.underlying26; have HR0_1 := Aside0.mk hr0_1; have HC0_1 := Aside0.mk hc0_1; clear hr0_1 hc0_1; have HB := am_ (Below.refl w.heap.size w)
 have H : (if (wrap64 (Int.tdiv a1 24)) ≥ (l0_1.length : Int) then (some 0) else (if 0 ≤ (wrap64 (Int.tdiv a1 24)) then (if (wrap64 (Int.tdiv a1 24)) < (l0_1.length : Int) then (if 0 ≤ (IntKind.u64.wrap (Int.tmod a1 24)) then (some (Go.bits .and .i64 (shr .i64 (rd l0_1 (wrap64 (Int.tdiv a1 24))) (IntKind.u64.wrap (Int.tmod a1 24))) 1)) else (none)) else (none)) else (none))) = some r := h
 clear h
 by_cases c3 : (wrap64 (Int.tdiv a1 24)) ≥ (l0_1.length : Int)
 ·rw [if_pos c3] at H
  have c3b0 : decide ((l0_1.length : Int) ≤ (wrap64 (Int.tdiv a1 24))) = true := decide_eq_true c3
  clear c3; obtain rfl := Option.some.inj H
  go_enter Tryd.func86, Tryd.ntmps86
  go_wp2_with (first | ((with_reducible refine gate_dst (N := 2) rfl ?_); refine bx_ 2 #[.int .i64 a0_0, .slice A0_1 l0_1.length c0_1] 26 ?_; intro gb298 hg w4 hbox hb; obtain ⟨BK298, GW298, GE298⟩ := nb_ hbox hg HB; replace HB := bs_ HB hb; clear hb hbox hg; obtain ⟨hcz5_0, hcz5_1, hfz5_0, hfz5_1⟩ := ck2_ BK298))
  go_ret
  exact ⟨by first | rfl | (simp [errW_none, errW_some] <;> rfl) | (simp [*, errW_none, errW_some] <;> rfl), bl_ HB⟩
 ·rw [if_neg c3] at H
  have c3b0 : decide ((l0_1.length : Int) ≤ (wrap64 (Int.tdiv a1 24))) = false := decide_eq_false c3
  clear c3
  obtain ⟨ji6, hji6⟩ : ∃ j_ : Int, (wrap64 (Int.tdiv a1 24)) = j_ := ⟨_, rfl⟩
  replace H : (if 0 ≤ (ji6) then (if (ji6) < (l0_1.length : Int) then (if 0 ≤ (IntKind.u64.wrap (Int.tmod a1 24)) then (some (Go.bits .and .i64 (shr .i64 (rd l0_1 (ji6)) (IntKind.u64.wrap (Int.tmod a1 24))) 1)) else (none)) else (none)) else (none)) = some r := by first | (rw [hji6] at H; exact H) | (simp only [hji6] at H ⊢; exact H)
  (try rw [hji6] at c3b0)
  have hji6w : (IntKind.i64.wrap (Int.tdiv a1 24)) = ji6 := (i64_w _).trans hji6
  by_cases c7 : 0 ≤ (ji6)
  ·rw [if_pos c7] at H
   have c7b0 : decide (0 ≤ (ji6)) = true := decide_eq_true c7
   clear c7
   by_cases c8 : (ji6) < (l0_1.length : Int)
   ·rw [if_pos c8] at H
    have c8b0 : decide ((ji6) < (l0_1.length : Int)) = true := decide_eq_true c8
    clear c8
    obtain ⟨ji9, hji9⟩ : ∃ j_ : Int, (IntKind.u64.wrap (Int.tmod a1 24)) = j_ := ⟨_, rfl⟩
    replace H : (if 0 ≤ (ji9) then (some (Go.bits .and .i64 (shr .i64 (rd l0_1 (ji6)) (ji9)) 1)) else (none)) = some r := by first | (rw [hji9] at H; exact H) | (simp only [hji9] at H ⊢; exact H)
    by_cases c10 : 0 ≤ (ji9)
    ·rw [if_pos c10] at H
     have c10b0 := eq_true c10
     have c10b1 : decide (0 ≤ (ji9)) = true := decide_eq_true c10
     clear c10
     obtain ⟨ji11, hji11⟩ : ∃ j_ : Int, (shr .i64 (rd l0_1 (ji6)) (ji9)) = j_ := ⟨_, rfl⟩
     replace H : (some (Go.bits .and .i64 (ji11) 1)) = some r := by first | (rw [hji11] at H; exact H) | (simp only [hji11] at H ⊢; exact H)
     have hji11_ : ((rd l0_1 (ji6)) / 2 ^ min (ji9).toNat 64) = ji11 := hji11
     have hji11z : (ji9) ≤ 64 → ((rd l0_1 (ji6)) / 2 ^ (ji9).toNat) = ji11 := shr_small hji11
     obtain rfl := Option.some.inj H
     go_enter Tryd.func86, Tryd.ntmps86
     go_wp2_with (first | ((with_reducible refine gate_dst (N := 2) rfl ?_); refine bx_ 2 #[.int .i64 a0_0, .slice A0_1 l0_1.length c0_1] 26 ?_; intro gb298 hg w12 hbox hb; obtain ⟨BK298, GW298, GE298⟩ := nb_ hbox hg HB; replace HB := bs_ HB hb; clear hb hbox hg; obtain ⟨hcz13_0, hcz13_1, hfz13_0, hfz13_1⟩ := ck2_ BK298; have p299 : 0 ≤ ((ji6) : Int) := of_decide_eq_true (by first | (with_reducible assumption) | assumption); have q299 : (ji6) < (l0_1.length : Int) := of_decide_eq_true (by first | (with_reducible assumption) | assumption); obtain ⟨ad299, e299, hx299_0⟩ := Kd.at_int HR0_1.out (ji6) p299 q299; cases e299; replace hx299_0 := (HB.out.cell (World.block_lt_of_cell? w _ hx299_0)).trans hx299_0; replace p299 := eq_true p299; replace q299 := eq_true q299))
     go_ret
     exact ⟨by first | rfl | (simp [errW_none, errW_some] <;> rfl) | (simp only [← hji6, ← hji9, ← hji11]; first | rfl | (simp [errW_none, errW_some] <;> rfl)) | (simp [*, errW_none, errW_some] <;> rfl), bl_ HB⟩
    ·rw [if_neg c10] at H
     exact absurd H (by simp)
   ·rw [if_neg c8] at H
    exact absurd H (by simp)
  ·rw [if_neg c7] at H
   exact absurd H (by simp)
def spec_l02Twos.l0 : Nat → Int → Int → List Int → Option (Int)
  | 0, _, _, _ => none
  | k + 1, x3, x301000, x301001 => (spec_l02Bit.f x301000 x301001 x3).bind fun t301 => (if t301 = 0 then (spec_l02Twos.l0 k (wrap64 (x3 + 1)) x301000 x301001) else (some x3))
def spec_l02Twos.f (k : Nat) (a0_0 : Int) (l0_1 : List Int) : Option (Int) := spec_l02Twos.l0 k 0 a0_0 l0_1
theorem spec_l02Twos.mono_l : ∀ k, (∀ y0 y1 y2, LeO (spec_l02Twos.l0 k y0 y1 y2) (spec_l02Twos.l0 (k + 1) y0 y1 y2))
  | 0 => fun _ _ _ r h => by simp [spec_l02Twos.l0] at h
  | k + 1 => by
    have ih0 := spec_l02Twos.mono_l k
    · intro y0 y1 y2
      unfold spec_l02Twos.l0
      repeat' first
      | (with_reducible exact ih0 _ _ _)
      | (with_reducible exact LeO.refl _)
      | (with_reducible exact LeO.none _)
      | (with_reducible refine LeO.ite ?_ ?_)
      | (with_reducible refine LeO.bind ?_ (fun _ => ?_))
      | exact ih0 _ _ _
      | exact LeO.none _
      | refine LeO.ite ?_ ?_
      | refine LeO.bind ?_ (fun _ => ?_)
theorem spec_l02Twos.mono : ∀ a0 a1 k, LeO (spec_l02Twos.f k a0 a1) (spec_l02Twos.f (k + 1) a0 a1) := by
  intro a0 a1 k
  have ih0 := spec_l02Twos.mono_l k
  unfold spec_l02Twos.f
  repeat' first
      | (with_reducible exact ih0 _ _ _)
      | (with_reducible exact LeO.refl _)
      | (with_reducible exact LeO.none _)
      | (with_reducible refine LeO.ite ?_ ?_)
      | (with_reducible refine LeO.bind ?_ (fun _ => ?_))
      | exact ih0 _ _ _
      | exact LeO.none _
      | refine LeO.ite ?_ ?_
      | refine LeO.bind ?_ (fun _ => ?_)
set_option maxHeartbeats 8000000 in
set_option maxRecDepth 100000 in
theorem spec_l02Twos.calls (k : Nat) (a0_0 : Int) (A0_1 : Option Addr) (c0_1 : Nat) (l0_1 : List Int) (r : Int) (w : World) (hr0_1 : Kd.C (Kd.int .i64) w A0_1 l0_1.length l0_1) (hc0_1 : l0_1.length ≤ c0_1) (h : spec_l02Twos.f k a0_0 l0_1 = some r) :
  Calls Tryd.prog 112 #[.agg #[.int .i64 a0_0, .slice A0_1 l0_1.length c0_1]] w fun e w' => e = .returned (.int .i64 r) ∧ Below w.heap.size w w' := by
 have hu26 := Tryd.underlying26; have HR0_1 := Aside0.mk hr0_1; have HC0_1 := Aside0.mk hc0_1; clear hr0_1 hc0_1; have HB := am_ (Below.refl w.heap.size w)
 have H : (spec_l02Twos.l0 k 0 a0_0 l0_1) = some r := h
 clear h
 have H' := Aside0.mk H
 clear H
 go_enter Tryd.func112, Tryd.ntmps112
 go_wp2_with (first | ((with_reducible refine gate_dst (N := 1) rfl ?_); refine bx_ 1 #[.int .i64 a0_0, .slice A0_1 l0_1.length c0_1] 26 ?_; intro gb300 hg w2 hbox hb; obtain ⟨BK300, GW300, GE300⟩ := nb_ hbox hg HB; replace HB := bs_ HB hb; clear hb hbox hg))
 go_loopg [3] k (fun kq v3 w' => ∃ (x3_1 : Int), v3 = .int .i64 x3_1 ∧ Aside0 (spec_l02Twos.l0 kq x3_1 a0_0 l0_1 = some r) ∧ Aside0 (kq ≤ k) ∧ Aside0 (w'.heap[gb300]? = some (.cells #[.int .i64 a0_0, (.slice A0_1 l0_1.length c0_1)] 26 (0, 0))) ∧ Aside0 (Below w.heap.size w w'))
 case atStart => exact ⟨(0), (by first | rfl | (simp; done) | (simp [*]; done)), H', ⟨Nat.le_refl _⟩, ⟨bk_ BK300⟩, ⟨bl_ HB⟩⟩
 case round =>
  clear H'; try clear c1; try clear p2
  obtain ⟨x3_1, rfl, HA, HK1, BK300, HB⟩ := hrel
  cases gk with
  | zero => exact absurd HA.out (by simp [spec_l02Twos.l0])
  | succ k1 =>
   have H := HA.out; clear HA
   simp only [spec_l02Twos.l0] at H
   replace H := Option.bind_eq_some_iff.mp H
   obtain ⟨t301, A30, H⟩ := H
   replace H : (if t301 = 0 then (spec_l02Twos.l0 k1 (wrap64 (x3_1 + 1)) a0_0 l0_1) else (some x3_1)) = some r := H
   have A3 := Aside0.mk A30; clear A30
   by_cases c4 : t301 = 0
   ·rw [if_pos c4] at H
    have c4b0 : (t301 == 0) = true := beq_iff_eq.mpr c4
    have c4b1 : (t301 != 0) = false := bne_eq_false_iff_eq.mpr c4
    clear c4
    have H' := Aside0.mk H
    clear H
    obtain ⟨hcz5_0, hcz5_1, hfz5_0, hfz5_1⟩ := ck2_ BK300
    go_wp2_with (first | ((with_reducible refine gate_callee (f := 86) rfl ?_); refine goesL_ (some 6) rfl rfl Tryd.func86 (by kernel_rfl) rfl #[.agg #[.int .i64 a0_0, .slice A0_1 l0_1.length c0_1], .int .i64 x3_1] rfl ma_ ?_; (with_reducible refine (spec_l02Bit.calls a0_0 _ _ l0_1 x3_1 t301 _ ?side1 ?side2 A3.out).mono ?_); (case side1 => exact cb_ HR0_1 HB); (case side2 => exact HC0_1.out); rintro e w6 ⟨rfl, hb⟩; refine ⟨_, rfl, ?_⟩; replace BK300 := bb_ BK300 hb; replace HB := bs_ HB hb; (try clear hb); (try clear hb2); (try clear hk); (try clear hi)))
    go_roundg k1
    case measure => have := HK1.out; omega
    case rel => exact ⟨(wrap64 (x3_1 + 1)), (by first | rfl | (simp; done) | (simp [*]; done)), H', ⟨by have := HK1.out; omega⟩, ⟨bk_ BK300⟩, ⟨bl_ HB⟩⟩
   ·rw [if_neg c4] at H
    have c4b0 : (t301 == 0) = false := beq_eq_false_iff_ne.mpr c4
    have c4b1 : (t301 != 0) = true := bne_iff_ne.mpr c4
    obtain rfl := Option.some.inj H
    obtain ⟨hcz7_0, hcz7_1, hfz7_0, hfz7_1⟩ := ck2_ BK300
    go_wp2_with (first | ((with_reducible refine gate_callee (f := 86) rfl ?_); refine goesL_ (some 6) rfl rfl Tryd.func86 (by kernel_rfl) rfl #[.agg #[.int .i64 a0_0, .slice A0_1 l0_1.length c0_1], .int .i64 x3_1] rfl ma_ ?_; (with_reducible refine (spec_l02Bit.calls a0_0 _ _ l0_1 x3_1 t301 _ ?side1 ?side2 A3.out).mono ?_); (case side1 => exact cb_ HR0_1 HB); (case side2 => exact HC0_1.out); rintro e w8 ⟨rfl, hb⟩; refine ⟨_, rfl, ?_⟩; replace BK300 := bb_ BK300 hb; replace HB := bs_ HB hb; (try clear hb); (try clear hb2); (try clear hk); (try clear hi)))
    go_ret
    exact ⟨by first | rfl | (simp [errW_none, errW_some] <;> rfl) | (simp [*, errW_none, errW_some] <;> rfl), bl_ HB⟩
def spec_l02Cut.l0 : Nat → Int → List Int → Int → Int → List Int → Option (Int × List Int)
  | 0, _, _, _, _, _ => none
  | k + 1, x1, x5, x6, x303000, x303001 => if x6 < (x303001.length : Int) then (if 0 ≤ x6 then (if 0 ≤ (IntKind.u64.wrap (Int.tmod x1 24)) then (if (wrap64 (x6 + 1)) < (x303001.length : Int) then (if 0 ≤ (wrap64 (x6 + 1)) then (if 0 ≤ (IntKind.u64.wrap (wrap64 (24 - (Int.tmod x1 24)))) then (if x5.length < 17592186044416 then (spec_l02Cut.l0 k x1 (x5 ++ [Int.tmod (wrap64 ((shr .i64 (rd x303001 x6) (IntKind.u64.wrap (Int.tmod x1 24))) + (shl .i64 (rd x303001 (wrap64 (x6 + 1))) (IntKind.u64.wrap (wrap64 (24 - (Int.tmod x1 24))))))) 16777216]) (wrap64 (x6 + 1)) x303000 x303001) else (none)) else (none)) else (none)) else (if x5.length < 17592186044416 then (spec_l02Cut.l0 k x1 (x5 ++ [shr .i64 (rd x303001 x6) (IntKind.u64.wrap (Int.tmod x1 24))]) (wrap64 (x6 + 1)) x303000 x303001) else (none))) else (none)) else (none)) else ((spec_l02Make.f k x303000 x5).bind fun bt315 => (some (bt315.1, bt315.2)))
def spec_l02Cut.f (k : Nat) (a0_0 : Int) (l0_1 : List Int) (a1 : Int) : Option (Int × List Int) := spec_l02Cut.l0 k a1 (([] : List Int)) (wrap64 (Int.tdiv a1 24)) a0_0 l0_1
theorem spec_l02Cut.mono_l : ∀ k, (∀ y0 y1 y2 y3 y4, LeO (spec_l02Cut.l0 k y0 y1 y2 y3 y4) (spec_l02Cut.l0 (k + 1) y0 y1 y2 y3 y4))
  | 0 => fun _ _ _ _ _ r h => by simp [spec_l02Cut.l0] at h
  | k + 1 => by
    have ih0 := spec_l02Cut.mono_l k
    · intro y0 y1 y2 y3 y4
      unfold spec_l02Cut.l0
      repeat' first
      | (with_reducible exact ih0 _ _ _ _ _)
      | (with_reducible exact spec_l02Make.mono _ _ _)
      | (with_reducible exact LeO.refl _)
      | (with_reducible exact LeO.none _)
      | (with_reducible refine LeO.ite ?_ ?_)
      | (with_reducible refine LeO.bind ?_ (fun _ => ?_))
      | exact ih0 _ _ _ _ _
      | exact spec_l02Make.mono _ _ _
      | exact LeO.none _
      | refine LeO.ite ?_ ?_
      | refine LeO.bind ?_ (fun _ => ?_)
theorem spec_l02Cut.mono : ∀ a0 a1 a2 k, LeO (spec_l02Cut.f k a0 a1 a2) (spec_l02Cut.f (k + 1) a0 a1 a2) := by
  intro a0 a1 a2 k
  have ih0 := spec_l02Cut.mono_l k
  unfold spec_l02Cut.f
  repeat' first
      | (with_reducible exact ih0 _ _ _ _ _)
      | (with_reducible exact spec_l02Make.mono _ _ _)
      | (with_reducible exact LeO.refl _)
      | (with_reducible exact LeO.none _)
      | (with_reducible refine LeO.ite ?_ ?_)
      | (with_reducible refine LeO.bind ?_ (fun _ => ?_))
      | exact ih0 _ _ _ _ _
      | exact spec_l02Make.mono _ _ _
      | exact LeO.none _
      | refine LeO.ite ?_ ?_
      | refine LeO.bind ?_ (fun _ => ?_)
set_option maxHeartbeats 8000000 in
set_option maxRecDepth 100000 in
theorem spec_l02Cut.calls (k : Nat) (a0_0 : Int) (A0_1 : Option Addr) (c0_1 : Nat) (l0_1 : List Int) (a1 : Int) (r1 : Int) (r2 : List Int) (w : World) (hr0_1 : Kd.C (Kd.int .i64) w A0_1 l0_1.length l0_1) (hc0_1 : l0_1.length ≤ c0_1) (h : spec_l02Cut.f k a0_0 l0_1 a1 = some (r1, r2)) :
  Calls Tryd.prog 113 #[.agg #[.int .i64 a0_0, .slice A0_1 l0_1.length c0_1], .int .i64 a1] w fun e w' => ∃ v1_ : Value, e = .returned (.agg #[.int .i64 r1, v1_]) ∧ Kd.R (Kd.int .i64) 2 w' w.heap.size (fun _ => True) v1_ r2 ∧ Below w.heap.size w w' := by
 have hu26 := Tryd.underlying26; have HR0_1 := Aside0.mk hr0_1; have HC0_1 := Aside0.mk hc0_1; clear hr0_1 hc0_1; have HB := am_ (Below.refl w.heap.size w)
 have H : (spec_l02Cut.l0 k a1 (([] : List Int)) (wrap64 (Int.tdiv a1 24)) a0_0 l0_1) = some (r1, r2) := h
 clear h
 obtain ⟨y304, hy304⟩ : ∃ y_ : List Int, y_ = (([] : List Int)) := ⟨_, rfl⟩
 replace H : (spec_l02Cut.l0 k a1 y304 (wrap64 (Int.tdiv a1 24)) a0_0 l0_1) = some (r1, r2) := by first | (rw [hy304]; with_reducible exact H) | (have H2_ := (Option.bind_some _ _).symm.trans H; rw [hy304]; with_reducible exact H2_) | (have H2_ := (Option.bind_some _ _).symm.trans H; with_reducible exact H2_) | with_reducible exact H | (rw [hy304]; exact H) | exact H
 have Ny304 := Aside0.mk hy304; clear hy304
 have H' := Aside0.mk H
 clear H
 go_enter Tryd.func113, Tryd.ntmps113
 go_wp2_with (first | ((with_reducible refine gate_dst (N := 2) rfl ?_); refine bx_ 2 #[.int .i64 a0_0, .slice A0_1 l0_1.length c0_1] 26 ?_; intro gb302 hg w3 hbox hb; obtain ⟨BK302, GW302, GE302⟩ := nb_ hbox hg HB; replace HB := bs_ HB hb; clear hb hbox hg) | ((with_reducible refine gate_dst (N := 4) rfl ?_); refine bx_ 4 #[.int .i64 0, .slice none 0 0] 26 ?_; intro gb303 hg w4 hbox hb; obtain ⟨BK303, GW303, GE303⟩ := nb_ hbox hg HB; obtain ⟨NB302_303, NB303_302⟩ := nn_ hg BK302; replace BK302 := bb_ BK302 hb; replace HB := bs_ HB hb; clear hb hbox hg) | ((with_reducible refine gate_dst (N := 8) rfl ?_); refine Kd.R_lit (Kd.int .i64) _ 2 ?hg (N := 8) ?hd (xs := ([] : List Int)) (inner := []) (ok := fun _ => True) (okp := fun _ => True) ?hr ?hp (fun _ hk => hk) trivial (Below.refl _ _) (Nat.le_refl _) (by simp) ?_; (case hd => rfl); (case hg => rfl); (case hr => first | (go_simp; done) | (go_simp; rfl)); (case hp => exact (Reps.none _ _)); intro v305 w5 ho6 hb hg_ hnew_; clear hg_ hnew_; (first | rw [← Ny304.out] at ho6 | (simp only [Int.reduceToNat] at ho6; rw [← Ny304.out] at ho6)); have HO306 := am_ (Kd.R_lower ho6 (below_size (bl_ HB))); replace BK302 := bb_ BK302 hb; replace BK303 := bb_ BK303 hb; replace HB := bs_ HB hb; clear hb ho6))
 go_loopg [5, 6] k (fun kq v5 v6 w' => ∃ (x5_1 : List Int) (x6_1 : Int), v6 = .int .i64 x6_1 ∧ Aside0 (spec_l02Cut.l0 kq a1 x5_1 x6_1 a0_0 l0_1 = some (r1, r2)) ∧ Aside0 (kq ≤ k) ∧ Aside0 (Kd.R (Kd.int .i64) 2 w' w.heap.size (fun _ => True) v5 x5_1) ∧ Aside0 (w'.heap[gb302]? = some (.cells #[.int .i64 a0_0, (.slice A0_1 l0_1.length c0_1)] 26 (0, 0))) ∧ Aside0 (w'.heap[gb303]? = some (.cells #[.int .i64 0, (.slice none 0 0)] 26 (0, 0))) ∧ Aside0 (Below w.heap.size w w'))
 case atStart => exact ⟨(y304), (wrap64 (Int.tdiv a1 24)), (by first | rfl | (simp; done) | (simp [*]; done)), H', ⟨Nat.le_refl _⟩, ⟨kr_ HO306⟩, ⟨bk_ BK302⟩, ⟨bk_ BK303⟩, ⟨bl_ HB⟩⟩
 case round =>
  clear H'; try clear c1; try clear p2; try clear p6
  obtain ⟨x5_1, x6_1, rfl, HA, HK1, HO_5, BK302, BK303, HB⟩ := hrel
  cases gk with
  | zero => exact absurd HA.out (by simp [spec_l02Cut.l0])
  | succ k1 =>
   have H := HA.out; clear HA
   simp only [spec_l02Cut.l0] at H
   by_cases c7 : x6_1 < (l0_1.length : Int)
   ·rw [if_pos c7] at H
    have c7b0 : decide (x6_1 < (l0_1.length : Int)) = true := decide_eq_true c7
    clear c7
    by_cases c8 : 0 ≤ x6_1
    ·rw [if_pos c8] at H
     have c8b0 : decide (0 ≤ x6_1) = true := decide_eq_true c8
     clear c8
     obtain ⟨ji9, hji9⟩ : ∃ j_ : Int, (IntKind.u64.wrap (Int.tmod a1 24)) = j_ := ⟨_, rfl⟩
     replace H : (if 0 ≤ (ji9) then (if (wrap64 (x6_1 + 1)) < (l0_1.length : Int) then (if 0 ≤ (wrap64 (x6_1 + 1)) then (if 0 ≤ (IntKind.u64.wrap (wrap64 (24 - (Int.tmod a1 24)))) then (if x5_1.length < 17592186044416 then (spec_l02Cut.l0 k1 a1 (x5_1 ++ [Int.tmod (wrap64 ((shr .i64 (rd l0_1 x6_1) (ji9)) + (shl .i64 (rd l0_1 (wrap64 (x6_1 + 1))) (IntKind.u64.wrap (wrap64 (24 - (Int.tmod a1 24))))))) 16777216]) (wrap64 (x6_1 + 1)) a0_0 l0_1) else (none)) else (none)) else (none)) else (if x5_1.length < 17592186044416 then (spec_l02Cut.l0 k1 a1 (x5_1 ++ [shr .i64 (rd l0_1 x6_1) (ji9)]) (wrap64 (x6_1 + 1)) a0_0 l0_1) else (none))) else (none)) = some (r1, r2) := by first | (rw [hji9] at H; exact H) | (simp only [hji9] at H ⊢; exact H)
     by_cases c10 : 0 ≤ (ji9)
     ·rw [if_pos c10] at H
      have c10b0 := eq_true c10
      have c10b1 : decide (0 ≤ (ji9)) = true := decide_eq_true c10
      clear c10
      obtain ⟨ji11, hji11⟩ : ∃ j_ : Int, (shr .i64 (rd l0_1 x6_1) (ji9)) = j_ := ⟨_, rfl⟩
      replace H : (if (wrap64 (x6_1 + 1)) < (l0_1.length : Int) then (if 0 ≤ (wrap64 (x6_1 + 1)) then (if 0 ≤ (IntKind.u64.wrap (wrap64 (24 - (Int.tmod a1 24)))) then (if x5_1.length < 17592186044416 then (spec_l02Cut.l0 k1 a1 (x5_1 ++ [Int.tmod (wrap64 ((ji11) + (shl .i64 (rd l0_1 (wrap64 (x6_1 + 1))) (IntKind.u64.wrap (wrap64 (24 - (Int.tmod a1 24))))))) 16777216]) (wrap64 (x6_1 + 1)) a0_0 l0_1) else (none)) else (none)) else (none)) else (if x5_1.length < 17592186044416 then (spec_l02Cut.l0 k1 a1 (x5_1 ++ [ji11]) (wrap64 (x6_1 + 1)) a0_0 l0_1) else (none))) = some (r1, r2) := by first | (rw [hji11] at H; exact H) | (simp only [hji11] at H ⊢; exact H)
      have hji11_ : ((rd l0_1 x6_1) / 2 ^ min (ji9).toNat 64) = ji11 := hji11
      have hji11z : (ji9) ≤ 64 → ((rd l0_1 x6_1) / 2 ^ (ji9).toNat) = ji11 := shr_small hji11
      by_cases c12 : (wrap64 (x6_1 + 1)) < (l0_1.length : Int)
      ·rw [if_pos c12] at H
       have c12b0 : decide ((wrap64 (x6_1 + 1)) < (l0_1.length : Int)) = true := decide_eq_true c12
       clear c12
       obtain ⟨ji13, hji13⟩ : ∃ j_ : Int, (wrap64 (x6_1 + 1)) = j_ := ⟨_, rfl⟩
       replace H : (if 0 ≤ (ji13) then (if 0 ≤ (IntKind.u64.wrap (wrap64 (24 - (Int.tmod a1 24)))) then (if x5_1.length < 17592186044416 then (spec_l02Cut.l0 k1 a1 (x5_1 ++ [Int.tmod (wrap64 ((ji11) + (shl .i64 (rd l0_1 (ji13)) (IntKind.u64.wrap (wrap64 (24 - (Int.tmod a1 24))))))) 16777216]) ji13 a0_0 l0_1) else (none)) else (none)) else (none)) = some (r1, r2) := by first | (rw [hji13] at H; exact H) | (simp only [hji13] at H ⊢; exact H)
       (try rw [hji13] at c12b0)
       have hji13w : (IntKind.i64.wrap (x6_1 + 1)) = ji13 := (i64_w _).trans hji13
       by_cases c14 : 0 ≤ (ji13)
       ·rw [if_pos c14] at H
        have c14b0 : decide (0 ≤ (ji13)) = true := decide_eq_true c14
        clear c14
        obtain ⟨ji15, hji15⟩ : ∃ j_ : Int, (IntKind.u64.wrap (wrap64 (24 - (Int.tmod a1 24)))) = j_ := ⟨_, rfl⟩
        replace H : (if 0 ≤ (ji15) then (if x5_1.length < 17592186044416 then (spec_l02Cut.l0 k1 a1 (x5_1 ++ [Int.tmod (wrap64 ((ji11) + (shl .i64 (rd l0_1 (ji13)) (ji15)))) 16777216]) ji13 a0_0 l0_1) else (none)) else (none)) = some (r1, r2) := by first | (rw [hji15] at H; exact H) | (simp only [hji15] at H ⊢; exact H)
        by_cases c16 : 0 ≤ (ji15)
        ·rw [if_pos c16] at H
         have c16b0 := eq_true c16
         have c16b1 : decide (0 ≤ (ji15)) = true := decide_eq_true c16
         clear c16
         obtain ⟨ji17, hji17⟩ : ∃ j_ : Int, (shl .i64 (rd l0_1 (ji13)) (ji15)) = j_ := ⟨_, rfl⟩
         replace H : (if x5_1.length < 17592186044416 then (spec_l02Cut.l0 k1 a1 (x5_1 ++ [Int.tmod (wrap64 ((ji11) + (ji17))) 16777216]) ji13 a0_0 l0_1) else (none)) = some (r1, r2) := by first | (rw [hji17] at H; exact H) | (simp only [hji17] at H ⊢; exact H)
         have hji17_ : (IntKind.i64.wrap ((rd l0_1 (ji13)) * 2 ^ min (ji15).toNat 64)) = ji17 := hji17
         have hji17z : (ji15) ≤ 64 → (IntKind.i64.wrap ((rd l0_1 (ji13)) * 2 ^ (ji15).toNat)) = ji17 := shl_small hji17
         have hji17y : (wrap64 ((rd l0_1 (ji13)) * 2 ^ min (ji15).toNat 64)) = ji17 := (i64_w _).symm.trans hji17_
         have hji17x : (ji15) ≤ 64 → (wrap64 ((rd l0_1 (ji13)) * 2 ^ (ji15).toNat)) = ji17 := fun h_ => (i64_w _).symm.trans (hji17z h_)
         by_cases c18 : x5_1.length < 17592186044416
         ·rw [if_pos c18] at H
          have LMc18 := Aside0.mk c18; clear c18
          obtain ⟨y309, hy309⟩ : ∃ y_ : List Int, y_ = (x5_1 ++ [Int.tmod (wrap64 ((ji11) + (ji17))) 16777216]) := ⟨_, rfl⟩
          replace H : (spec_l02Cut.l0 k1 a1 y309 ji13 a0_0 l0_1) = some (r1, r2) := by first | (rw [hy309]; with_reducible exact H) | (have H2_ := (Option.bind_some _ _).symm.trans H; rw [hy309]; with_reducible exact H2_) | (have H2_ := (Option.bind_some _ _).symm.trans H; with_reducible exact H2_) | with_reducible exact H | (rw [hy309]; exact H) | exact H
          have Ny309 := Aside0.mk hy309; clear hy309
          have H' := Aside0.mk H
          clear H; have hnb19 := NB302_303.out; have hnc19 := NB303_302.out
          obtain ⟨hcz20_0, hcz20_1, hfz20_0, hfz20_1⟩ := ck2_ BK302
          have p307 : 0 ≤ (x6_1 : Int) := of_decide_eq_true (by first | (with_reducible assumption) | assumption)
          have q307 : x6_1 < (l0_1.length : Int) := of_decide_eq_true (by first | (with_reducible assumption) | assumption)
          obtain ⟨ad307, e307, hx307_0⟩ := Kd.at_int HR0_1.out x6_1 p307 q307
          cases e307
          replace hx307_0 := (HB.out.cell (World.block_lt_of_cell? w _ hx307_0)).trans hx307_0
          replace p307 := eq_true p307
          replace q307 := eq_true q307
          have p308 : 0 ≤ ((ji13) : Int) := of_decide_eq_true (by first | (with_reducible assumption) | assumption)
          have q308 : (ji13) < (l0_1.length : Int) := of_decide_eq_true (by first | (with_reducible assumption) | assumption)
          obtain ⟨ad308, e308, hx308_0⟩ := Kd.at_int HR0_1.out (ji13) p308 q308
          obtain rfl : ad307 = ad308 := (by injection e308)
          replace hx308_0 := (HB.out.cell (World.block_lt_of_cell? w _ hx308_0)).trans hx308_0
          replace p308 := eq_true p308
          replace q308 := eq_true q308
          go_wp2_with (first | ((with_reducible refine gate_builtin (b := .append) (xs := #[.tmp 47, .tmp 49]) rfl ?_); at_builtin; refine Kd.R_append (Kd.int .i64) (w0 := w) w.heap.size rfl (.tmp 47) (.tmp 49) 22 2 (.int .i64 0) 8 rfl Tryd.underlying22 info2 rfl (by decide) (by omega) u5 x5_1 (Int.tmod (wrap64 ((ji11) + (ji17))) 16777216) [.int .i64 (Int.tmod (wrap64 ((ji11) + (ji17))) 16777216)] (fun _ => True) (fun _ => False) rfl rfl ?aP (fun _ hk => hk.elim) ?aF ?aO ?aB ?aS ?aL ?_; (case aP => exact rfl); (case aB => exact (bl_ HB)); (case aF => exact (fun _ _ => trivial)); (case aO => exact (kr_ HO_5)); (case aS => exact (below_size (bl_ HB))); (case aL => have := LMc18.out; omega); intro v310 w21 ho hb hg hat; rw [← Ny309.out] at ho; have n0_ := am_ (blk_grown (g := gb302) (o := .cells #[.int .i64 a0_0, .slice (some ad307) l0_1.length c0_1] 26 (0, 0)) (bk_ BK302) hg (Kd.R_ne HO_5.out BK302.out (by decide))); have n1_ := am_ (blk_grown (g := gb303) (o := .cells #[.int .i64 0, .slice none 0 0] 26 (0, 0)) (bk_ BK303) hg (Kd.R_ne HO_5.out BK303.out (by decide))); have n2_ := am_ (hb); have n3_ := am_ (ho); clear BK302; clear BK303; clear HB; clear HO_5; have BK302 := n0_; have BK303 := n1_; have HB := n2_; have HO311 := n3_; clear n0_ n1_ n2_ n3_; clear ho hb hg hat))
          go_roundg k1
          case measure => have := HK1.out; omega
          case rel => exact ⟨(y309), (ji13), (by first | rfl | (simp; done) | (simp only [← hji13] <;> (first | rfl | simp)) | (simp [*]; done)), H', ⟨by have := HK1.out; omega⟩, ⟨kr_ HO311⟩, ⟨bk_ BK302⟩, ⟨bk_ BK303⟩, ⟨bl_ HB⟩⟩
         ·rw [if_neg c18] at H
          exact absurd H (by simp)
        ·rw [if_neg c16] at H
         exact absurd H (by simp)
       ·rw [if_neg c14] at H
        exact absurd H (by simp)
      ·rw [if_neg c12] at H
       have c12b0 : decide ((wrap64 (x6_1 + 1)) < (l0_1.length : Int)) = false := decide_eq_false c12
       clear c12
       by_cases c22 : x5_1.length < 17592186044416
       ·rw [if_pos c22] at H
        have LMc22 := Aside0.mk c22; clear c22
        obtain ⟨y312, hy312⟩ : ∃ y_ : List Int, y_ = (x5_1 ++ [ji11]) := ⟨_, rfl⟩
        replace H : (spec_l02Cut.l0 k1 a1 y312 (wrap64 (x6_1 + 1)) a0_0 l0_1) = some (r1, r2) := by first | (rw [hy312]; with_reducible exact H) | (have H2_ := (Option.bind_some _ _).symm.trans H; rw [hy312]; with_reducible exact H2_) | (have H2_ := (Option.bind_some _ _).symm.trans H; with_reducible exact H2_) | with_reducible exact H | (rw [hy312]; exact H) | exact H
        have Ny312 := Aside0.mk hy312; clear hy312
        have H' := Aside0.mk H
        clear H; have hnb23 := NB302_303.out; have hnc23 := NB303_302.out
        obtain ⟨hcz24_0, hcz24_1, hfz24_0, hfz24_1⟩ := ck2_ BK302
        have p307 : 0 ≤ (x6_1 : Int) := of_decide_eq_true (by first | (with_reducible assumption) | assumption)
        have q307 : x6_1 < (l0_1.length : Int) := of_decide_eq_true (by first | (with_reducible assumption) | assumption)
        obtain ⟨ad307, e307, hx307_0⟩ := Kd.at_int HR0_1.out x6_1 p307 q307
        cases e307
        replace hx307_0 := (HB.out.cell (World.block_lt_of_cell? w _ hx307_0)).trans hx307_0
        replace p307 := eq_true p307
        replace q307 := eq_true q307
        go_wp2_with (first | ((with_reducible refine gate_builtin (b := .append) (xs := #[.tmp 47, .tmp 49]) rfl ?_); at_builtin; refine Kd.R_append (Kd.int .i64) (w0 := w) w.heap.size rfl (.tmp 47) (.tmp 49) 22 2 (.int .i64 0) 8 rfl Tryd.underlying22 info2 rfl (by decide) (by omega) u5 x5_1 ji11 [.int .i64 ji11] (fun _ => True) (fun _ => False) rfl rfl ?aP (fun _ hk => hk.elim) ?aF ?aO ?aB ?aS ?aL ?_; (case aP => exact rfl); (case aB => exact (bl_ HB)); (case aF => exact (fun _ _ => trivial)); (case aO => exact (kr_ HO_5)); (case aS => exact (below_size (bl_ HB))); (case aL => have := LMc22.out; omega); intro v313 w25 ho hb hg hat; rw [← Ny312.out] at ho; have n0_ := am_ (blk_grown (g := gb302) (o := .cells #[.int .i64 a0_0, .slice (some ad307) l0_1.length c0_1] 26 (0, 0)) (bk_ BK302) hg (Kd.R_ne HO_5.out BK302.out (by decide))); have n1_ := am_ (blk_grown (g := gb303) (o := .cells #[.int .i64 0, .slice none 0 0] 26 (0, 0)) (bk_ BK303) hg (Kd.R_ne HO_5.out BK303.out (by decide))); have n2_ := am_ (hb); have n3_ := am_ (ho); clear BK302; clear BK303; clear HB; clear HO_5; have BK302 := n0_; have BK303 := n1_; have HB := n2_; have HO314 := n3_; clear n0_ n1_ n2_ n3_; clear ho hb hg hat))
        go_roundg k1
        case measure => have := HK1.out; omega
        case rel => exact ⟨(y312), (wrap64 (x6_1 + 1)), (by first | rfl | (simp; done) | (simp [*]; done)), H', ⟨by have := HK1.out; omega⟩, ⟨kr_ HO314⟩, ⟨bk_ BK302⟩, ⟨bk_ BK303⟩, ⟨bl_ HB⟩⟩
       ·rw [if_neg c22] at H
        exact absurd H (by simp)
     ·rw [if_neg c10] at H
      exact absurd H (by simp)
    ·rw [if_neg c8] at H
     exact absurd H (by simp)
   ·rw [if_neg c7] at H
    have c7b0 : decide (x6_1 < (l0_1.length : Int)) = false := decide_eq_false c7
    clear c7
    replace H := Option.bind_eq_some_iff.mp H
    obtain ⟨⟨t315, t316⟩, A260, H⟩ := H
    replace H : (some (t315, t316)) = some (r1, r2) := H
    have A26 := Aside0.mk A260; clear A260
    simp only [Option.some.injEq, Prod.mk.injEq] at H
    obtain ⟨rfl, rfl⟩ := H
    have hnb27 := NB302_303.out; have hnc27 := NB303_302.out
    obtain ⟨hcz28_0, hcz28_1, hfz28_0, hfz28_1⟩ := ck2_ BK302
    obtain ⟨Ao29, co29, eo29⟩ := Kd.R_slice HO_5.out
    subst eo29
    go_wp2_with (first | ((with_reducible refine gate_callee (f := 87) rfl ?_); refine goesL_ (some 54) rfl rfl Tryd.func87 (by kernel_rfl) rfl #[.int .i64 a0_0, .slice Ao29 x5_1.length co29] rfl ma_ ?_; (with_reducible refine (spec_l02Make.calls k1 a0_0 _ _ x5_1 t315 t316 _ ?side1 ?side2 A26.out).mono ?_); (case side1 => exact cr_ HO_5); (case side2 => exact (Kd.R_reads' HO_5.out).2.1); rintro e w30 ⟨v317, rfl, ho0, hb⟩; refine ⟨_, rfl, ?_⟩; have HO318 := am_ (Kd.R_lower (Kd.R_new' ho0 (Kd.R_lt (kr_ HO_5))) (below_size (bl_ HB))); replace HO_5 := am_ (Kd.R_elder' (kr_ HO_5) (Kd.R_base ho0) hb); replace BK302 := bb_ BK302 hb; replace BK303 := bb_ BK303 hb; replace HB := bs_ HB hb; (try clear hb); (try clear hb2); (try clear hk); (try clear hi); (try clear ho0); obtain ⟨hcz31_0, hcz31_1, hfz31_0, hfz31_1⟩ := ck2_ BK303; obtain ⟨Ao32, co32, eo32⟩ := Kd.R_slice HO318.out; subst eo32))
    refine bodyPost_ret (results_cell_row rfl _ _ gb303 26 #[.int .i64 t315, .slice Ao32 t316.length co32] (0, 0) _ rfl (bp2_ BK303) Tryd.underlying26 rfl (by kernel_rfl)) rfl ?_
    exact ⟨_, by first | rfl | (simp [errW_none, errW_some] <;> rfl) | (simp [*, errW_none, errW_some] <;> rfl), rt_ HO318 BK303, bl_ HB⟩
def spec_l03Make.f (k : Nat) (a0_0 : Int) (l0_1 : List Int) (a1 : Int) : Option (Int × List Int × Int) := if a0_0 = 0 then (some (0, ([] : List Int), 0)) else ((spec_l02Twos.f k a0_0 l0_1).bind fun t321 => ((spec_l02Cut.f k a0_0 l0_1 t321).bind fun bt322 => (some (bt322.1, bt322.2, wrap64 (a1 + t321)))))
theorem spec_l03Make.mono : ∀ a0 a1 a2 k, LeO (spec_l03Make.f k a0 a1 a2) (spec_l03Make.f (k + 1) a0 a1 a2) := by
  intro a0 a1 a2 k
  unfold spec_l03Make.f
  repeat' first
      | (with_reducible exact spec_l02Cut.mono _ _ _ _)
      | (with_reducible exact spec_l02Twos.mono _ _ _)
      | (with_reducible exact LeO.refl _)
      | (with_reducible exact LeO.none _)
      | (with_reducible refine LeO.ite ?_ ?_)
      | (with_reducible refine LeO.bind ?_ (fun _ => ?_))
      | exact spec_l02Cut.mono _ _ _ _
      | exact spec_l02Twos.mono _ _ _
      | exact LeO.none _
      | refine LeO.ite ?_ ?_
      | refine LeO.bind ?_ (fun _ => ?_)
set_option maxHeartbeats 8000000 in
set_option maxRecDepth 100000 in
theorem spec_l03Make.calls (k : Nat) (a0_0 : Int) (A0_1 : Option Addr) (c0_1 : Nat) (l0_1 : List Int) (a1 : Int) (r1 : Int) (r2 : List Int) (r3 : Int) (w : World) (hr0_1 : Kd.C (Kd.int .i64) w A0_1 l0_1.length l0_1) (hc0_1 : l0_1.length ≤ c0_1) (h : spec_l03Make.f k a0_0 l0_1 a1 = some (r1, r2, r3)) :
  Calls Tryd.prog 118 #[.agg #[.int .i64 a0_0, .slice A0_1 l0_1.length c0_1], .int .i64 a1] w fun e w' => ∃ v1_ : Value, e = .returned (.agg #[.int .i64 r1, v1_, .int .i64 r3]) ∧ Kd.R (Kd.int .i64) 2 w' w.heap.size (fun _ => True) v1_ r2 ∧ Below w.heap.size w w' := by
 have hu26 := Tryd.underlying26; have hu45 := Tryd.underlying45; have HR0_1 := Aside0.mk hr0_1; have HC0_1 := Aside0.mk hc0_1; clear hr0_1 hc0_1; have HB := am_ (Below.refl w.heap.size w)
 have H : (if a0_0 = 0 then (some (0, ([] : List Int), 0)) else ((spec_l02Twos.f k a0_0 l0_1).bind fun t321 => ((spec_l02Cut.f k a0_0 l0_1 t321).bind fun bt322 => (some (bt322.1, bt322.2, wrap64 (a1 + t321)))))) = some (r1, r2, r3) := h
 clear h
 by_cases c3 : a0_0 = 0
 ·rw [if_pos c3] at H
  have c3b0 : (a0_0 == 0) = true := beq_iff_eq.mpr c3
  have c3b1 : (a0_0 != 0) = false := bne_eq_false_iff_eq.mpr c3
  clear c3
  simp only [Option.some.injEq, Prod.mk.injEq] at H
  obtain ⟨rfl, rfl, rfl⟩ := H
  go_enter Tryd.func118, Tryd.ntmps118
  go_wp2_with (first | ((with_reducible refine gate_dst (N := 2) rfl ?_); refine bx_ 2 #[.int .i64 a0_0, .slice A0_1 l0_1.length c0_1] 26 ?_; intro gb319 hg w4 hbox hb; obtain ⟨BK319, GW319, GE319⟩ := nb_ hbox hg HB; replace HB := bs_ HB hb; clear hb hbox hg) | ((with_reducible refine gate_dst (N := 4) rfl ?_); refine bx_ 4 #[.int .i64 0, .slice none 0 0, .int .i64 0] 45 ?_; intro gb320 hg w5 hbox hb; obtain ⟨BK320, GW320, GE320⟩ := nb_ hbox hg HB; obtain ⟨NB319_320, NB320_319⟩ := nn_ hg BK319; replace BK319 := bb_ BK319 hb; replace HB := bs_ HB hb; clear hb hbox hg; have hnb6 := NB319_320.out; have hnc6 := NB320_319.out; obtain ⟨hcz7_0, hcz7_1, hfz7_0, hfz7_1⟩ := ck2_ BK319; obtain ⟨hcz8_0, hcz8_1, hcz8_2, hfz8_0, hfz8_1, hfz8_2⟩ := ck3_ BK320))
  refine bodyPost_ret (results_cell_row rfl _ _ gb320 45 #[.int .i64 0, .slice none 0 0, .int .i64 0] (0, 0) _ rfl (bp3_ BK320) Tryd.underlying45 rfl (by kernel_rfl)) rfl ?_
  exact ⟨_, by first | rfl | (simp [errW_none, errW_some] <;> rfl) | (simp [*, errW_none, errW_some] <;> rfl), by first | exact Kd.R_nil _ _ _ _ _ | exact Kd.N_nil _ _ _ _ _ | exact Kd.V_nil _ _ _ _ _ | exact Kd.Q_nil _ _ _ _ _ | exact Kd.S_nil _ _ _ _ _, bl_ HB⟩
 ·rw [if_neg c3] at H
  have c3b0 : (a0_0 == 0) = false := beq_eq_false_iff_ne.mpr c3
  have c3b1 : (a0_0 != 0) = true := bne_iff_ne.mpr c3
  replace H := Option.bind_eq_some_iff.mp H
  obtain ⟨t321, A90, H⟩ := H
  replace H : ((spec_l02Cut.f k a0_0 l0_1 t321).bind fun bt322 => (some (bt322.1, bt322.2, wrap64 (a1 + t321)))) = some (r1, r2, r3) := H
  have A9 := Aside0.mk A90; clear A90
  replace H := Option.bind_eq_some_iff.mp H
  obtain ⟨⟨t322, t323⟩, A100, H⟩ := H
  replace H : (some (t322, t323, wrap64 (a1 + t321))) = some (r1, r2, r3) := H
  have A10 := Aside0.mk A100; clear A100
  simp only [Option.some.injEq, Prod.mk.injEq] at H
  obtain ⟨rfl, rfl, rfl⟩ := H
  go_enter Tryd.func118, Tryd.ntmps118
  go_wp2_with (first | ((with_reducible refine gate_dst (N := 2) rfl ?_); refine bx_ 2 #[.int .i64 a0_0, .slice A0_1 l0_1.length c0_1] 26 ?_; intro gb319 hg w11 hbox hb; obtain ⟨BK319, GW319, GE319⟩ := nb_ hbox hg HB; replace HB := bs_ HB hb; clear hb hbox hg) | ((with_reducible refine gate_dst (N := 4) rfl ?_); refine bx_ 4 #[.int .i64 0, .slice none 0 0, .int .i64 0] 45 ?_; intro gb320 hg w12 hbox hb; obtain ⟨BK320, GW320, GE320⟩ := nb_ hbox hg HB; obtain ⟨NB319_320, NB320_319⟩ := nn_ hg BK319; replace BK319 := bb_ BK319 hb; replace HB := bs_ HB hb; clear hb hbox hg; have hnb13 := NB319_320.out; have hnc13 := NB320_319.out; obtain ⟨hcz14_0, hcz14_1, hfz14_0, hfz14_1⟩ := ck2_ BK319) | ((with_reducible refine gate_callee (f := 112) rfl ?_); refine goesL_ (some 11) rfl rfl Tryd.func112 (by kernel_rfl) rfl #[.agg #[.int .i64 a0_0, .slice A0_1 l0_1.length c0_1]] rfl ma_ ?_; (with_reducible refine (spec_l02Twos.calls k a0_0 _ _ l0_1 t321 _ ?side1 ?side2 A9.out).mono ?_); (case side1 => exact cb_ HR0_1 HB); (case side2 => exact HC0_1.out); rintro e w15 ⟨rfl, hb⟩; refine ⟨_, rfl, ?_⟩; replace BK319 := bb_ BK319 hb; replace BK320 := bb_ BK320 hb; replace HB := bs_ HB hb; (try clear hb); (try clear hb2); (try clear hk); (try clear hi); obtain ⟨hcz16_0, hcz16_1, hfz16_0, hfz16_1⟩ := ck2_ BK319) | ((with_reducible refine gate_callee (f := 113) rfl ?_); refine goesL_ (some 14) rfl rfl Tryd.func113 (by kernel_rfl) rfl #[.agg #[.int .i64 a0_0, .slice A0_1 l0_1.length c0_1], .int .i64 t321] rfl ma_ ?_; (with_reducible refine (spec_l02Cut.calls k a0_0 _ _ l0_1 t321 t322 t323 _ ?side1 ?side2 A10.out).mono ?_); (case side1 => exact cb_ HR0_1 HB); (case side2 => exact HC0_1.out); rintro e w17 ⟨v324, rfl, ho0, hb⟩; refine ⟨_, rfl, ?_⟩; have HO325 := am_ (Kd.R_lower ho0 (below_size (bl_ HB))); replace BK319 := bb_ BK319 hb; replace BK320 := bb_ BK320 hb; replace HB := bs_ HB hb; (try clear hb); (try clear hb2); (try clear hk); (try clear hi); (try clear ho0); obtain ⟨Ao18, co18, eo18⟩ := Kd.R_slice HO325.out; subst eo18; obtain ⟨hcz19_0, hcz19_1, hcz19_2, hfz19_0, hfz19_1, hfz19_2⟩ := ck3_ BK320))
  refine bodyPost_ret (results_cell_row rfl _ _ gb320 45 #[.int .i64 t322, .slice Ao18 t323.length co18, .int .i64 (wrap64 (a1 + t321))] (0, 0) _ rfl (bp3_ BK320) Tryd.underlying45 rfl (by kernel_rfl)) rfl ?_
  exact ⟨_, by first | rfl | (simp [errW_none, errW_some] <;> rfl) | (simp [*, errW_none, errW_some] <;> rfl), by (with_reducible repeat (first | apply Kd.R_alloc | apply Kd.R_drewN | apply Kd.R_drew)); exact Kd.R_mono (Kd.R_far (p := ⟨gb320, 2, none⟩) (Kd.R_far (p := ⟨gb320, 1, none⟩) (Kd.R_far (p := ⟨gb320, 0, none⟩) (Kd.R_types HO325.out BK320.out (by decide)) (fun _ hk => hk.2) (.int .i64 t322)) (fun _ hk => hk.2) (.slice Ao18 t323.length co18)) (fun _ hk => hk.2) (.int .i64 (wrap64 (a1 + t321)))) (fun _ hk => trivial), bl_ HB⟩
mutual
def spec_l02Mul.l0 : Nat → List Int → Int → Int → List Int → Int → List Int → Option (Int × List Int)
  | 0, _, _, _, _, _, _ => none
  | k + 1, x5, x6, x327000, x327001, x328000, x328001 => if x6 < (x327001.length : Int) then (spec_l02Mul.l1 k x5 x6 0 0 x327000 x327001 x328000 x328001) else ((spec_l02Make.f k (wrap64 (x327000 * x328000)) x5).bind fun bt332 => (some (bt332.1, bt332.2)))
def spec_l02Mul.l1 : Nat → List Int → Int → Int → Int → Int → List Int → Int → List Int → Option (Int × List Int)
  | 0, _, _, _, _, _, _, _, _ => none
  | k + 1, x5, x6, x7, x8, x327000, x327001, x328000, x328001 => if x8 < (x328001.length : Int) then (if 0 ≤ (wrap64 (x6 + x8)) then (if (wrap64 (x6 + x8)) < (x5.length : Int) then (if 0 ≤ x6 then (if x6 < (x327001.length : Int) then (if 0 ≤ x8 then (spec_l02Mul.l1 k (x5.set ((wrap64 (x6 + x8)) : Int).toNat (Int.tmod (wrap64 ((wrap64 (x7 + (rd x5 (wrap64 (x6 + x8))))) + (wrap64 ((rd x327001 x6) * (rd x328001 x8))))) 16777216)) x6 (wrap64 (Int.tdiv (wrap64 ((wrap64 (x7 + (rd x5 (wrap64 (x6 + x8))))) + (wrap64 ((rd x327001 x6) * (rd x328001 x8))))) 16777216)) (wrap64 (x8 + 1)) x327000 x327001 x328000 x328001) else (none)) else (none)) else (none)) else (none)) else (none)) else (if 0 ≤ (wrap64 (x6 + (x328001.length : Int))) then (if (wrap64 (x6 + (x328001.length : Int))) < (x5.length : Int) then (spec_l02Mul.l0 k (x5.set ((wrap64 (x6 + (x328001.length : Int))) : Int).toNat x7) (wrap64 (x6 + 1)) x327000 x327001 x328000 x328001) else (none)) else (none))
end
def spec_l02Mul.f (k : Nat) (a0_0 : Int) (l0_1 : List Int) (a1_0 : Int) (l1_1 : List Int) : Option (Int × List Int) := if 0 ≤ (wrap64 ((wrap64 ((l0_1.length : Int) + (l1_1.length : Int))) + 1)) then (if (wrap64 ((wrap64 ((l0_1.length : Int) + (l1_1.length : Int))) + 1) : Int).toNat ≤ 35184372088832 then (spec_l02Mul.l0 k (List.replicate (wrap64 ((wrap64 ((l0_1.length : Int) + (l1_1.length : Int))) + 1) : Int).toNat 0) 0 a0_0 l0_1 a1_0 l1_1) else (none)) else (none)
theorem spec_l02Mul.mono_l : ∀ k, (∀ y0 y1 y2 y3 y4 y5, LeO (spec_l02Mul.l0 k y0 y1 y2 y3 y4 y5) (spec_l02Mul.l0 (k + 1) y0 y1 y2 y3 y4 y5)) ∧ (∀ y0 y1 y2 y3 y4 y5 y6 y7, LeO (spec_l02Mul.l1 k y0 y1 y2 y3 y4 y5 y6 y7) (spec_l02Mul.l1 (k + 1) y0 y1 y2 y3 y4 y5 y6 y7))
  | 0 => ⟨fun _ _ _ _ _ _ r h => by simp [spec_l02Mul.l0] at h, fun _ _ _ _ _ _ _ _ r h => by simp [spec_l02Mul.l1] at h⟩
  | k + 1 => by
    obtain ⟨ih0, ih1⟩ := spec_l02Mul.mono_l k
    refine ⟨?_, ?_⟩
    · intro y0 y1 y2 y3 y4 y5
      unfold spec_l02Mul.l0
      repeat' first
      | (with_reducible exact ih0 _ _ _ _ _ _)
      | (with_reducible exact ih1 _ _ _ _ _ _ _ _)
      | (with_reducible exact spec_l02Make.mono _ _ _)
      | (with_reducible exact LeO.refl _)
      | (with_reducible exact LeO.none _)
      | (with_reducible refine LeO.ite ?_ ?_)
      | (with_reducible refine LeO.bind ?_ (fun _ => ?_))
      | exact ih0 _ _ _ _ _ _
      | exact ih1 _ _ _ _ _ _ _ _
      | exact spec_l02Make.mono _ _ _
      | exact LeO.none _
      | refine LeO.ite ?_ ?_
      | refine LeO.bind ?_ (fun _ => ?_)
    · intro y0 y1 y2 y3 y4 y5 y6 y7
      unfold spec_l02Mul.l1
      repeat' first
      | (with_reducible exact ih0 _ _ _ _ _ _)
      | (with_reducible exact ih1 _ _ _ _ _ _ _ _)
      | (with_reducible exact spec_l02Make.mono _ _ _)
      | (with_reducible exact LeO.refl _)
      | (with_reducible exact LeO.none _)
      | (with_reducible refine LeO.ite ?_ ?_)
      | (with_reducible refine LeO.bind ?_ (fun _ => ?_))
      | exact ih0 _ _ _ _ _ _
      | exact ih1 _ _ _ _ _ _ _ _
      | exact spec_l02Make.mono _ _ _
      | exact LeO.none _
      | refine LeO.ite ?_ ?_
      | refine LeO.bind ?_ (fun _ => ?_)
theorem spec_l02Mul.mono : ∀ a0 a1 a2 a3 k, LeO (spec_l02Mul.f k a0 a1 a2 a3) (spec_l02Mul.f (k + 1) a0 a1 a2 a3) := by
  intro a0 a1 a2 a3 k
  obtain ⟨ih0, ih1⟩ := spec_l02Mul.mono_l k
  unfold spec_l02Mul.f
  repeat' first
      | (with_reducible exact ih0 _ _ _ _ _ _)
      | (with_reducible exact ih1 _ _ _ _ _ _ _ _)
      | (with_reducible exact spec_l02Make.mono _ _ _)
      | (with_reducible exact LeO.refl _)
      | (with_reducible exact LeO.none _)
      | (with_reducible refine LeO.ite ?_ ?_)
      | (with_reducible refine LeO.bind ?_ (fun _ => ?_))
      | exact ih0 _ _ _ _ _ _
      | exact ih1 _ _ _ _ _ _ _ _
      | exact spec_l02Make.mono _ _ _
      | exact LeO.none _
      | refine LeO.ite ?_ ?_
      | refine LeO.bind ?_ (fun _ => ?_)
set_option maxHeartbeats 8000000 in
set_option maxRecDepth 100000 in
theorem spec_l02Mul.calls (k : Nat) (a0_0 : Int) (A0_1 : Option Addr) (c0_1 : Nat) (l0_1 : List Int) (a1_0 : Int) (A1_1 : Option Addr) (c1_1 : Nat) (l1_1 : List Int) (r1 : Int) (r2 : List Int) (w : World) (hr0_1 : Kd.C (Kd.int .i64) w A0_1 l0_1.length l0_1) (hc0_1 : l0_1.length ≤ c0_1) (hr1_1 : Kd.C (Kd.int .i64) w A1_1 l1_1.length l1_1) (hc1_1 : l1_1.length ≤ c1_1) (h : spec_l02Mul.f k a0_0 l0_1 a1_0 l1_1 = some (r1, r2)) :
  Calls Tryd.prog 119 #[.agg #[.int .i64 a0_0, .slice A0_1 l0_1.length c0_1], .agg #[.int .i64 a1_0, .slice A1_1 l1_1.length c1_1]] w fun e w' => ∃ v1_ : Value, e = .returned (.agg #[.int .i64 r1, v1_]) ∧ Kd.R (Kd.int .i64) 2 w' w.heap.size (fun _ => True) v1_ r2 ∧ Below w.heap.size w w' := by
 have hu26 := Tryd.underlying26; have HR0_1 := Aside0.mk hr0_1; have HC0_1 := Aside0.mk hc0_1; clear hr0_1 hc0_1; have HR1_1 := Aside0.mk hr1_1; have HC1_1 := Aside0.mk hc1_1; clear hr1_1 hc1_1; have HB := am_ (Below.refl w.heap.size w)
 have H : (if 0 ≤ (wrap64 ((wrap64 ((l0_1.length : Int) + (l1_1.length : Int))) + 1)) then (if (wrap64 ((wrap64 ((l0_1.length : Int) + (l1_1.length : Int))) + 1) : Int).toNat ≤ 35184372088832 then (spec_l02Mul.l0 k (List.replicate (wrap64 ((wrap64 ((l0_1.length : Int) + (l1_1.length : Int))) + 1) : Int).toNat 0) 0 a0_0 l0_1 a1_0 l1_1) else (none)) else (none)) = some (r1, r2) := h
 clear h
 obtain ⟨ji3, hji3⟩ : ∃ j_ : Int, (wrap64 ((wrap64 ((l0_1.length : Int) + (l1_1.length : Int))) + 1)) = j_ := ⟨_, rfl⟩
 replace H : (if 0 ≤ (ji3) then (if (ji3 : Int).toNat ≤ 35184372088832 then (spec_l02Mul.l0 k (List.replicate (ji3 : Int).toNat 0) 0 a0_0 l0_1 a1_0 l1_1) else (none)) else (none)) = some (r1, r2) := by first | (rw [hji3] at H; exact H) | (simp only [hji3] at H ⊢; exact H)
 have hji3w : (IntKind.i64.wrap ((wrap64 ((l0_1.length : Int) + (l1_1.length : Int))) + 1)) = ji3 := (i64_w _).trans hji3
 by_cases c4 : 0 ≤ (ji3)
 ·rw [if_pos c4] at H
  have c4b0 := eq_true c4
  have c4b1 : decide (0 ≤ (ji3)) = true := decide_eq_true c4
  clear c4
  by_cases c5 : (ji3 : Int).toNat ≤ 35184372088832
  ·rw [if_pos c5] at H
   have c5b0 := eq_true c5
   have c5b1 : decide ((ji3 : Int).toNat ≤ 35184372088832) = true := decide_eq_true c5
   clear c5
   obtain ⟨y329, hy329⟩ : ∃ y_ : List Int, y_ = (List.replicate (ji3 : Int).toNat 0) := ⟨_, rfl⟩
   replace H : (spec_l02Mul.l0 k y329 0 a0_0 l0_1 a1_0 l1_1) = some (r1, r2) := by first | (rw [hy329]; with_reducible exact H) | (have H2_ := (Option.bind_some _ _).symm.trans H; rw [hy329]; with_reducible exact H2_) | (have H2_ := (Option.bind_some _ _).symm.trans H; with_reducible exact H2_) | with_reducible exact H | (rw [hy329]; exact H) | exact H
   have Ny329 := Aside0.mk hy329; clear hy329
   have H' := Aside0.mk H
   clear H
   go_enter Tryd.func119, Tryd.ntmps119
   go_wp2_with (first | ((with_reducible refine gate_dst (N := 2) rfl ?_); refine bx_ 2 #[.int .i64 a0_0, .slice A0_1 l0_1.length c0_1] 26 ?_; intro gb326 hg w6 hbox hb; obtain ⟨BK326, GW326, GE326⟩ := nb_ hbox hg HB; replace HB := bs_ HB hb; clear hb hbox hg) | ((with_reducible refine gate_dst (N := 3) rfl ?_); refine bx_ 3 #[.int .i64 a1_0, .slice A1_1 l1_1.length c1_1] 26 ?_; intro gb327 hg w7 hbox hb; obtain ⟨BK327, GW327, GE327⟩ := nb_ hbox hg HB; obtain ⟨NB326_327, NB327_326⟩ := nn_ hg BK326; replace BK326 := bb_ BK326 hb; replace HB := bs_ HB hb; clear hb hbox hg) | ((with_reducible refine gate_dst (N := 4) rfl ?_); refine bx_ 4 #[.int .i64 0, .slice none 0 0] 26 ?_; intro gb328 hg w8 hbox hb; obtain ⟨BK328, GW328, GE328⟩ := nb_ hbox hg HB; obtain ⟨NB326_328, NB328_326⟩ := nn_ hg BK326; obtain ⟨NB327_328, NB328_327⟩ := nn_ hg BK327; replace BK326 := bb_ BK326 hb; replace BK327 := bb_ BK327 hb; replace HB := bs_ HB hb; clear hb hbox hg; have hnb9 := NB326_327.out; have hnc9 := NB327_326.out; have hnb10 := NB326_328.out; have hnc10 := NB328_326.out; obtain ⟨hcz11_0, hcz11_1, hfz11_0, hfz11_1⟩ := ck2_ BK326; have hnb12 := NB327_328.out; have hnc12 := NB328_327.out; obtain ⟨hcz13_0, hcz13_1, hfz13_0, hfz13_1⟩ := ck2_ BK327) | ((with_reducible refine gate_dst (N := 17) rfl ?_); refine Kd.R_make (Kd.int .i64) _ 2 rfl (N := 17) rfl 22 _ _ rfl ji3 rfl rfl Tryd.underlying22 (.int .i64 0) 8 info2 rfl (by decide) (by omega) 0 (ok := fun _ => True) (okp := fun _ => True) rfl (fun _ hk => hk) trivial (of_decide_eq_true (by first | (with_reducible assumption) | assumption)) (Nat.le_trans (Nat.mul_le_mul_right _ (of_decide_eq_true (by first | (with_reducible assumption) | assumption) : ji3.toNat ≤ 35184372088832)) (by omega)) (Below.refl _ _) (Nat.le_refl _) ?_; intro v330 w14 ho15 hb hg_ hnew_; clear hg_ hnew_; (first | rw [← Ny329.out] at ho15 | (simp only [Int.reduceToNat] at ho15; rw [← Ny329.out] at ho15)); have HO331 := am_ (Kd.R_lower ho15 (below_size (bl_ HB))); replace BK326 := bb_ BK326 hb; replace BK327 := bb_ BK327 hb; replace BK328 := bb_ BK328 hb; replace HB := bs_ HB hb; clear hb ho15))
   repeat (go_quiet (first | ((with_reducible refine gate_dst (N := 2) rfl ?_); refine bx_ 2 #[.int .i64 a0_0, .slice A0_1 l0_1.length c0_1] 26 ?_; intro gb326 hg w6 hbox hb; obtain ⟨BK326, GW326, GE326⟩ := nb_ hbox hg HB; replace HB := bs_ HB hb; clear hb hbox hg) | ((with_reducible refine gate_dst (N := 3) rfl ?_); refine bx_ 3 #[.int .i64 a1_0, .slice A1_1 l1_1.length c1_1] 26 ?_; intro gb327 hg w7 hbox hb; obtain ⟨BK327, GW327, GE327⟩ := nb_ hbox hg HB; obtain ⟨NB326_327, NB327_326⟩ := nn_ hg BK326; replace BK326 := bb_ BK326 hb; replace HB := bs_ HB hb; clear hb hbox hg) | ((with_reducible refine gate_dst (N := 4) rfl ?_); refine bx_ 4 #[.int .i64 0, .slice none 0 0] 26 ?_; intro gb328 hg w8 hbox hb; obtain ⟨BK328, GW328, GE328⟩ := nb_ hbox hg HB; obtain ⟨NB326_328, NB328_326⟩ := nn_ hg BK326; obtain ⟨NB327_328, NB328_327⟩ := nn_ hg BK327; replace BK326 := bb_ BK326 hb; replace BK327 := bb_ BK327 hb; replace HB := bs_ HB hb; clear hb hbox hg; have hnb9 := NB326_327.out; have hnc9 := NB327_326.out; have hnb10 := NB326_328.out; have hnc10 := NB328_326.out; obtain ⟨hcz11_0, hcz11_1, hfz11_0, hfz11_1⟩ := ck2_ BK326; have hnb12 := NB327_328.out; have hnc12 := NB328_327.out; obtain ⟨hcz13_0, hcz13_1, hfz13_0, hfz13_1⟩ := ck2_ BK327) | ((with_reducible refine gate_dst (N := 17) rfl ?_); refine Kd.R_make (Kd.int .i64) _ 2 rfl (N := 17) rfl 22 _ _ rfl ji3 rfl rfl Tryd.underlying22 (.int .i64 0) 8 info2 rfl (by decide) (by omega) 0 (ok := fun _ => True) (okp := fun _ => True) rfl (fun _ hk => hk) trivial (of_decide_eq_true (by first | (with_reducible assumption) | assumption)) (Nat.le_trans (Nat.mul_le_mul_right _ (of_decide_eq_true (by first | (with_reducible assumption) | assumption) : ji3.toNat ≤ 35184372088832)) (by omega)) (Below.refl _ _) (Nat.le_refl _) ?_; intro v330 w14 ho15 hb hg_ hnew_; clear hg_ hnew_; (first | rw [← Ny329.out] at ho15 | (simp only [Int.reduceToNat] at ho15; rw [← Ny329.out] at ho15)); have HO331 := am_ (Kd.R_lower ho15 (below_size (bl_ HB))); replace BK326 := bb_ BK326 hb; replace BK327 := bb_ BK327 hb; replace BK328 := bb_ BK328 hb; replace HB := bs_ HB hb; clear hb ho15)); try go_wp2_with (first | ((with_reducible refine gate_dst (N := 2) rfl ?_); refine bx_ 2 #[.int .i64 a0_0, .slice A0_1 l0_1.length c0_1] 26 ?_; intro gb326 hg w6 hbox hb; obtain ⟨BK326, GW326, GE326⟩ := nb_ hbox hg HB; replace HB := bs_ HB hb; clear hb hbox hg) | ((with_reducible refine gate_dst (N := 3) rfl ?_); refine bx_ 3 #[.int .i64 a1_0, .slice A1_1 l1_1.length c1_1] 26 ?_; intro gb327 hg w7 hbox hb; obtain ⟨BK327, GW327, GE327⟩ := nb_ hbox hg HB; obtain ⟨NB326_327, NB327_326⟩ := nn_ hg BK326; replace BK326 := bb_ BK326 hb; replace HB := bs_ HB hb; clear hb hbox hg) | ((with_reducible refine gate_dst (N := 4) rfl ?_); refine bx_ 4 #[.int .i64 0, .slice none 0 0] 26 ?_; intro gb328 hg w8 hbox hb; obtain ⟨BK328, GW328, GE328⟩ := nb_ hbox hg HB; obtain ⟨NB326_328, NB328_326⟩ := nn_ hg BK326; obtain ⟨NB327_328, NB328_327⟩ := nn_ hg BK327; replace BK326 := bb_ BK326 hb; replace BK327 := bb_ BK327 hb; replace HB := bs_ HB hb; clear hb hbox hg; have hnb9 := NB326_327.out; have hnc9 := NB327_326.out; have hnb10 := NB326_328.out; have hnc10 := NB328_326.out; obtain ⟨hcz11_0, hcz11_1, hfz11_0, hfz11_1⟩ := ck2_ BK326; have hnb12 := NB327_328.out; have hnc12 := NB328_327.out; obtain ⟨hcz13_0, hcz13_1, hfz13_0, hfz13_1⟩ := ck2_ BK327) | ((with_reducible refine gate_dst (N := 17) rfl ?_); refine Kd.R_make (Kd.int .i64) _ 2 rfl (N := 17) rfl 22 _ _ rfl ji3 rfl rfl Tryd.underlying22 (.int .i64 0) 8 info2 rfl (by decide) (by omega) 0 (ok := fun _ => True) (okp := fun _ => True) rfl (fun _ hk => hk) trivial (of_decide_eq_true (by first | (with_reducible assumption) | assumption)) (Nat.le_trans (Nat.mul_le_mul_right _ (of_decide_eq_true (by first | (with_reducible assumption) | assumption) : ji3.toNat ≤ 35184372088832)) (by omega)) (Below.refl _ _) (Nat.le_refl _) ?_; intro v330 w14 ho15 hb hg_ hnew_; clear hg_ hnew_; (first | rw [← Ny329.out] at ho15 | (simp only [Int.reduceToNat] at ho15; rw [← Ny329.out] at ho15)); have HO331 := am_ (Kd.R_lower ho15 (below_size (bl_ HB))); replace BK326 := bb_ BK326 hb; replace BK327 := bb_ BK327 hb; replace BK328 := bb_ BK328 hb; replace HB := bs_ HB hb; clear hb ho15)))
   go_loopg [6] k (fun kq v6 w' => ∃ (x5_1 : List Int) (x6_1 : Int), v6 = .int .i64 x6_1 ∧ Aside0 (spec_l02Mul.l0 kq x5_1 x6_1 a0_0 l0_1 a1_0 l1_1 = some (r1, r2)) ∧ Aside0 (kq ≤ k) ∧ Aside0 (Kd.R (Kd.int .i64) 2 w' w.heap.size (fun _ => True) v330 x5_1) ∧ Aside0 (w'.heap[gb326]? = some (.cells #[.int .i64 a0_0, (.slice A0_1 l0_1.length c0_1)] 26 (0, 0))) ∧ Aside0 (w'.heap[gb327]? = some (.cells #[.int .i64 a1_0, (.slice A1_1 l1_1.length c1_1)] 26 (0, 0))) ∧ Aside0 (w'.heap[gb328]? = some (.cells #[.int .i64 0, (.slice none 0 0)] 26 (0, 0))) ∧ Aside0 (Below w.heap.size w w'))
   case atStart => exact ⟨(y329), (0), (by first | rfl | (simp; done) | (simp [*]; done)), H', ⟨Nat.le_refl _⟩, ⟨kr_ HO331⟩, ⟨bk_ BK326⟩, ⟨bk_ BK327⟩, ⟨bk_ BK328⟩, ⟨bl_ HB⟩⟩
   case round =>
    clear H'; try clear c1; try clear p2; try clear c4; try clear c4b0; try clear c4b1; try clear c5; try clear c5b0; try clear c5b1; try clear p6; try clear c9; try clear c10; try clear c11; try clear c12; try clear hcz11_0; try clear hcz11_1; try clear hcz13_0; try clear hcz13_1; try clear hfz11_0; try clear hfz11_1; try clear hfz13_0; try clear hfz13_1
    obtain ⟨x5_1, x6_1, rfl, HA, HK1, HO_5, BK326, BK327, BK328, HB⟩ := hrel
    cases gk with
    | zero => exact absurd HA.out (by simp [spec_l02Mul.l0])
    | succ k1 =>
     have H := HA.out; clear HA
     simp only [spec_l02Mul.l0] at H
     by_cases c16 : x6_1 < (l0_1.length : Int)
     ·rw [if_pos c16] at H
      have c16b0 : decide (x6_1 < (l0_1.length : Int)) = true := decide_eq_true c16
      clear c16
      have H' := Aside0.mk H
      clear H; have hnb17 := NB326_327.out; have hnc17 := NB327_326.out; have hnb18 := NB326_328.out; have hnc18 := NB328_326.out
      obtain ⟨hcz19_0, hcz19_1, hfz19_0, hfz19_1⟩ := ck2_ BK326
      go_wp2
      repeat (go_quiet (fail); try go_wp2)
      go_loopg [7, 8] k1 (fun kq v7 v8 w' => ∃ (x5_2 : List Int) (x7_2 : Int) (x8_2 : Int), v7 = .int .i64 x7_2 ∧ v8 = .int .i64 x8_2 ∧ Aside0 (spec_l02Mul.l1 kq x5_2 x6_1 x7_2 x8_2 a0_0 l0_1 a1_0 l1_1 = some (r1, r2)) ∧ Aside0 (kq ≤ k1) ∧ Aside0 (Kd.R (Kd.int .i64) 2 w' w.heap.size (fun _ => True) v330 x5_2) ∧ Aside0 (w'.heap[gb326]? = some (.cells #[.int .i64 a0_0, (.slice A0_1 l0_1.length c0_1)] 26 (0, 0))) ∧ Aside0 (w'.heap[gb327]? = some (.cells #[.int .i64 a1_0, (.slice A1_1 l1_1.length c1_1)] 26 (0, 0))) ∧ Aside0 (w'.heap[gb328]? = some (.cells #[.int .i64 0, (.slice none 0 0)] 26 (0, 0))) ∧ Aside0 (Below w.heap.size w w'))
      case atStart => exact ⟨(x5_1), (0), (0), (by first | rfl | (simp; done) | (simp [*]; done)), (by first | rfl | (simp; done) | (simp [*]; done)), H', ⟨Nat.le_refl _⟩, ⟨kr_ HO_5⟩, ⟨bk_ BK326⟩, ⟨bk_ BK327⟩, ⟨bk_ BK328⟩, ⟨bl_ HB⟩⟩
      case round =>
       clear H'; try clear c1; try clear p2; try clear c4; try clear c4b0; try clear c4b1; try clear c5; try clear c5b0; try clear c5b1; try clear p6; try clear c9; try clear c10; try clear c11; try clear c12; try clear c16; try clear c16b0; try clear c17; try clear c18; try clear hcz11_0; try clear hcz11_1; try clear hcz13_0; try clear hcz13_1; try clear hcz19_0; try clear hcz19_1; try clear hfz11_0; try clear hfz11_1; try clear hfz13_0; try clear hfz13_1; try clear hfz19_0; try clear hfz19_1; try clear p2; try clear p6
       obtain ⟨x5_2, x7_2, x8_2, rfl, rfl, HA, HK2, HO_5, BK326, BK327, BK328, HB⟩ := hrel
       cases gk with
       | zero => exact absurd HA.out (by simp [spec_l02Mul.l1])
       | succ k2 =>
        have H := HA.out; clear HA
        simp only [spec_l02Mul.l1] at H
        by_cases c20 : x8_2 < (l1_1.length : Int)
        ·rw [if_pos c20] at H
         have c20b0 : decide (x8_2 < (l1_1.length : Int)) = true := decide_eq_true c20
         clear c20
         obtain ⟨ji21, hji21⟩ : ∃ j_ : Int, (wrap64 (x6_1 + x8_2)) = j_ := ⟨_, rfl⟩
         replace H : (if 0 ≤ (ji21) then (if (ji21) < (x5_2.length : Int) then (if 0 ≤ x6_1 then (if x6_1 < (l0_1.length : Int) then (if 0 ≤ x8_2 then (spec_l02Mul.l1 k2 (x5_2.set ((ji21) : Int).toNat (Int.tmod (wrap64 ((wrap64 (x7_2 + (rd x5_2 (ji21)))) + (wrap64 ((rd l0_1 x6_1) * (rd l1_1 x8_2))))) 16777216)) x6_1 (wrap64 (Int.tdiv (wrap64 ((wrap64 (x7_2 + (rd x5_2 (ji21)))) + (wrap64 ((rd l0_1 x6_1) * (rd l1_1 x8_2))))) 16777216)) (wrap64 (x8_2 + 1)) a0_0 l0_1 a1_0 l1_1) else (none)) else (none)) else (none)) else (none)) else (none)) = some (r1, r2) := by first | (rw [hji21] at H; exact H) | (simp only [hji21] at H ⊢; exact H)
         have hji21w : (IntKind.i64.wrap (x6_1 + x8_2)) = ji21 := (i64_w _).trans hji21
         by_cases c22 : 0 ≤ (ji21)
         ·rw [if_pos c22] at H
          have c22b0 : decide (0 ≤ (ji21)) = true := decide_eq_true c22
          clear c22
          by_cases c23 : (ji21) < (x5_2.length : Int)
          ·rw [if_pos c23] at H
           have c23b0 : decide ((ji21) < (x5_2.length : Int)) = true := decide_eq_true c23
           clear c23
           by_cases c24 : 0 ≤ x6_1
           ·rw [if_pos c24] at H
            have c24b0 : decide (0 ≤ x6_1) = true := decide_eq_true c24
            clear c24
            by_cases c25 : x6_1 < (l0_1.length : Int)
            ·rw [if_pos c25] at H
             have c25b0 : decide (x6_1 < (l0_1.length : Int)) = true := decide_eq_true c25
             clear c25
             by_cases c26 : 0 ≤ x8_2
             ·rw [if_pos c26] at H
              have c26b0 : decide (0 ≤ x8_2) = true := decide_eq_true c26
              clear c26
              obtain ⟨y339, hy339⟩ : ∃ y_ : List Int, y_ = (x5_2.set ((ji21) : Int).toNat (Int.tmod (wrap64 ((wrap64 (x7_2 + (rd x5_2 (ji21)))) + (wrap64 ((rd l0_1 x6_1) * (rd l1_1 x8_2))))) 16777216)) := ⟨_, rfl⟩
              replace H : (spec_l02Mul.l1 k2 y339 x6_1 (wrap64 (Int.tdiv (wrap64 ((wrap64 (x7_2 + (rd x5_2 (ji21)))) + (wrap64 ((rd l0_1 x6_1) * (rd l1_1 x8_2))))) 16777216)) (wrap64 (x8_2 + 1)) a0_0 l0_1 a1_0 l1_1) = some (r1, r2) := by first | (rw [hy339]; with_reducible exact H) | (have H2_ := (Option.bind_some _ _).symm.trans H; rw [hy339]; with_reducible exact H2_) | (have H2_ := (Option.bind_some _ _).symm.trans H; with_reducible exact H2_) | with_reducible exact H | (rw [hy339]; exact H) | exact H
              have Ny339 := Aside0.mk hy339; clear hy339
              have H' := Aside0.mk H
              clear H; have hnb28 := NB327_326.out; have hnc28 := NB326_327.out; have hnb29 := NB327_328.out; have hnc29 := NB328_327.out
              obtain ⟨hcz30_0, hcz30_1, hfz30_0, hfz30_1⟩ := ck2_ BK327
              obtain ⟨Ao31, co31, eo31⟩ := Kd.R_slice HO_5.out
              subst eo31
              have p336 : 0 ≤ ((ji21) : Int) := of_decide_eq_true (by first | (with_reducible assumption) | assumption)
              have q336 : (ji21) < (x5_2.length : Int) := of_decide_eq_true (by first | (with_reducible assumption) | assumption)
              obtain ⟨ad336, e336, hx336_0⟩ := Kd.at_int (Kd.R_reads' HO_5.out).2.2 (ji21) p336 q336
              cases e336
              replace p336 := eq_true p336
              replace q336 := eq_true q336
              have hnb32 := NB326_328.out; have hnc32 := NB328_326.out
              obtain ⟨hcz33_0, hcz33_1, hfz33_0, hfz33_1⟩ := ck2_ BK326
              have p337 : 0 ≤ (x6_1 : Int) := of_decide_eq_true (by first | (with_reducible assumption) | assumption)
              have q337 : x6_1 < (l0_1.length : Int) := of_decide_eq_true (by first | (with_reducible assumption) | assumption)
              obtain ⟨ad337, e337, hx337_0⟩ := Kd.at_int HR0_1.out x6_1 p337 q337
              cases e337
              replace hx337_0 := (HB.out.cell (World.block_lt_of_cell? w _ hx337_0)).trans hx337_0
              replace p337 := eq_true p337
              replace q337 := eq_true q337
              have p338 : 0 ≤ (x8_2 : Int) := of_decide_eq_true (by first | (with_reducible assumption) | assumption)
              have q338 : x8_2 < (l1_1.length : Int) := of_decide_eq_true (by first | (with_reducible assumption) | assumption)
              obtain ⟨ad338, e338, hx338_0⟩ := Kd.at_int HR1_1.out x8_2 p338 q338
              cases e338
              replace hx338_0 := (HB.out.cell (World.block_lt_of_cell? w _ hx338_0)).trans hx338_0
              replace p338 := eq_true p338
              replace q338 := eq_true q338
              have p27 : 0 ≤ ((ji21) : Int) := of_decide_eq_true (by first | (with_reducible assumption) | assumption)
              have q27 : ((ji21) : Int) < ((x5_2.length : Int) : Int) := of_decide_eq_true (by first | (with_reducible assumption) | assumption)
              obtain ⟨go27, co27, eo27, gb27, gl27, cl27, HG27⟩ := Kd.R_form HO_5.out (by omega)
              (first | cases eo27 | (injection eo27 with ea_ en_ ec_; (first | subst ea_ | (injection ea_ with ea_; subst ea_)); subst ec_; clear en_))
              have GB27 := Aside0.mk gb27; have GG27 := Aside0.mk HG27; clear gb27 gl27 HG27
              (first | simp only [add_plain] at hx336_0 | skip)
              obtain ⟨hx27_0, hf27_0⟩ := Kd.R_celln 0 HO_5.out ((ji21) : Int) p27 q27
              replace p27 := eq_true p27
              replace q27 := eq_true q27
              have HP34 := Kd.R_putg HO_5.out ((ji21) : Int) (Int.tmod (wrap64 ((wrap64 (x7_2 + (rd x5_2 (ji21)))) + (wrap64 ((rd l0_1 x6_1) * (rd l1_1 x8_2))))) 16777216)
              go_wp2_with (first | ((with_reducible refine gate_store (t := 2) (p := 58) rfl ?_); (try (rw [drewN_self wr]; generalize hq_ : World.drewN wr _ = wr; have n0_ := am_ (Kd.R_at hq_ HO_5.out); have n1_ := am_ (blk_at hq_ BK326.out); have n2_ := am_ (blk_at hq_ BK327.out); have n3_ := am_ (blk_at hq_ BK328.out); have n4_ := am_ (below_at hq_ HB.out); clear hq_ HO_5 BK326 BK327 BK328 HB; have HO_5 := n0_; have BK326 := n1_; have BK327 := n2_; have BK328 := n3_; have HB := n4_; clear n0_ n1_ n2_ n3_ n4_; (try (have HP34 := Kd.R_putg HO_5.out ((ji21) : Int) (Int.tmod (wrap64 ((wrap64 (x7_2 + (rd x5_2 (ji21)))) + (wrap64 ((rd l0_1 x6_1) * (rd l1_1 x8_2))))) 16777216))); (try (obtain ⟨hx27_0, hf27_0⟩ := Kd.R_celln 0 HO_5.out ((ji21) : Int) (of_eq_true p27) (of_eq_true q27))))); refine store_event (t := 2) (p := 58) (v := ?vo_w35) (w1 := (wr.setCell ⟨go27, ((ji21) : Int).toNat, none⟩ (.int .i64 (Int.tmod (wrap64 ((wrap64 (x7_2 + (rd x5_2 (ji21)))) + (wrap64 ((rd l0_1 x6_1) * (rd l1_1 x8_2))))) 16777216)))) ?hg ?ho ?hn ?hr ?_; (case ho => rfl); (case hg => rfl); (case hn => rfl); (case hr => first | (go_simp; done) | (go_simp; rfl)); intro w35 hw; have hg : wr.grownBy w35 (some go27) := (by rw [hw]; exact HP34.2); have hp_ : Kd.R (Kd.int .i64) 2 w35 w.heap.size (fun _ => True) (.slice (some ⟨go27, 0, none⟩) x5_2.length co31) y339 := (by rw [hw, Ny339.out]; exact HP34.1); clear HP34; have n0_ := am_ (hp_); have n1_ := am_ (blk_grown (g := gb326) (o := .cells #[.int .i64 a0_0, .slice (some ad337) l0_1.length c0_1] 26 (0, 0)) (bk_ BK326) hg (Kd.R_ne HO_5.out BK326.out (by decide))); have n2_ := am_ (blk_grown (g := gb327) (o := .cells #[.int .i64 a1_0, .slice (some ad338) l1_1.length c1_1] 26 (0, 0)) (bk_ BK327) hg (Kd.R_ne HO_5.out BK327.out (by decide))); have n3_ := am_ (blk_grown (g := gb328) (o := .cells #[.int .i64 0, .slice none 0 0] 26 (0, 0)) (bk_ BK328) hg (Kd.R_ne HO_5.out BK328.out (by decide))); have n4_ := am_ ((by rw [hw]; exact below_set (HB.out) GB27.out : Below w.heap.size w w35)); clear HO_5; clear BK326; clear BK327; clear BK328; clear HB; have HO_5 := n0_; have BK326 := n1_; have BK327 := n2_; have BK328 := n3_; have HB := n4_; clear n0_ n1_ n2_ n3_ n4_; clear hg hw hp_))
              repeat (go_quiet (first | ((with_reducible refine gate_store (t := 2) (p := 58) rfl ?_); (try (rw [drewN_self wr]; generalize hq_ : World.drewN wr _ = wr; have n0_ := am_ (Kd.R_at hq_ HO_5.out); have n1_ := am_ (blk_at hq_ BK326.out); have n2_ := am_ (blk_at hq_ BK327.out); have n3_ := am_ (blk_at hq_ BK328.out); have n4_ := am_ (below_at hq_ HB.out); clear hq_ HO_5 BK326 BK327 BK328 HB; have HO_5 := n0_; have BK326 := n1_; have BK327 := n2_; have BK328 := n3_; have HB := n4_; clear n0_ n1_ n2_ n3_ n4_; (try (have HP34 := Kd.R_putg HO_5.out ((ji21) : Int) (Int.tmod (wrap64 ((wrap64 (x7_2 + (rd x5_2 (ji21)))) + (wrap64 ((rd l0_1 x6_1) * (rd l1_1 x8_2))))) 16777216))); (try (obtain ⟨hx27_0, hf27_0⟩ := Kd.R_celln 0 HO_5.out ((ji21) : Int) (of_eq_true p27) (of_eq_true q27))))); refine store_event (t := 2) (p := 58) (v := ?vo_w35) (w1 := (wr.setCell ⟨go27, ((ji21) : Int).toNat, none⟩ (.int .i64 (Int.tmod (wrap64 ((wrap64 (x7_2 + (rd x5_2 (ji21)))) + (wrap64 ((rd l0_1 x6_1) * (rd l1_1 x8_2))))) 16777216)))) ?hg ?ho ?hn ?hr ?_; (case ho => rfl); (case hg => rfl); (case hn => rfl); (case hr => first | (go_simp; done) | (go_simp; rfl)); intro w35 hw; have hg : wr.grownBy w35 (some go27) := (by rw [hw]; exact HP34.2); have hp_ : Kd.R (Kd.int .i64) 2 w35 w.heap.size (fun _ => True) (.slice (some ⟨go27, 0, none⟩) x5_2.length co31) y339 := (by rw [hw, Ny339.out]; exact HP34.1); clear HP34; have n0_ := am_ (hp_); have n1_ := am_ (blk_grown (g := gb326) (o := .cells #[.int .i64 a0_0, .slice (some ad337) l0_1.length c0_1] 26 (0, 0)) (bk_ BK326) hg (Kd.R_ne HO_5.out BK326.out (by decide))); have n2_ := am_ (blk_grown (g := gb327) (o := .cells #[.int .i64 a1_0, .slice (some ad338) l1_1.length c1_1] 26 (0, 0)) (bk_ BK327) hg (Kd.R_ne HO_5.out BK327.out (by decide))); have n3_ := am_ (blk_grown (g := gb328) (o := .cells #[.int .i64 0, .slice none 0 0] 26 (0, 0)) (bk_ BK328) hg (Kd.R_ne HO_5.out BK328.out (by decide))); have n4_ := am_ ((by rw [hw]; exact below_set (HB.out) GB27.out : Below w.heap.size w w35)); clear HO_5; clear BK326; clear BK327; clear BK328; clear HB; have HO_5 := n0_; have BK326 := n1_; have BK327 := n2_; have BK328 := n3_; have HB := n4_; clear n0_ n1_ n2_ n3_ n4_; clear hg hw hp_)); try go_wp2_with (first | ((with_reducible refine gate_store (t := 2) (p := 58) rfl ?_); (try (rw [drewN_self wr]; generalize hq_ : World.drewN wr _ = wr; have n0_ := am_ (Kd.R_at hq_ HO_5.out); have n1_ := am_ (blk_at hq_ BK326.out); have n2_ := am_ (blk_at hq_ BK327.out); have n3_ := am_ (blk_at hq_ BK328.out); have n4_ := am_ (below_at hq_ HB.out); clear hq_ HO_5 BK326 BK327 BK328 HB; have HO_5 := n0_; have BK326 := n1_; have BK327 := n2_; have BK328 := n3_; have HB := n4_; clear n0_ n1_ n2_ n3_ n4_; (try (have HP34 := Kd.R_putg HO_5.out ((ji21) : Int) (Int.tmod (wrap64 ((wrap64 (x7_2 + (rd x5_2 (ji21)))) + (wrap64 ((rd l0_1 x6_1) * (rd l1_1 x8_2))))) 16777216))); (try (obtain ⟨hx27_0, hf27_0⟩ := Kd.R_celln 0 HO_5.out ((ji21) : Int) (of_eq_true p27) (of_eq_true q27))))); refine store_event (t := 2) (p := 58) (v := ?vo_w35) (w1 := (wr.setCell ⟨go27, ((ji21) : Int).toNat, none⟩ (.int .i64 (Int.tmod (wrap64 ((wrap64 (x7_2 + (rd x5_2 (ji21)))) + (wrap64 ((rd l0_1 x6_1) * (rd l1_1 x8_2))))) 16777216)))) ?hg ?ho ?hn ?hr ?_; (case ho => rfl); (case hg => rfl); (case hn => rfl); (case hr => first | (go_simp; done) | (go_simp; rfl)); intro w35 hw; have hg : wr.grownBy w35 (some go27) := (by rw [hw]; exact HP34.2); have hp_ : Kd.R (Kd.int .i64) 2 w35 w.heap.size (fun _ => True) (.slice (some ⟨go27, 0, none⟩) x5_2.length co31) y339 := (by rw [hw, Ny339.out]; exact HP34.1); clear HP34; have n0_ := am_ (hp_); have n1_ := am_ (blk_grown (g := gb326) (o := .cells #[.int .i64 a0_0, .slice (some ad337) l0_1.length c0_1] 26 (0, 0)) (bk_ BK326) hg (Kd.R_ne HO_5.out BK326.out (by decide))); have n2_ := am_ (blk_grown (g := gb327) (o := .cells #[.int .i64 a1_0, .slice (some ad338) l1_1.length c1_1] 26 (0, 0)) (bk_ BK327) hg (Kd.R_ne HO_5.out BK327.out (by decide))); have n3_ := am_ (blk_grown (g := gb328) (o := .cells #[.int .i64 0, .slice none 0 0] 26 (0, 0)) (bk_ BK328) hg (Kd.R_ne HO_5.out BK328.out (by decide))); have n4_ := am_ ((by rw [hw]; exact below_set (HB.out) GB27.out : Below w.heap.size w w35)); clear HO_5; clear BK326; clear BK327; clear BK328; clear HB; have HO_5 := n0_; have BK326 := n1_; have BK327 := n2_; have BK328 := n3_; have HB := n4_; clear n0_ n1_ n2_ n3_ n4_; clear hg hw hp_)))
              go_roundg k2
              case measure => have := HK1.out; have := HK2.out; omega
              case rel => exact ⟨(y339), (wrap64 (Int.tdiv (wrap64 ((wrap64 (x7_2 + (rd x5_2 (ji21)))) + (wrap64 ((rd l0_1 x6_1) * (rd l1_1 x8_2))))) 16777216)), (wrap64 (x8_2 + 1)), (by first | rfl | (simp; done) | (simp only [← hji21] <;> (first | rfl | simp)) | (simp [*]; done)), (by first | rfl | (simp; done) | (simp [*]; done)), H', ⟨by have := HK1.out; have := HK2.out; omega⟩, ⟨kr_ HO_5⟩, ⟨bk_ BK326⟩, ⟨bk_ BK327⟩, ⟨bk_ BK328⟩, ⟨bl_ HB⟩⟩
             ·rw [if_neg c26] at H
              exact absurd H (by simp)
            ·rw [if_neg c25] at H
             exact absurd H (by simp)
           ·rw [if_neg c24] at H
            exact absurd H (by simp)
          ·rw [if_neg c23] at H
           exact absurd H (by simp)
         ·rw [if_neg c22] at H
          exact absurd H (by simp)
        ·rw [if_neg c20] at H
         have c20b0 : decide (x8_2 < (l1_1.length : Int)) = false := decide_eq_false c20
         clear c20
         obtain ⟨ji36, hji36⟩ : ∃ j_ : Int, (wrap64 (x6_1 + (l1_1.length : Int))) = j_ := ⟨_, rfl⟩
         replace H : (if 0 ≤ (ji36) then (if (ji36) < (x5_2.length : Int) then (spec_l02Mul.l0 k2 (x5_2.set ((ji36) : Int).toNat x7_2) (wrap64 (x6_1 + 1)) a0_0 l0_1 a1_0 l1_1) else (none)) else (none)) = some (r1, r2) := by first | (rw [hji36] at H; exact H) | (simp only [hji36] at H ⊢; exact H)
         have hji36w : (IntKind.i64.wrap (x6_1 + (l1_1.length : Int))) = ji36 := (i64_w _).trans hji36
         by_cases c37 : 0 ≤ (ji36)
         ·rw [if_pos c37] at H
          have c37b0 : decide (0 ≤ (ji36)) = true := decide_eq_true c37
          clear c37
          by_cases c38 : (ji36) < (x5_2.length : Int)
          ·rw [if_pos c38] at H
           have c38b0 : decide ((ji36) < (x5_2.length : Int)) = true := decide_eq_true c38
           clear c38
           obtain ⟨y340, hy340⟩ : ∃ y_ : List Int, y_ = (x5_2.set ((ji36) : Int).toNat x7_2) := ⟨_, rfl⟩
           replace H : (spec_l02Mul.l0 k2 y340 (wrap64 (x6_1 + 1)) a0_0 l0_1 a1_0 l1_1) = some (r1, r2) := by first | (rw [hy340]; with_reducible exact H) | (have H2_ := (Option.bind_some _ _).symm.trans H; rw [hy340]; with_reducible exact H2_) | (have H2_ := (Option.bind_some _ _).symm.trans H; with_reducible exact H2_) | with_reducible exact H | (rw [hy340]; exact H) | exact H
           have Ny340 := Aside0.mk hy340; clear hy340
           have H' := Aside0.mk H
           clear H; have hnb40 := NB327_326.out; have hnc40 := NB326_327.out; have hnb41 := NB327_328.out; have hnc41 := NB328_327.out
           obtain ⟨hcz42_0, hcz42_1, hfz42_0, hfz42_1⟩ := ck2_ BK327
           have p39 : 0 ≤ ((ji36) : Int) := of_decide_eq_true (by first | (with_reducible assumption) | assumption)
           have q39 : ((ji36) : Int) < ((x5_2.length : Int) : Int) := of_decide_eq_true (by first | (with_reducible assumption) | assumption)
           obtain ⟨go39, co39, eo39, gb39, gl39, cl39, HG39⟩ := Kd.R_form HO_5.out (by omega)
           (first | cases eo39 | (injection eo39 with ea_ en_ ec_; (first | subst ea_ | (injection ea_ with ea_; subst ea_)); subst ec_; clear en_))
           have GB39 := Aside0.mk gb39; have GG39 := Aside0.mk HG39; clear gb39 gl39 HG39
           obtain ⟨hx39_0, hf39_0⟩ := Kd.R_celln 0 HO_5.out ((ji36) : Int) p39 q39
           replace p39 := eq_true p39
           replace q39 := eq_true q39
           have HP43 := Kd.R_putg HO_5.out ((ji36) : Int) x7_2
           go_wp2_with (first | ((with_reducible refine gate_store (t := 2) (p := 68) rfl ?_); (try (rw [drewN_self wr]; generalize hq_ : World.drewN wr _ = wr; have n0_ := am_ (Kd.R_at hq_ HO_5.out); have n1_ := am_ (blk_at hq_ BK326.out); have n2_ := am_ (blk_at hq_ BK327.out); have n3_ := am_ (blk_at hq_ BK328.out); have n4_ := am_ (below_at hq_ HB.out); clear hq_ HO_5 BK326 BK327 BK328 HB; have HO_5 := n0_; have BK326 := n1_; have BK327 := n2_; have BK328 := n3_; have HB := n4_; clear n0_ n1_ n2_ n3_ n4_; (try (have HP43 := Kd.R_putg HO_5.out ((ji36) : Int) x7_2)); (try (obtain ⟨hx39_0, hf39_0⟩ := Kd.R_celln 0 HO_5.out ((ji36) : Int) (of_eq_true p39) (of_eq_true q39))))); refine store_event (t := 2) (p := 68) (v := ?vo_w44) (w1 := (wr.setCell ⟨go39, ((ji36) : Int).toNat, none⟩ (.int .i64 x7_2))) ?hg ?ho ?hn ?hr ?_; (case ho => rfl); (case hg => rfl); (case hn => rfl); (case hr => first | (go_simp; done) | (go_simp; rfl)); intro w44 hw; have hg : wr.grownBy w44 (some go39) := (by rw [hw]; exact HP43.2); have hp_ : Kd.R (Kd.int .i64) 2 w44 w.heap.size (fun _ => True) (.slice (some ⟨go39, 0, none⟩) x5_2.length co39) y340 := (by rw [hw, Ny340.out]; exact HP43.1); clear HP43; have n0_ := am_ (hp_); have n1_ := am_ (blk_grown (g := gb326) (o := .cells #[.int .i64 a0_0, .slice A0_1 l0_1.length c0_1] 26 (0, 0)) (bk_ BK326) hg (Kd.R_ne HO_5.out BK326.out (by decide))); have n2_ := am_ (blk_grown (g := gb327) (o := .cells #[.int .i64 a1_0, .slice A1_1 l1_1.length c1_1] 26 (0, 0)) (bk_ BK327) hg (Kd.R_ne HO_5.out BK327.out (by decide))); have n3_ := am_ (blk_grown (g := gb328) (o := .cells #[.int .i64 0, .slice none 0 0] 26 (0, 0)) (bk_ BK328) hg (Kd.R_ne HO_5.out BK328.out (by decide))); have n4_ := am_ ((by rw [hw]; exact below_set (HB.out) GB39.out : Below w.heap.size w w44)); clear HO_5; clear BK326; clear BK327; clear BK328; clear HB; have HO_5 := n0_; have BK326 := n1_; have BK327 := n2_; have BK328 := n3_; have HB := n4_; clear n0_ n1_ n2_ n3_ n4_; clear hg hw hp_))
           repeat (go_quiet (first | ((with_reducible refine gate_store (t := 2) (p := 68) rfl ?_); (try (rw [drewN_self wr]; generalize hq_ : World.drewN wr _ = wr; have n0_ := am_ (Kd.R_at hq_ HO_5.out); have n1_ := am_ (blk_at hq_ BK326.out); have n2_ := am_ (blk_at hq_ BK327.out); have n3_ := am_ (blk_at hq_ BK328.out); have n4_ := am_ (below_at hq_ HB.out); clear hq_ HO_5 BK326 BK327 BK328 HB; have HO_5 := n0_; have BK326 := n1_; have BK327 := n2_; have BK328 := n3_; have HB := n4_; clear n0_ n1_ n2_ n3_ n4_; (try (have HP43 := Kd.R_putg HO_5.out ((ji36) : Int) x7_2)); (try (obtain ⟨hx39_0, hf39_0⟩ := Kd.R_celln 0 HO_5.out ((ji36) : Int) (of_eq_true p39) (of_eq_true q39))))); refine store_event (t := 2) (p := 68) (v := ?vo_w44) (w1 := (wr.setCell ⟨go39, ((ji36) : Int).toNat, none⟩ (.int .i64 x7_2))) ?hg ?ho ?hn ?hr ?_; (case ho => rfl); (case hg => rfl); (case hn => rfl); (case hr => first | (go_simp; done) | (go_simp; rfl)); intro w44 hw; have hg : wr.grownBy w44 (some go39) := (by rw [hw]; exact HP43.2); have hp_ : Kd.R (Kd.int .i64) 2 w44 w.heap.size (fun _ => True) (.slice (some ⟨go39, 0, none⟩) x5_2.length co39) y340 := (by rw [hw, Ny340.out]; exact HP43.1); clear HP43; have n0_ := am_ (hp_); have n1_ := am_ (blk_grown (g := gb326) (o := .cells #[.int .i64 a0_0, .slice A0_1 l0_1.length c0_1] 26 (0, 0)) (bk_ BK326) hg (Kd.R_ne HO_5.out BK326.out (by decide))); have n2_ := am_ (blk_grown (g := gb327) (o := .cells #[.int .i64 a1_0, .slice A1_1 l1_1.length c1_1] 26 (0, 0)) (bk_ BK327) hg (Kd.R_ne HO_5.out BK327.out (by decide))); have n3_ := am_ (blk_grown (g := gb328) (o := .cells #[.int .i64 0, .slice none 0 0] 26 (0, 0)) (bk_ BK328) hg (Kd.R_ne HO_5.out BK328.out (by decide))); have n4_ := am_ ((by rw [hw]; exact below_set (HB.out) GB39.out : Below w.heap.size w w44)); clear HO_5; clear BK326; clear BK327; clear BK328; clear HB; have HO_5 := n0_; have BK326 := n1_; have BK327 := n2_; have BK328 := n3_; have HB := n4_; clear n0_ n1_ n2_ n3_ n4_; clear hg hw hp_)); try go_wp2_with (first | ((with_reducible refine gate_store (t := 2) (p := 68) rfl ?_); (try (rw [drewN_self wr]; generalize hq_ : World.drewN wr _ = wr; have n0_ := am_ (Kd.R_at hq_ HO_5.out); have n1_ := am_ (blk_at hq_ BK326.out); have n2_ := am_ (blk_at hq_ BK327.out); have n3_ := am_ (blk_at hq_ BK328.out); have n4_ := am_ (below_at hq_ HB.out); clear hq_ HO_5 BK326 BK327 BK328 HB; have HO_5 := n0_; have BK326 := n1_; have BK327 := n2_; have BK328 := n3_; have HB := n4_; clear n0_ n1_ n2_ n3_ n4_; (try (have HP43 := Kd.R_putg HO_5.out ((ji36) : Int) x7_2)); (try (obtain ⟨hx39_0, hf39_0⟩ := Kd.R_celln 0 HO_5.out ((ji36) : Int) (of_eq_true p39) (of_eq_true q39))))); refine store_event (t := 2) (p := 68) (v := ?vo_w44) (w1 := (wr.setCell ⟨go39, ((ji36) : Int).toNat, none⟩ (.int .i64 x7_2))) ?hg ?ho ?hn ?hr ?_; (case ho => rfl); (case hg => rfl); (case hn => rfl); (case hr => first | (go_simp; done) | (go_simp; rfl)); intro w44 hw; have hg : wr.grownBy w44 (some go39) := (by rw [hw]; exact HP43.2); have hp_ : Kd.R (Kd.int .i64) 2 w44 w.heap.size (fun _ => True) (.slice (some ⟨go39, 0, none⟩) x5_2.length co39) y340 := (by rw [hw, Ny340.out]; exact HP43.1); clear HP43; have n0_ := am_ (hp_); have n1_ := am_ (blk_grown (g := gb326) (o := .cells #[.int .i64 a0_0, .slice A0_1 l0_1.length c0_1] 26 (0, 0)) (bk_ BK326) hg (Kd.R_ne HO_5.out BK326.out (by decide))); have n2_ := am_ (blk_grown (g := gb327) (o := .cells #[.int .i64 a1_0, .slice A1_1 l1_1.length c1_1] 26 (0, 0)) (bk_ BK327) hg (Kd.R_ne HO_5.out BK327.out (by decide))); have n3_ := am_ (blk_grown (g := gb328) (o := .cells #[.int .i64 0, .slice none 0 0] 26 (0, 0)) (bk_ BK328) hg (Kd.R_ne HO_5.out BK328.out (by decide))); have n4_ := am_ ((by rw [hw]; exact below_set (HB.out) GB39.out : Below w.heap.size w w44)); clear HO_5; clear BK326; clear BK327; clear BK328; clear HB; have HO_5 := n0_; have BK326 := n1_; have BK327 := n2_; have BK328 := n3_; have HB := n4_; clear n0_ n1_ n2_ n3_ n4_; clear hg hw hp_)))
           go_roundg k2
           case measure => have := HK1.out; have := HK2.out; omega
           case rel => exact ⟨(y340), (wrap64 (x6_1 + 1)), (by first | rfl | (simp; done) | (simp [*]; done)), H', ⟨by have := HK1.out; have := HK2.out; omega⟩, ⟨kr_ HO_5⟩, ⟨bk_ BK326⟩, ⟨bk_ BK327⟩, ⟨bk_ BK328⟩, ⟨bl_ HB⟩⟩
          ·rw [if_neg c38] at H
           exact absurd H (by simp)
         ·rw [if_neg c37] at H
          exact absurd H (by simp)
     ·rw [if_neg c16] at H
      have c16b0 : decide (x6_1 < (l0_1.length : Int)) = false := decide_eq_false c16
      clear c16
      replace H := Option.bind_eq_some_iff.mp H
      obtain ⟨⟨t332, t333⟩, A450, H⟩ := H
      replace H : (some (t332, t333)) = some (r1, r2) := H
      have A45 := Aside0.mk A450; clear A450
      simp only [Option.some.injEq, Prod.mk.injEq] at H
      obtain ⟨rfl, rfl⟩ := H
      have hnb46 := NB326_327.out; have hnc46 := NB327_326.out; have hnb47 := NB326_328.out; have hnc47 := NB328_326.out
      obtain ⟨hcz48_0, hcz48_1, hfz48_0, hfz48_1⟩ := ck2_ BK326; have hnb49 := NB327_328.out; have hnc49 := NB328_327.out
      obtain ⟨hcz50_0, hcz50_1, hfz50_0, hfz50_1⟩ := ck2_ BK327
      obtain ⟨Ao51, co51, eo51⟩ := Kd.R_slice HO_5.out
      subst eo51
      go_wp2_with (first | (go_at_call 87; (with_reducible refine (spec_l02Make.calls k1 (wrap64 (a0_0 * a1_0)) _ _ x5_1 t332 t333 _ ?side1 ?side2 A45.out).mono ?_); (case side1 => exact cr_ HO_5); (case side2 => exact (Kd.R_reads' HO_5.out).2.1); rintro e w52 ⟨v334, rfl, ho0, hb⟩; have HO335 := am_ (Kd.R_lower (Kd.R_new' ho0 (Kd.R_lt (kr_ HO_5))) (below_size (bl_ HB))); replace HO_5 := am_ (Kd.R_elder' (kr_ HO_5) (Kd.R_base ho0) hb); replace BK326 := bb_ BK326 hb; replace BK327 := bb_ BK327 hb; replace BK328 := bb_ BK328 hb; replace HB := bs_ HB hb; (try clear hb); (try clear hb2); (try clear hk); (try clear hi); (try clear ho0); obtain ⟨hcz53_0, hcz53_1, hfz53_0, hfz53_1⟩ := ck2_ BK328; obtain ⟨Ao54, co54, eo54⟩ := Kd.R_slice HO335.out; subst eo54))
      repeat (go_quiet (first | (go_at_call 87; (with_reducible refine (spec_l02Make.calls k1 (wrap64 (a0_0 * a1_0)) _ _ x5_1 t332 t333 _ ?side1 ?side2 A45.out).mono ?_); (case side1 => exact cr_ HO_5); (case side2 => exact (Kd.R_reads' HO_5.out).2.1); rintro e w52 ⟨v334, rfl, ho0, hb⟩; have HO335 := am_ (Kd.R_lower (Kd.R_new' ho0 (Kd.R_lt (kr_ HO_5))) (below_size (bl_ HB))); replace HO_5 := am_ (Kd.R_elder' (kr_ HO_5) (Kd.R_base ho0) hb); replace BK326 := bb_ BK326 hb; replace BK327 := bb_ BK327 hb; replace BK328 := bb_ BK328 hb; replace HB := bs_ HB hb; (try clear hb); (try clear hb2); (try clear hk); (try clear hi); (try clear ho0); obtain ⟨hcz53_0, hcz53_1, hfz53_0, hfz53_1⟩ := ck2_ BK328; obtain ⟨Ao54, co54, eo54⟩ := Kd.R_slice HO335.out; subst eo54)); try go_wp2_with (first | (go_at_call 87; (with_reducible refine (spec_l02Make.calls k1 (wrap64 (a0_0 * a1_0)) _ _ x5_1 t332 t333 _ ?side1 ?side2 A45.out).mono ?_); (case side1 => exact cr_ HO_5); (case side2 => exact (Kd.R_reads' HO_5.out).2.1); rintro e w52 ⟨v334, rfl, ho0, hb⟩; have HO335 := am_ (Kd.R_lower (Kd.R_new' ho0 (Kd.R_lt (kr_ HO_5))) (below_size (bl_ HB))); replace HO_5 := am_ (Kd.R_elder' (kr_ HO_5) (Kd.R_base ho0) hb); replace BK326 := bb_ BK326 hb; replace BK327 := bb_ BK327 hb; replace BK328 := bb_ BK328 hb; replace HB := bs_ HB hb; (try clear hb); (try clear hb2); (try clear hk); (try clear hi); (try clear ho0); obtain ⟨hcz53_0, hcz53_1, hfz53_0, hfz53_1⟩ := ck2_ BK328; obtain ⟨Ao54, co54, eo54⟩ := Kd.R_slice HO335.out; subst eo54)))
      refine bodyPost_ret (results_cell_row rfl _ _ gb328 26 #[.int .i64 t332, .slice Ao54 t333.length co54] (0, 0) _ rfl (bp2_ BK328) Tryd.underlying26 rfl (by kernel_rfl)) rfl ?_
      exact ⟨_, by first | rfl | (simp [errW_none, errW_some] <;> rfl) | (simp only [← hji3]; first | rfl | (simp [errW_none, errW_some] <;> rfl)) | (simp [*, errW_none, errW_some] <;> rfl), rt_ HO335 BK328, bl_ HB⟩
  ·rw [if_neg c5] at H
   exact absurd H (by simp)
 ·rw [if_neg c4] at H
  exact absurd H (by simp)
def spec_l02Neg.f (k : Nat) (a0_0 : Int) (l0_1 : List Int) : Option (Int × List Int) := (spec_l02Make.f k (wrap64 (-a0_0)) l0_1).bind fun bt343 => (some (bt343.1, bt343.2))
theorem spec_l02Neg.mono : ∀ a0 a1 k, LeO (spec_l02Neg.f k a0 a1) (spec_l02Neg.f (k + 1) a0 a1) := by
  intro a0 a1 k
  unfold spec_l02Neg.f
  repeat' first
      | (with_reducible exact spec_l02Make.mono _ _ _)
      | (with_reducible exact LeO.refl _)
      | (with_reducible exact LeO.none _)
      | (with_reducible refine LeO.ite ?_ ?_)
      | (with_reducible refine LeO.bind ?_ (fun _ => ?_))
      | exact spec_l02Make.mono _ _ _
      | exact LeO.none _
      | refine LeO.ite ?_ ?_
      | refine LeO.bind ?_ (fun _ => ?_)
set_option maxHeartbeats 8000000 in
set_option maxRecDepth 100000 in
theorem spec_l02Neg.calls (k : Nat) (a0_0 : Int) (A0_1 : Option Addr) (c0_1 : Nat) (l0_1 : List Int) (r1 : Int) (r2 : List Int) (w : World) (hr0_1 : Kd.C (Kd.int .i64) w A0_1 l0_1.length l0_1) (hc0_1 : l0_1.length ≤ c0_1) (h : spec_l02Neg.f k a0_0 l0_1 = some (r1, r2)) :
  Calls Tryd.prog 133 #[.agg #[.int .i64 a0_0, .slice A0_1 l0_1.length c0_1]] w fun e w' => ∃ v1_ : Value, e = .returned (.agg #[.int .i64 r1, v1_]) ∧ Kd.R (Kd.int .i64) 2 w' w.heap.size (fun _ => True) v1_ r2 ∧ Below w.heap.size w w' := by
 have hu26 := Tryd.underlying26; have HR0_1 := Aside0.mk hr0_1; have HC0_1 := Aside0.mk hc0_1; clear hr0_1 hc0_1; have HB := am_ (Below.refl w.heap.size w)
 have H : ((spec_l02Make.f k (wrap64 (-a0_0)) l0_1).bind fun bt343 => (some (bt343.1, bt343.2))) = some (r1, r2) := h
 clear h
 replace H := Option.bind_eq_some_iff.mp H
 obtain ⟨⟨t343, t344⟩, A20, H⟩ := H
 replace H : (some (t343, t344)) = some (r1, r2) := H
 have A2 := Aside0.mk A20; clear A20
 simp only [Option.some.injEq, Prod.mk.injEq] at H
 obtain ⟨rfl, rfl⟩ := H
 go_enter Tryd.func133, Tryd.ntmps133
 go_wp2_with (first | ((with_reducible refine gate_dst (N := 1) rfl ?_); refine bx_ 1 #[.int .i64 a0_0, .slice A0_1 l0_1.length c0_1] 26 ?_; intro gb341 hg w3 hbox hb; obtain ⟨BK341, GW341, GE341⟩ := nb_ hbox hg HB; replace HB := bs_ HB hb; clear hb hbox hg) | ((with_reducible refine gate_dst (N := 2) rfl ?_); refine bx_ 2 #[.int .i64 0, .slice none 0 0] 26 ?_; intro gb342 hg w4 hbox hb; obtain ⟨BK342, GW342, GE342⟩ := nb_ hbox hg HB; obtain ⟨NB341_342, NB342_341⟩ := nn_ hg BK341; replace BK341 := bb_ BK341 hb; replace HB := bs_ HB hb; clear hb hbox hg; have hnb5 := NB341_342.out; have hnc5 := NB342_341.out; obtain ⟨hcz6_0, hcz6_1, hfz6_0, hfz6_1⟩ := ck2_ BK341) | ((with_reducible refine gate_callee (f := 87) rfl ?_); refine goesL_ (some 8) rfl rfl Tryd.func87 (by kernel_rfl) rfl #[.int .i64 (wrap64 (-a0_0)), .slice A0_1 l0_1.length c0_1] rfl ma_ ?_; (with_reducible refine (spec_l02Make.calls k (wrap64 (-a0_0)) _ _ l0_1 t343 t344 _ ?side1 ?side2 A2.out).mono ?_); (case side1 => exact cb_ HR0_1 HB); (case side2 => exact HC0_1.out); rintro e w7 ⟨v345, rfl, ho0, hb⟩; refine ⟨_, rfl, ?_⟩; have HO346 := am_ (Kd.R_lower ho0 (below_size (bl_ HB))); replace BK341 := bb_ BK341 hb; replace BK342 := bb_ BK342 hb; replace HB := bs_ HB hb; (try clear hb); (try clear hb2); (try clear hk); (try clear hi); (try clear ho0); obtain ⟨hcz8_0, hcz8_1, hfz8_0, hfz8_1⟩ := ck2_ BK342; obtain ⟨Ao9, co9, eo9⟩ := Kd.R_slice HO346.out; subst eo9))
 refine bodyPost_ret (results_cell_row rfl _ _ gb342 26 #[.int .i64 t343, .slice Ao9 t344.length co9] (0, 0) _ rfl (bp2_ BK342) Tryd.underlying26 rfl (by kernel_rfl)) rfl ?_
 exact ⟨_, by first | rfl | (simp [errW_none, errW_some] <;> rfl) | (simp [*, errW_none, errW_some] <;> rfl), rt_ HO346 BK342, bl_ HB⟩
def spec_l03Neg.f (k : Nat) (a0_0 : Int) (l0_1 : List Int) (a0_2 : Int) : Option (Int × List Int × Int) := (spec_l02Neg.f k a0_0 l0_1).bind fun bt349 => (some (bt349.1, bt349.2, a0_2))
theorem spec_l03Neg.mono : ∀ a0 a1 a2 k, LeO (spec_l03Neg.f k a0 a1 a2) (spec_l03Neg.f (k + 1) a0 a1 a2) := by
  intro a0 a1 a2 k
  unfold spec_l03Neg.f
  repeat' first
      | (with_reducible exact spec_l02Neg.mono _ _ _)
      | (with_reducible exact LeO.refl _)
      | (with_reducible exact LeO.none _)
      | (with_reducible refine LeO.ite ?_ ?_)
      | (with_reducible refine LeO.bind ?_ (fun _ => ?_))
      | exact spec_l02Neg.mono _ _ _
      | exact LeO.none _
      | refine LeO.ite ?_ ?_
      | refine LeO.bind ?_ (fun _ => ?_)
set_option maxHeartbeats 8000000 in
set_option maxRecDepth 100000 in
theorem spec_l03Neg.calls (k : Nat) (a0_0 : Int) (A0_1 : Option Addr) (c0_1 : Nat) (l0_1 : List Int) (a0_2 : Int) (r1 : Int) (r2 : List Int) (r3 : Int) (w : World) (hr0_1 : Kd.C (Kd.int .i64) w A0_1 l0_1.length l0_1) (hc0_1 : l0_1.length ≤ c0_1) (h : spec_l03Neg.f k a0_0 l0_1 a0_2 = some (r1, r2, r3)) :
  Calls Tryd.prog 136 #[.agg #[.int .i64 a0_0, .slice A0_1 l0_1.length c0_1, .int .i64 a0_2]] w fun e w' => ∃ v1_ : Value, e = .returned (.agg #[.int .i64 r1, v1_, .int .i64 r3]) ∧ Kd.R (Kd.int .i64) 2 w' w.heap.size (fun _ => True) v1_ r2 ∧ Below w.heap.size w w' := by
 have hu45 := Tryd.underlying45; have hu26 := Tryd.underlying26; have HR0_1 := Aside0.mk hr0_1; have HC0_1 := Aside0.mk hc0_1; clear hr0_1 hc0_1; have HB := am_ (Below.refl w.heap.size w)
 have H : ((spec_l02Neg.f k a0_0 l0_1).bind fun bt349 => (some (bt349.1, bt349.2, a0_2))) = some (r1, r2, r3) := h
 clear h
 replace H := Option.bind_eq_some_iff.mp H
 obtain ⟨⟨t349, t350⟩, A20, H⟩ := H
 replace H : (some (t349, t350, a0_2)) = some (r1, r2, r3) := H
 have A2 := Aside0.mk A20; clear A20
 simp only [Option.some.injEq, Prod.mk.injEq] at H
 obtain ⟨rfl, rfl, rfl⟩ := H
 go_enter Tryd.func136, Tryd.ntmps136
 try go_wp2_with (first | ((with_reducible refine gate_dst (N := 1) rfl ?_); refine bx_ 1 #[.int .i64 a0_0, .slice A0_1 l0_1.length c0_1, .int .i64 a0_2] 45 ?_; intro gb347 hg w3 hbox hb; obtain ⟨BK347, GW347, GE347⟩ := nb_ hbox hg HB; replace HB := bs_ HB hb; clear hb hbox hg) | ((with_reducible refine gate_dst (N := 2) rfl ?_); refine bx_ 2 #[.int .i64 0, .slice none 0 0, .int .i64 0] 45 ?_; intro gb348 hg w4 hbox hb; obtain ⟨BK348, GW348, GE348⟩ := nb_ hbox hg HB; obtain ⟨NB347_348, NB348_347⟩ := nn_ hg BK347; replace BK347 := bb_ BK347 hb; replace HB := bs_ HB hb; clear hb hbox hg))
 replace BK347 := am_ (blk_drew BK347.out); replace BK348 := am_ (blk_drew BK348.out); replace HB := am_ (below_drew1 HB.out)
 refine start_ (n := 7) (S := fun w' => w'.cell? ⟨gb347, 0, none⟩ = some (.int .i64 a0_0) ∧ w'.cell? ⟨gb347, 1, none⟩ = some (.slice A0_1 l0_1.length c0_1) ∧ w'.cell? ⟨gb347, 2, none⟩ = some (.int .i64 a0_2)) (ds := []) #[false, false, false, false, false, false, false] (by kernel_rfl) rfl rfl ⟨bc_ BK347 0, bc_ BK347 1, bc_ BK347 2⟩ (fun hHeld => ?_)
 generalize w4.drew = w5 at BK347 BK348 HB hHeld ⊢
 refine pu_ #[true, false, false, false, false, false, false] 0 3 (by kernel_rfl) ?_
 refine pu_ #[true, false, false, true, false, false, false] 3 6 (by kernel_rfl) ?_
 refine tk_ #[true, true, false, true, false, false, false] 1 4 (by kernel_rfl) hHeld ?_
 refine tk_ #[true, true, false, true, true, false, false] 4 7 (by kernel_rfl) hHeld ?_
 refine one_ (i := 2) (N := some 5) #[true, true, true, true, true, false, false] rfl rfl (by kernel_rfl) (by decide) (fun K hK => ?_)
 refine goes_ Tryd.func133 (by kernel_rfl) rfl #[.agg #[.int .i64 a0_0, .slice A0_1 l0_1.length c0_1]] (by rfl) rfl rfl ma_ ?_
 with_reducible refine (spec_l02Neg.calls k a0_0 _ _ l0_1 t349 t350 _ ?side1 ?side2 A2.out).mono ?_
 (case side1 => exact cb_ HR0_1 HB)
 (case side2 => exact HC0_1.out)
 rintro e w6 ⟨v351, rfl, ho0, hb⟩
 refine ⟨_, rfl, ?_⟩
 have HO352 := am_ (Kd.R_lower ho0 (below_size (bl_ HB))); replace BK347 := bb_ BK347 hb; replace BK348 := bb_ BK348 hb; replace HB := bs_ HB hb; (try clear hb); (try clear hb2); (try clear hk); (try clear hi); (try clear ho0)
 obtain ⟨Ao7, co7, eo7⟩ := Kd.R_slice HO352.out
 (first | subst eo7 | (injection eo7 with f1_ f2_ f3_; have f4_ := f1_.symm; have f5_ := f3_.symm; clear f1_ f2_ f3_; subst f4_; subst f5_))
 refine hK.out _ _ ⟨bc_ BK347 0, bc_ BK347 1, bc_ BK347 2⟩ (fun hHeld => ?_)
 clear hK K
 refine nr_ ?_
 refine pu_ #[true, true, true, true, true, true, false] 5 8 (by kernel_rfl) ?_
 refine one_ (i := 6) (N := none) #[true, true, true, true, true, true, true] rfl rfl (by kernel_rfl) (by decide) (fun K hK => ?_)
 have hs8 : w6.cell? ⟨gb348, 0, none⟩ = some (.int .i64 0) := bc_ BK348 0
 have hfs8 := blk_frozen BK348.out 0; have hns8_0 := NB347_348.out; have hms8_0 := NB348_347.out
 have hs9 : w6.cell? ⟨gb348, 1, none⟩ = some (.slice none 0 0) := bc_ BK348 1
 have hfs9 := blk_frozen BK348.out 1; have hns9_0 := NB347_348.out; have hms9_0 := NB348_347.out
 have hs10 : w6.cell? ⟨gb348, 2, none⟩ = some (.int .i64 0) := bc_ BK348 2
 have hfs10 := blk_frozen BK348.out 2; have hns10_0 := NB347_348.out; have hms10_0 := NB348_347.out
 refine skip_ (w1 := ?_) (by rfl) rfl ?_ ?_
 rotate_left
 ·go_simp
  rfl
 refine hK.out _ _ ⟨((cell_far (p := ⟨gb348, _, none⟩) NB347_348.out _).trans (((cell_far (p := ⟨gb348, _, none⟩) NB347_348.out _).trans (((cell_far (p := ⟨gb348, _, none⟩) NB347_348.out _).trans (hHeld.1)))))), ((cell_far (p := ⟨gb348, _, none⟩) NB347_348.out _).trans (((cell_far (p := ⟨gb348, _, none⟩) NB347_348.out _).trans (((cell_far (p := ⟨gb348, _, none⟩) NB347_348.out _).trans (hHeld.2.1)))))), ((cell_far (p := ⟨gb348, _, none⟩) NB347_348.out _).trans (((cell_far (p := ⟨gb348, _, none⟩) NB347_348.out _).trans (((cell_far (p := ⟨gb348, _, none⟩) NB347_348.out _).trans (hHeld.2.2))))))⟩ (fun hHeld => ?_)
 clear hK K
 refine done_ (by kernel_rfl) ?_
 try go_wp2
 refine bodyPost_ret (results_cell_row rfl _ _ gb348 45 #[.int .i64 t349, .slice Ao7 t350.length co7, .int .i64 a0_2] (0, 0) _ rfl (bp3_ BK348) Tryd.underlying45 rfl (by kernel_rfl)) rfl ?_
 exact ⟨_, by first | rfl | (simp [errW_none, errW_some] <;> rfl) | (simp [*, errW_none, errW_some] <;> rfl), ru_ HO352 BK348, bl_ HB⟩
end Go.Proofs.YtghhphndbbefjaaDoor.X
namespace Go.Proofs.YtghhphndbbefjaaDoor.X
open Go.RowKit Go.Proofs.YtghhphndbbefjaaDoorW.PrintWords Go.Proofs.YtghhphndbbefjaaDoorW.PrintLast Go.Proofs.YtghhphndbbefjaaDoorW.PrintMore Go.Proofs.YtghhphndbbefjaaDoor.Sq
attribute [local go_sem] max2_int min2_int max_two min_two max_three min_three max_four min_four   -- for this text's walks alone
set_option linter.unusedVariables false
set_option linter.unusedSimpArgs false
def spec_l02Sub.f (k : Nat) (a0_0 : Int) (l0_1 : List Int) (a1_0 : Int) (l1_1 : List Int) : Option (Int × List Int) := (spec_l02Neg.f k a1_0 l1_1).bind fun bt356 => ((spec_l02Add.f k a0_0 l0_1 bt356.1 bt356.2).bind fun bt360 => (some (bt360.1, bt360.2)))
theorem spec_l02Sub.mono : ∀ a0 a1 a2 a3 k, LeO (spec_l02Sub.f k a0 a1 a2 a3) (spec_l02Sub.f (k + 1) a0 a1 a2 a3) := by
  intro a0 a1 a2 a3 k
  unfold spec_l02Sub.f
  repeat' first
      | (with_reducible exact spec_l02Add.mono _ _ _ _ _)
      | (with_reducible exact spec_l02Neg.mono _ _ _)
      | (with_reducible exact LeO.refl _)
      | (with_reducible exact LeO.none _)
      | (with_reducible refine LeO.ite ?_ ?_)
      | (with_reducible refine LeO.bind ?_ (fun _ => ?_))
      | exact spec_l02Add.mono _ _ _ _ _
      | exact spec_l02Neg.mono _ _ _
      | exact LeO.none _
      | refine LeO.ite ?_ ?_
      | refine LeO.bind ?_ (fun _ => ?_)
set_option maxHeartbeats 8000000 in
set_option maxRecDepth 100000 in
theorem spec_l02Sub.calls (k : Nat) (a0_0 : Int) (A0_1 : Option Addr) (c0_1 : Nat) (l0_1 : List Int) (a1_0 : Int) (A1_1 : Option Addr) (c1_1 : Nat) (l1_1 : List Int) (r1 : Int) (r2 : List Int) (w : World) (hr0_1 : Kd.C (Kd.int .i64) w A0_1 l0_1.length l0_1) (hc0_1 : l0_1.length ≤ c0_1) (hr1_1 : Kd.C (Kd.int .i64) w A1_1 l1_1.length l1_1) (hc1_1 : l1_1.length ≤ c1_1) (h : spec_l02Sub.f k a0_0 l0_1 a1_0 l1_1 = some (r1, r2)) :
  Calls Tryd.prog 114 #[.agg #[.int .i64 a0_0, .slice A0_1 l0_1.length c0_1], .agg #[.int .i64 a1_0, .slice A1_1 l1_1.length c1_1]] w fun e w' => ∃ v1_ : Value, e = .returned (.agg #[.int .i64 r1, v1_]) ∧ Kd.R (Kd.int .i64) 2 w' w.heap.size (fun _ => True) v1_ r2 ∧ Below w.heap.size w w' := by
 have hu26 := Tryd.underlying26; have HR0_1 := Aside0.mk hr0_1; have HC0_1 := Aside0.mk hc0_1; clear hr0_1 hc0_1; have HR1_1 := Aside0.mk hr1_1; have HC1_1 := Aside0.mk hc1_1; clear hr1_1 hc1_1; have HB := am_ (Below.refl w.heap.size w)
 have H : ((spec_l02Neg.f k a1_0 l1_1).bind fun bt356 => ((spec_l02Add.f k a0_0 l0_1 bt356.1 bt356.2).bind fun bt360 => (some (bt360.1, bt360.2)))) = some (r1, r2) := h
 clear h
 replace H := Option.bind_eq_some_iff.mp H
 obtain ⟨⟨t356, t357⟩, A30, H⟩ := H
 replace H : ((spec_l02Add.f k a0_0 l0_1 t356 t357).bind fun bt360 => (some (bt360.1, bt360.2))) = some (r1, r2) := H
 have A3 := Aside0.mk A30; clear A30
 replace H := Option.bind_eq_some_iff.mp H
 obtain ⟨⟨t360, t361⟩, A40, H⟩ := H
 replace H : (some (t360, t361)) = some (r1, r2) := H
 have A4 := Aside0.mk A40; clear A40
 simp only [Option.some.injEq, Prod.mk.injEq] at H
 obtain ⟨rfl, rfl⟩ := H
 go_enter Tryd.func114, Tryd.ntmps114
 try go_wp2_with (first | ((with_reducible refine gate_dst (N := 2) rfl ?_); refine bx_ 2 #[.int .i64 a0_0, .slice A0_1 l0_1.length c0_1] 26 ?_; intro gb353 hg w5 hbox hb; obtain ⟨BK353, GW353, GE353⟩ := nb_ hbox hg HB; replace HB := bs_ HB hb; clear hb hbox hg) | ((with_reducible refine gate_dst (N := 3) rfl ?_); refine bx_ 3 #[.int .i64 a1_0, .slice A1_1 l1_1.length c1_1] 26 ?_; intro gb354 hg w6 hbox hb; obtain ⟨BK354, GW354, GE354⟩ := nb_ hbox hg HB; obtain ⟨NB353_354, NB354_353⟩ := nn_ hg BK353; replace BK353 := bb_ BK353 hb; replace HB := bs_ HB hb; clear hb hbox hg) | ((with_reducible refine gate_dst (N := 4) rfl ?_); refine bx_ 4 #[.int .i64 0, .slice none 0 0] 26 ?_; intro gb355 hg w7 hbox hb; obtain ⟨BK355, GW355, GE355⟩ := nb_ hbox hg HB; obtain ⟨NB353_355, NB355_353⟩ := nn_ hg BK353; obtain ⟨NB354_355, NB355_354⟩ := nn_ hg BK354; replace BK353 := bb_ BK353 hb; replace BK354 := bb_ BK354 hb; replace HB := bs_ HB hb; clear hb hbox hg))
 replace BK353 := am_ (blk_drew BK353.out); replace BK354 := am_ (blk_drew BK354.out); replace BK355 := am_ (blk_drew BK355.out); replace HB := am_ (below_drew1 HB.out)
 refine start_ (n := 5) (S := fun w' => w'.cell? ⟨gb353, 0, none⟩ = some (.int .i64 a0_0) ∧ w'.cell? ⟨gb353, 1, none⟩ = some (.slice A0_1 l0_1.length c0_1) ∧ w'.cell? ⟨gb354, 0, none⟩ = some (.int .i64 a1_0) ∧ w'.cell? ⟨gb354, 1, none⟩ = some (.slice A1_1 l1_1.length c1_1)) (ds := []) #[false, false, false, false, false] (by kernel_rfl) rfl rfl ⟨bc_ BK353 0, bc_ BK353 1, bc_ BK354 0, bc_ BK354 1⟩ (fun hHeld => ?_)
 generalize w7.drew = w8 at BK353 BK354 BK355 HB hHeld ⊢
 refine tk_ #[true, false, false, false, false] 0 5 (by kernel_rfl) hHeld ?_
 refine tk_ #[true, true, false, false, false] 1 6 (by kernel_rfl) hHeld ?_
 refine one_ (i := 2) (N := some 7) #[true, true, true, false, false] rfl rfl (by kernel_rfl) (by decide) (fun K hK => ?_)
 refine goes_ Tryd.func133 (by kernel_rfl) rfl #[.agg #[.int .i64 a1_0, .slice A1_1 l1_1.length c1_1]] (by rfl) rfl rfl ma_ ?_
 with_reducible refine (spec_l02Neg.calls k a1_0 _ _ l1_1 t356 t357 _ ?side1 ?side2 A3.out).mono ?_
 (case side1 => exact cb_ HR1_1 HB)
 (case side2 => exact HC1_1.out)
 rintro e w9 ⟨v358, rfl, ho0, hb⟩
 refine ⟨_, rfl, ?_⟩
 have HO359 := am_ (Kd.R_lower ho0 (below_size (bl_ HB))); replace BK353 := bb_ BK353 hb; replace BK354 := bb_ BK354 hb; replace BK355 := bb_ BK355 hb; replace HB := bs_ HB hb; (try clear hb); (try clear hb2); (try clear hk); (try clear hi); (try clear ho0)
 obtain ⟨Ao10, co10, eo10⟩ := Kd.R_slice HO359.out
 (first | subst eo10 | (injection eo10 with f1_ f2_ f3_; have f4_ := f1_.symm; have f5_ := f3_.symm; clear f1_ f2_ f3_; subst f4_; subst f5_))
 refine hK.out _ _ ⟨bc_ BK353 0, bc_ BK353 1, bc_ BK354 0, bc_ BK354 1⟩ (fun hHeld => ?_)
 clear hK K
 refine nr_ ?_
 refine one_ (i := 3) (N := some 8) #[true, true, true, true, false] rfl rfl (by kernel_rfl) (by decide) (fun K hK => ?_)
 refine goes_ Tryd.func105 (by kernel_rfl) rfl #[.agg #[.int .i64 a0_0, .slice A0_1 l0_1.length c0_1], .agg #[.int .i64 t356, .slice Ao10 t357.length co10]] (by rfl) rfl rfl ma_ ?_
 with_reducible refine (spec_l02Add.calls k a0_0 _ _ l0_1 t356 _ _ t357 t360 t361 _ ?side1 ?side2 ?side3 ?side4 A4.out).mono ?_
 (case side1 => exact cb_ HR0_1 HB)
 (case side2 => exact HC0_1.out)
 (case side3 => exact cr_ HO359)
 (case side4 => exact (Kd.R_reads' HO359.out).2.1)
 rintro e w11 ⟨v362, rfl, ho0, hb⟩
 refine ⟨_, rfl, ?_⟩
 have HO363 := am_ (Kd.R_lower (Kd.R_new' ho0 (Kd.R_lt (kr_ HO359))) (below_size (bl_ HB))); replace HO359 := am_ (Kd.R_elder' (kr_ HO359) (Kd.R_base ho0) hb); replace BK353 := bb_ BK353 hb; replace BK354 := bb_ BK354 hb; replace BK355 := bb_ BK355 hb; replace HB := bs_ HB hb; (try clear hb); (try clear hb2); (try clear hk); (try clear hi); (try clear ho0)
 obtain ⟨Ao13, co13, eo13⟩ := Kd.R_slice HO363.out
 (first | subst eo13 | (injection eo13 with f1_ f2_ f3_; have f4_ := f1_.symm; have f5_ := f3_.symm; clear f1_ f2_ f3_; subst f4_; subst f5_))
 refine hK.out _ _ ⟨bc_ BK353 0, bc_ BK353 1, bc_ BK354 0, bc_ BK354 1⟩ (fun hHeld => ?_)
 clear hK K
 refine nr_ ?_
 refine one_ (i := 4) (N := none) #[true, true, true, true, true] rfl rfl (by kernel_rfl) (by decide) (fun K hK => ?_)
 have hs12 : w11.cell? ⟨gb355, 0, none⟩ = some (.int .i64 0) := bc_ BK355 0
 have hfs12 := blk_frozen BK355.out 0; have hns12_0 := NB353_355.out; have hns12_1 := NB354_355.out; have hms12_0 := NB355_353.out; have hms12_1 := NB355_354.out
 have hs14 : w11.cell? ⟨gb355, 1, none⟩ = some (.slice none 0 0) := bc_ BK355 1
 have hfs14 := blk_frozen BK355.out 1; have hns14_0 := NB353_355.out; have hns14_1 := NB354_355.out; have hms14_0 := NB355_353.out; have hms14_1 := NB355_354.out
 refine skip_ (w1 := ?_) (by rfl) rfl ?_ ?_
 rotate_left
 ·go_simp
  rfl
 refine hK.out _ _ ⟨((cell_far (p := ⟨gb355, _, none⟩) NB353_355.out _).trans (((cell_far (p := ⟨gb355, _, none⟩) NB353_355.out _).trans (hHeld.1)))), ((cell_far (p := ⟨gb355, _, none⟩) NB353_355.out _).trans (((cell_far (p := ⟨gb355, _, none⟩) NB353_355.out _).trans (hHeld.2.1)))), ((cell_far (p := ⟨gb355, _, none⟩) NB354_355.out _).trans (((cell_far (p := ⟨gb355, _, none⟩) NB354_355.out _).trans (hHeld.2.2.1)))), ((cell_far (p := ⟨gb355, _, none⟩) NB354_355.out _).trans (((cell_far (p := ⟨gb355, _, none⟩) NB354_355.out _).trans (hHeld.2.2.2))))⟩ (fun hHeld => ?_)
 clear hK K
 refine done_ (by kernel_rfl) ?_
 try go_wp2
 refine bodyPost_ret (results_cell_row rfl _ _ gb355 26 #[.int .i64 t360, .slice Ao13 t361.length co13] (0, 0) _ rfl (bp2_ BK355) Tryd.underlying26 rfl (by kernel_rfl)) rfl ?_
 exact ⟨_, by first | rfl | (simp [errW_none, errW_some] <;> rfl) | (simp [*, errW_none, errW_some] <;> rfl), rt_ HO363 BK355, bl_ HB⟩
def spec_l02Shift.j0 : Nat → Bool → Int → List Int → Option (Int × List Int)
  | 0, _, _, _ => none
  | k + 1, x24, x375000, x375001 => if x24 = true then ((spec_l02Of.f k 1).bind fun bt376 => ((spec_l02Sub.f k x375000 x375001 bt376.1 bt376.2).bind fun bt380 => (some (bt380.1, bt380.2)))) else (some (x375000, x375001))
def spec_l02Shift.f (k : Nat) (a0_0 : Int) (l0_1 : List Int) (a1 : Int) : Option (Int × List Int) := if a1 ≥ 0 then ((spec_l02Left.f k a0_0 l0_1 a1).bind fun bt366 => (some (bt366.1, bt366.2))) else ((spec_l02Cut.f k a0_0 l0_1 (wrap64 (-a1))).bind fun bt370 => (if a0_0 < 0 then ((spec_l02Twos.f k a0_0 l0_1).bind fun t375 => (spec_l02Shift.j0 k (decide (t375 < (wrap64 (-a1)))) bt370.1 bt370.2)) else (spec_l02Shift.j0 k false bt370.1 bt370.2)))
theorem spec_l02Shift.mono_l : ∀ k, (∀ y0 y1 y2, LeO (spec_l02Shift.j0 k y0 y1 y2) (spec_l02Shift.j0 (k + 1) y0 y1 y2))
  | 0 => fun _ _ _ r h => by simp [spec_l02Shift.j0] at h
  | k + 1 => by
    have ih0 := spec_l02Shift.mono_l k
    · intro y0 y1 y2
      unfold spec_l02Shift.j0
      repeat' first
      | (with_reducible exact ih0 _ _ _)
      | (with_reducible exact spec_l02Cut.mono _ _ _ _)
      | (with_reducible exact spec_l02Left.mono _ _ _ _)
      | (with_reducible exact spec_l02Of.mono _ _)
      | (with_reducible exact spec_l02Sub.mono _ _ _ _ _)
      | (with_reducible exact spec_l02Twos.mono _ _ _)
      | (with_reducible exact LeO.refl _)
      | (with_reducible exact LeO.none _)
      | (with_reducible refine LeO.ite ?_ ?_)
      | (with_reducible refine LeO.bind ?_ (fun _ => ?_))
      | exact ih0 _ _ _
      | exact spec_l02Cut.mono _ _ _ _
      | exact spec_l02Left.mono _ _ _ _
      | exact spec_l02Of.mono _ _
      | exact spec_l02Sub.mono _ _ _ _ _
      | exact spec_l02Twos.mono _ _ _
      | exact LeO.none _
      | refine LeO.ite ?_ ?_
      | refine LeO.bind ?_ (fun _ => ?_)
theorem spec_l02Shift.mono : ∀ a0 a1 a2 k, LeO (spec_l02Shift.f k a0 a1 a2) (spec_l02Shift.f (k + 1) a0 a1 a2) := by
  intro a0 a1 a2 k
  have ih0 := spec_l02Shift.mono_l k
  unfold spec_l02Shift.f
  repeat' first
      | (with_reducible exact ih0 _ _ _)
      | (with_reducible exact spec_l02Cut.mono _ _ _ _)
      | (with_reducible exact spec_l02Left.mono _ _ _ _)
      | (with_reducible exact spec_l02Of.mono _ _)
      | (with_reducible exact spec_l02Sub.mono _ _ _ _ _)
      | (with_reducible exact spec_l02Twos.mono _ _ _)
      | (with_reducible exact LeO.refl _)
      | (with_reducible exact LeO.none _)
      | (with_reducible refine LeO.ite ?_ ?_)
      | (with_reducible refine LeO.bind ?_ (fun _ => ?_))
      | exact ih0 _ _ _
      | exact spec_l02Cut.mono _ _ _ _
      | exact spec_l02Left.mono _ _ _ _
      | exact spec_l02Of.mono _ _
      | exact spec_l02Sub.mono _ _ _ _ _
      | exact spec_l02Twos.mono _ _ _
      | exact LeO.none _
      | refine LeO.ite ?_ ?_
      | refine LeO.bind ?_ (fun _ => ?_)
set_option maxHeartbeats 8000000 in
set_option maxRecDepth 100000 in
theorem spec_l02Shift.calls (k : Nat) (a0_0 : Int) (A0_1 : Option Addr) (c0_1 : Nat) (l0_1 : List Int) (a1 : Int) (r1 : Int) (r2 : List Int) (w : World) (hr0_1 : Kd.C (Kd.int .i64) w A0_1 l0_1.length l0_1) (hc0_1 : l0_1.length ≤ c0_1) (h : spec_l02Shift.f k a0_0 l0_1 a1 = some (r1, r2)) :
  Calls Tryd.prog 140 #[.agg #[.int .i64 a0_0, .slice A0_1 l0_1.length c0_1], .int .i64 a1] w fun e w' => ∃ v1_ : Value, e = .returned (.agg #[.int .i64 r1, v1_]) ∧ Kd.R (Kd.int .i64) 2 w' w.heap.size (fun _ => True) v1_ r2 ∧ Below w.heap.size w w' := by
 have hu26 := Tryd.underlying26; have HR0_1 := Aside0.mk hr0_1; have HC0_1 := Aside0.mk hc0_1; clear hr0_1 hc0_1; have HB := am_ (Below.refl w.heap.size w)
 have H : (if a1 ≥ 0 then ((spec_l02Left.f k a0_0 l0_1 a1).bind fun bt366 => (some (bt366.1, bt366.2))) else ((spec_l02Cut.f k a0_0 l0_1 (wrap64 (-a1))).bind fun bt370 => (if a0_0 < 0 then ((spec_l02Twos.f k a0_0 l0_1).bind fun t375 => (spec_l02Shift.j0 k (decide (t375 < (wrap64 (-a1)))) bt370.1 bt370.2)) else (spec_l02Shift.j0 k false bt370.1 bt370.2)))) = some (r1, r2) := h
 clear h
 by_cases c3 : a1 ≥ 0
 ·rw [if_pos c3] at H
  have c3b0 : decide (0 ≤ a1) = true := decide_eq_true c3
  clear c3
  replace H := Option.bind_eq_some_iff.mp H
  obtain ⟨⟨t366, t367⟩, A40, H⟩ := H
  replace H : (some (t366, t367)) = some (r1, r2) := H
  have A4 := Aside0.mk A40; clear A40
  simp only [Option.some.injEq, Prod.mk.injEq] at H
  obtain ⟨rfl, rfl⟩ := H
  go_enter Tryd.func140, Tryd.ntmps140
  go_wp2_with (first | ((with_reducible refine gate_dst (N := 2) rfl ?_); refine bx_ 2 #[.int .i64 a0_0, .slice A0_1 l0_1.length c0_1] 26 ?_; intro gb364 hg w5 hbox hb; obtain ⟨BK364, GW364, GE364⟩ := nb_ hbox hg HB; replace HB := bs_ HB hb; clear hb hbox hg) | ((with_reducible refine gate_dst (N := 4) rfl ?_); refine bx_ 4 #[.int .i64 0, .slice none 0 0] 26 ?_; intro gb365 hg w6 hbox hb; obtain ⟨BK365, GW365, GE365⟩ := nb_ hbox hg HB; obtain ⟨NB364_365, NB365_364⟩ := nn_ hg BK364; replace BK364 := bb_ BK364 hb; replace HB := bs_ HB hb; clear hb hbox hg; have hnb7 := NB364_365.out; have hnc7 := NB365_364.out; obtain ⟨hcz8_0, hcz8_1, hfz8_0, hfz8_1⟩ := ck2_ BK364) | ((with_reducible refine gate_callee (f := 106) rfl ?_); refine goesL_ (some 10) rfl rfl Tryd.func106 (by kernel_rfl) rfl #[.agg #[.int .i64 a0_0, .slice A0_1 l0_1.length c0_1], .int .i64 a1] rfl ma_ ?_; (with_reducible refine (spec_l02Left.calls k a0_0 _ _ l0_1 a1 t366 t367 _ ?side1 ?side2 A4.out).mono ?_); (case side1 => exact cb_ HR0_1 HB); (case side2 => exact HC0_1.out); rintro e w9 ⟨v368, rfl, ho0, hb⟩; refine ⟨_, rfl, ?_⟩; have HO369 := am_ (Kd.R_lower ho0 (below_size (bl_ HB))); replace BK364 := bb_ BK364 hb; replace BK365 := bb_ BK365 hb; replace HB := bs_ HB hb; (try clear hb); (try clear hb2); (try clear hk); (try clear hi); (try clear ho0); obtain ⟨hcz10_0, hcz10_1, hfz10_0, hfz10_1⟩ := ck2_ BK365; obtain ⟨Ao11, co11, eo11⟩ := Kd.R_slice HO369.out; subst eo11))
  refine bodyPost_ret (results_cell_row rfl _ _ gb365 26 #[.int .i64 t366, .slice Ao11 t367.length co11] (0, 0) _ rfl (bp2_ BK365) Tryd.underlying26 rfl (by kernel_rfl)) rfl ?_
  exact ⟨_, by first | rfl | (simp [errW_none, errW_some] <;> rfl) | (simp [*, errW_none, errW_some] <;> rfl), rt_ HO369 BK365, bl_ HB⟩
 ·rw [if_neg c3] at H
  have c3b0 : decide (0 ≤ a1) = false := decide_eq_false c3
  clear c3
  replace H := Option.bind_eq_some_iff.mp H
  obtain ⟨⟨t370, t371⟩, A120, H⟩ := H
  replace H : (if a0_0 < 0 then ((spec_l02Twos.f k a0_0 l0_1).bind fun t375 => (spec_l02Shift.j0 k (decide (t375 < (wrap64 (-a1)))) t370 t371)) else (spec_l02Shift.j0 k false t370 t371)) = some (r1, r2) := H
  have A12 := Aside0.mk A120; clear A120; have HC13 := Aside0.mk H; clear H
  go_enter Tryd.func140, Tryd.ntmps140
  go_upto_region 4 with (first | ((with_reducible refine gate_dst (N := 2) rfl ?_); refine bx_ 2 #[.int .i64 a0_0, .slice A0_1 l0_1.length c0_1] 26 ?_; intro gb364 hg w14 hbox hb; obtain ⟨BK364, GW364, GE364⟩ := nb_ hbox hg HB; replace HB := bs_ HB hb; clear hb hbox hg) | ((with_reducible refine gate_dst (N := 4) rfl ?_); refine bx_ 4 #[.int .i64 0, .slice none 0 0] 26 ?_; intro gb365 hg w15 hbox hb; obtain ⟨BK365, GW365, GE365⟩ := nb_ hbox hg HB; obtain ⟨NB364_365, NB365_364⟩ := nn_ hg BK364; replace BK364 := bb_ BK364 hb; replace HB := bs_ HB hb; clear hb hbox hg; have hnb16 := NB364_365.out; have hnc16 := NB365_364.out; obtain ⟨hcz17_0, hcz17_1, hfz17_0, hfz17_1⟩ := ck2_ BK364) | ((with_reducible refine gate_callee (f := 113) rfl ?_); refine goesL_ (some 14) rfl rfl Tryd.func113 (by kernel_rfl) rfl #[.agg #[.int .i64 a0_0, .slice A0_1 l0_1.length c0_1], .int .i64 (wrap64 (-a1))] rfl ma_ ?_; (with_reducible refine (spec_l02Cut.calls k a0_0 _ _ l0_1 (wrap64 (-a1)) t370 t371 _ ?side1 ?side2 A12.out).mono ?_); (case side1 => exact cb_ HR0_1 HB); (case side2 => exact HC0_1.out); rintro e w18 ⟨v372, rfl, ho0, hb⟩; refine ⟨_, rfl, ?_⟩; have HO373 := am_ (Kd.R_lower ho0 (below_size (bl_ HB))); replace BK364 := bb_ BK364 hb; replace BK365 := bb_ BK365 hb; replace HB := bs_ HB hb; (try clear hb); (try clear hb2); (try clear hk); (try clear hi); (try clear ho0)) | ((with_reducible refine gate_dst (N := 5) rfl ?_); refine bx_ 5 #[.int .i64 0, .slice none 0 0] 26 ?_; intro gb374 hg w19 hbox hb; obtain ⟨BK374, GW374, GE374⟩ := nb_ hbox hg HB; obtain ⟨NB364_374, NB374_364⟩ := nn_ hg BK364; obtain ⟨NB365_374, NB374_365⟩ := nn_ hg BK365; replace HO373 := am_ (Kd.R_below (kr_ HO373) hb); replace BK364 := bb_ BK364 hb; replace BK365 := bb_ BK365 hb; replace HB := bs_ HB hb; clear hb hbox hg; have hnb20 := NB374_364.out; have hnc20 := NB364_374.out; have hnb21 := NB374_365.out; have hnc21 := NB365_374.out; obtain ⟨hcz22_0, hcz22_1, hfz22_0, hfz22_1⟩ := ck2_ BK374; obtain ⟨Ao23, co23, eo23⟩ := Kd.R_slice HO373.out; subst eo23))
  (try simp only [Act.put, List.setIfInBounds_toArray, List.set_cons_zero, List.set_cons_succ])
  go_cut [24] (fun v24 wc => ∃ (kq : Nat) (x24_12 : Bool), v24 = .bool x24_12 ∧ Aside0 (spec_l02Shift.j0 kq x24_12 t370 t371 = some (r1, r2)) ∧ Aside0 (kq ≤ k) ∧ Aside0 (Kd.R (Kd.int .i64) 2 wc w.heap.size (fun _ => True) (.slice Ao23 t371.length co23) t371) ∧ Aside0 (wc.heap[gb364]? = some (.cells #[.int .i64 a0_0, (.slice A0_1 l0_1.length c0_1)] 26 (0, 0))) ∧ Aside0 (wc.heap[gb365]? = some (.cells #[.int .i64 0, (.slice none 0 0)] 26 (0, 0))) ∧ Aside0 (wc.heap[gb374]? = some (.cells #[.int .i64 t370, (.slice Ao23 t371.length co23)] 26 (0, 0))) ∧ Aside0 (Below w.heap.size w wc))
  case first =>
   have H := HC13.out; clear HC13
   by_cases c24 : a0_0 < 0
   ·rw [if_pos c24] at H
    have c24b0 : decide (a0_0 < 0) = true := decide_eq_true c24
    clear c24
    (first | rw [c24b0] | (simp only [i64_w, i32_w]; rw [c24b0]) | skip)
    replace H := Option.bind_eq_some_iff.mp H
    obtain ⟨t375, A250, H⟩ := H
    replace H : (spec_l02Shift.j0 k (decide (t375 < (wrap64 (-a1)))) t370 t371) = some (r1, r2) := H
    have A25 := Aside0.mk A250; clear A250
    have H' := Aside0.mk H
    clear H; have hnb26 := NB364_365.out; have hnc26 := NB365_364.out; have hnb27 := NB364_374.out; have hnc27 := NB374_364.out
    obtain ⟨hcz28_0, hcz28_1, hfz28_0, hfz28_1⟩ := ck2_ BK364
    go_wp2_with (first | (go_at_call 112; (with_reducible refine (spec_l02Twos.calls k a0_0 _ _ l0_1 t375 _ ?side1 ?side2 A25.out).mono ?_); (case side1 => exact Kd.C_below HR0_1.out (bl_ HB)); (case side2 => exact HC0_1.out); rintro e w29 ⟨rfl, hb⟩; replace HO373 := am_ (Kd.R_below (rg_ HO373 BK374) hb); replace BK364 := bb_ BK364 hb; replace BK365 := bb_ BK365 hb; replace BK374 := am_ (blk_below (bp2_ BK374) hb); replace HB := bs_ HB hb; (try clear hb); (try clear hb2); (try clear hk); (try clear hi)))
    go_meet
    case rel => exact ⟨_, (decide (t375 < (wrap64 (-a1)))), (by first | rfl | (simp; done) | (simp [*]; done)), H', ⟨by first | omega | exact Nat.le_refl _⟩, ⟨kr_ HO373⟩, ⟨bk_ BK364⟩, ⟨bk_ BK365⟩, ⟨bk_ BK374⟩, ⟨bl_ HB⟩⟩
   ·rw [if_neg c24] at H
    have c24b0 : decide (a0_0 < 0) = false := decide_eq_false c24
    clear c24
    (first | rw [c24b0] | (simp only [i64_w, i32_w]; rw [c24b0]) | skip)
    have H' := Aside0.mk H
    clear H; have hnb30 := NB364_365.out; have hnc30 := NB365_364.out; have hnb31 := NB364_374.out; have hnc31 := NB374_364.out
    obtain ⟨hcz32_0, hcz32_1, hfz32_0, hfz32_1⟩ := ck2_ BK364
    go_wp2
    go_meet
    case rel => exact ⟨_, (false), (by first | rfl | (simp; done) | (simp [*]; done)), H', ⟨by first | omega | exact Nat.le_refl _⟩, ⟨rt_ HO373 BK374⟩, ⟨bk_ BK364⟩, ⟨bk_ BK365⟩, ⟨bp2_ BK374⟩, ⟨bl_ HB⟩⟩
  case rest =>
   clear HC13; try clear c1; try clear c2; try clear p2; try clear c3; try clear c3b0; try clear p6; try clear c7; try clear c10; try clear c11; try clear c14; try clear c16; try clear c20; try clear c21; try clear c24; try clear c24b0; try clear c26; try clear c27; try clear c30; try clear c31; try clear hcz10_0; try clear hcz10_1; try clear hcz17_0; try clear hcz17_1; try clear hcz22_0; try clear hcz22_1; try clear hcz28_0; try clear hcz28_1; try clear hcz32_0; try clear hcz32_1; try clear hcz8_0; try clear hcz8_1; try clear hfz10_0; try clear hfz10_1; try clear hfz17_0; try clear hfz17_1; try clear hfz22_0; try clear hfz22_1; try clear hfz28_0; try clear hfz28_1; try clear hfz32_0; try clear hfz32_1; try clear hfz8_0; try clear hfz8_1
   obtain ⟨kq, x24_12, rfl, HA, HJ12, HO_375001, BK364, BK365, BK374, HB⟩ := hcut
   cases kq with
   | zero => exact absurd HA.out (by simp [spec_l02Shift.j0])
   | succ kj12 =>
    have H := HA.out; clear HA
    simp only [spec_l02Shift.j0] at H
    by_cases c33 : x24_12 = true
    ·subst c33
     have H1 : ((spec_l02Of.f kj12 1).bind fun bt376 => ((spec_l02Sub.f kj12 t370 t371 bt376.1 bt376.2).bind fun bt380 => (some (bt380.1, bt380.2)))) = some (r1, r2) := by rw [if_pos rfl] at H; exact H
     clear H; have H := H1; clear H1
     replace H := Option.bind_eq_some_iff.mp H
     obtain ⟨⟨t376, t377⟩, A340, H⟩ := H
     replace H : ((spec_l02Sub.f kj12 t370 t371 t376 t377).bind fun bt380 => (some (bt380.1, bt380.2))) = some (r1, r2) := H
     have A34 := Aside0.mk A340; clear A340
     replace H := Option.bind_eq_some_iff.mp H
     obtain ⟨⟨t380, t381⟩, A350, H⟩ := H
     replace H : (some (t380, t381)) = some (r1, r2) := H
     have A35 := Aside0.mk A350; clear A350
     simp only [Option.some.injEq, Prod.mk.injEq] at H
     obtain ⟨rfl, rfl⟩ := H
     try go_wp2
     replace HO_375001 := am_ (Kd.R_drew HO_375001.out); replace BK364 := am_ (blk_drew BK364.out); replace BK365 := am_ (blk_drew BK365.out); replace BK374 := am_ (blk_drew BK374.out); replace HB := am_ (below_drew1 HB.out)
     refine start_ (n := 4) (S := fun w' => w'.cell? ⟨gb374, 0, none⟩ = some (.int .i64 t370) ∧ w'.cell? ⟨gb374, 1, none⟩ = some (.slice Ao23 t371.length co23)) (ds := []) #[false, false, false, false] (by kernel_rfl) rfl rfl ⟨bc_ BK374 0, bc_ BK374 1⟩ (fun hHeld => ?_)
     generalize wc.drew = w36 at HO_375001 BK364 BK365 BK374 HB hHeld ⊢
     refine tk_ #[true, false, false, false] 0 25 (by kernel_rfl) hHeld ?_
     refine one_ (i := 1) (N := some 26) #[true, true, false, false] rfl rfl (by kernel_rfl) (by decide) (fun K hK => ?_)
     refine goes_ Tryd.func104 (by kernel_rfl) rfl #[.int .i64 1] (by rfl) rfl rfl ma_ ?_
     with_reducible refine (spec_l02Of.calls kj12 1 t376 t377 _ A34.out).mono ?_
     rintro e w37 ⟨v378, rfl, ho0, hb⟩
     refine ⟨_, rfl, ?_⟩
     have HO379 := am_ (Kd.R_lower (Kd.R_new' ho0 (Kd.R_lt (kr_ HO_375001))) (below_size (bl_ HB))); replace HO_375001 := am_ (Kd.R_elder' (kr_ HO_375001) (Kd.R_base ho0) hb); replace BK364 := bb_ BK364 hb; replace BK365 := bb_ BK365 hb; replace BK374 := bb_ BK374 hb; replace HB := bs_ HB hb; (try clear hb); (try clear hb2); (try clear hk); (try clear hi); (try clear ho0)
     obtain ⟨Ao38, co38, eo38⟩ := Kd.R_slice HO379.out
     (first | subst eo38 | (injection eo38 with f1_ f2_ f3_; have f4_ := f1_.symm; have f5_ := f3_.symm; clear f1_ f2_ f3_; subst f4_; subst f5_))
     refine hK.out _ _ ⟨bc_ BK374 0, bc_ BK374 1⟩ (fun hHeld => ?_)
     clear hK K
     refine nr_ ?_
     refine one_ (i := 2) (N := some 27) #[true, true, true, false] rfl rfl (by kernel_rfl) (by decide) (fun K hK => ?_)
     refine goes_ Tryd.func114 (by kernel_rfl) rfl #[.agg #[.int .i64 t370, .slice Ao23 t371.length co23], .agg #[.int .i64 t376, .slice Ao38 t377.length co38]] (by rfl) rfl rfl ma_ ?_
     with_reducible refine (spec_l02Sub.calls kj12 t370 _ _ t371 t376 _ _ t377 t380 t381 _ ?side1 ?side2 ?side3 ?side4 A35.out).mono ?_
     (case side1 => exact cr_ HO_375001)
     (case side2 => exact (Kd.R_reads' HO_375001.out).2.1)
     (case side3 => exact cr_ HO379)
     (case side4 => exact (Kd.R_reads' HO379.out).2.1)
     rintro e w39 ⟨v382, rfl, ho0, hb⟩
     refine ⟨_, rfl, ?_⟩
     have HO383 := am_ (Kd.R_lower (Kd.R_new' (Kd.R_new' ho0 (Kd.R_lt (kr_ HO_375001))) (Kd.R_lt (kr_ HO379))) (below_size (bl_ HB))); replace HO_375001 := am_ (Kd.R_elder' (kr_ HO_375001) (Kd.R_base ho0) hb); replace HO379 := am_ (Kd.R_elder' (kr_ HO379) (Kd.R_base ho0) hb); replace BK364 := bb_ BK364 hb; replace BK365 := bb_ BK365 hb; replace BK374 := bb_ BK374 hb; replace HB := bs_ HB hb; (try clear hb); (try clear hb2); (try clear hk); (try clear hi); (try clear ho0)
     obtain ⟨Ao41, co41, eo41⟩ := Kd.R_slice HO383.out
     (first | subst eo41 | (injection eo41 with f1_ f2_ f3_; have f4_ := f1_.symm; have f5_ := f3_.symm; clear f1_ f2_ f3_; subst f4_; subst f5_))
     refine hK.out _ _ ⟨bc_ BK374 0, bc_ BK374 1⟩ (fun hHeld => ?_)
     clear hK K
     refine nr_ ?_
     refine one_ (i := 3) (N := none) #[true, true, true, true] rfl rfl (by kernel_rfl) (by decide) (fun K hK => ?_)
     have hs40 : w39.cell? ⟨gb365, 0, none⟩ = some (.int .i64 0) := bc_ BK365 0
     have hfs40 := blk_frozen BK365.out 0; have hns40_0 := NB364_365.out; have hns40_2 := NB374_365.out; have hms40_0 := NB365_364.out; have hms40_2 := NB365_374.out
     have hs42 : w39.cell? ⟨gb365, 1, none⟩ = some (.slice none 0 0) := bc_ BK365 1
     have hfs42 := blk_frozen BK365.out 1; have hns42_0 := NB364_365.out; have hns42_2 := NB374_365.out; have hms42_0 := NB365_364.out; have hms42_2 := NB365_374.out
     refine skip_ (w1 := ?_) (by rfl) rfl ?_ ?_
     rotate_left
     ·go_simp
      rfl
     refine hK.out _ _ ⟨((cell_far (p := ⟨gb365, _, none⟩) NB374_365.out _).trans (((cell_far (p := ⟨gb365, _, none⟩) NB374_365.out _).trans (hHeld.1)))), ((cell_far (p := ⟨gb365, _, none⟩) NB374_365.out _).trans (((cell_far (p := ⟨gb365, _, none⟩) NB374_365.out _).trans (hHeld.2))))⟩ (fun hHeld => ?_)
     clear hK K
     refine done_ (by kernel_rfl) ?_
     try go_wp2
     refine bodyPost_ret (results_cell_row rfl _ _ gb365 26 #[.int .i64 t380, .slice Ao41 t381.length co41] (0, 0) _ rfl (bp2_ BK365) Tryd.underlying26 rfl (by kernel_rfl)) rfl ?_
     exact ⟨_, by first | rfl | (simp [errW_none, errW_some] <;> rfl) | (simp [*, errW_none, errW_some] <;> rfl), rt_ HO383 BK365, bl_ HB⟩
    ·replace c33 := Bool.eq_false_iff.mpr c33
     subst c33
     have H1 : (some (t370, t371)) = some (r1, r2) := by rw [if_neg (show ¬ (false = true) by decide)] at H; exact H
     clear H; have H := H1; clear H1
     simp only [Option.some.injEq, Prod.mk.injEq] at H
     obtain ⟨rfl, rfl⟩ := H
     have hnb43 := NB374_364.out; have hnc43 := NB364_374.out; have hnb44 := NB374_365.out; have hnc44 := NB365_374.out
     obtain ⟨hcz45_0, hcz45_1, hfz45_0, hfz45_1⟩ := ck2_ BK374; have hnb46 := NB365_364.out; have hnc46 := NB364_365.out
     obtain ⟨hcz47_0, hcz47_1, hfz47_0, hfz47_1⟩ := ck2_ BK365
     go_wp2
     refine bodyPost_ret (results_cell_row rfl _ _ gb365 26 #[.int .i64 t370, .slice Ao23 t371.length co23] (0, 0) _ rfl (bp2_ BK365) Tryd.underlying26 rfl (by kernel_rfl)) rfl ?_
     exact ⟨_, by first | rfl | (simp [errW_none, errW_some] <;> rfl) | (simp [*, errW_none, errW_some] <;> rfl), rt_ HO_375001 BK365, bl_ HB⟩
def spec_l03Floor.f (k : Nat) (a0_0 : Int) (l0_1 : List Int) (a0_2 : Int) (a1 : Int) : Option (Int × List Int × Int) := if a0_2 ≥ (wrap64 (-a1)) then ((spec_l03Make.f k a0_0 l0_1 a0_2).bind fun bt386 => (some (bt386.1, bt386.2.1, bt386.2.2))) else ((spec_l02Shift.f k a0_0 l0_1 (wrap64 (a0_2 + a1))).bind fun bt391 => ((spec_l03Make.f k bt391.1 bt391.2 (wrap64 (-a1))).bind fun bt395 => (some (bt395.1, bt395.2.1, bt395.2.2))))
theorem spec_l03Floor.mono : ∀ a0 a1 a2 a3 k, LeO (spec_l03Floor.f k a0 a1 a2 a3) (spec_l03Floor.f (k + 1) a0 a1 a2 a3) := by
  intro a0 a1 a2 a3 k
  unfold spec_l03Floor.f
  repeat' first
      | (with_reducible exact spec_l02Shift.mono _ _ _ _)
      | (with_reducible exact spec_l03Make.mono _ _ _ _)
      | (with_reducible exact LeO.refl _)
      | (with_reducible exact LeO.none _)
      | (with_reducible refine LeO.ite ?_ ?_)
      | (with_reducible refine LeO.bind ?_ (fun _ => ?_))
      | exact spec_l02Shift.mono _ _ _ _
      | exact spec_l03Make.mono _ _ _ _
      | exact LeO.none _
      | refine LeO.ite ?_ ?_
      | refine LeO.bind ?_ (fun _ => ?_)
set_option maxHeartbeats 8000000 in
set_option maxRecDepth 100000 in
theorem spec_l03Floor.calls (k : Nat) (a0_0 : Int) (A0_1 : Option Addr) (c0_1 : Nat) (l0_1 : List Int) (a0_2 : Int) (a1 : Int) (r1 : Int) (r2 : List Int) (r3 : Int) (w : World) (hr0_1 : Kd.C (Kd.int .i64) w A0_1 l0_1.length l0_1) (hc0_1 : l0_1.length ≤ c0_1) (h : spec_l03Floor.f k a0_0 l0_1 a0_2 a1 = some (r1, r2, r3)) :
  Calls Tryd.prog 137 #[.agg #[.int .i64 a0_0, .slice A0_1 l0_1.length c0_1, .int .i64 a0_2], .int .i64 a1] w fun e w' => ∃ v1_ : Value, e = .returned (.agg #[.int .i64 r1, v1_, .int .i64 r3]) ∧ Kd.R (Kd.int .i64) 2 w' w.heap.size (fun _ => True) v1_ r2 ∧ Below w.heap.size w w' := by
 have hu45 := Tryd.underlying45; have hu26 := Tryd.underlying26; have HR0_1 := Aside0.mk hr0_1; have HC0_1 := Aside0.mk hc0_1; clear hr0_1 hc0_1; have HB := am_ (Below.refl w.heap.size w)
 have H : (if a0_2 ≥ (wrap64 (-a1)) then ((spec_l03Make.f k a0_0 l0_1 a0_2).bind fun bt386 => (some (bt386.1, bt386.2.1, bt386.2.2))) else ((spec_l02Shift.f k a0_0 l0_1 (wrap64 (a0_2 + a1))).bind fun bt391 => ((spec_l03Make.f k bt391.1 bt391.2 (wrap64 (-a1))).bind fun bt395 => (some (bt395.1, bt395.2.1, bt395.2.2))))) = some (r1, r2, r3) := h
 clear h
 by_cases c3 : a0_2 ≥ (wrap64 (-a1))
 ·rw [if_pos c3] at H
  have c3b0 : decide ((wrap64 (-a1)) ≤ a0_2) = true := decide_eq_true c3
  clear c3
  replace H := Option.bind_eq_some_iff.mp H
  obtain ⟨⟨t386, t387, t390⟩, A40, H⟩ := H
  replace H : (some (t386, t387, t390)) = some (r1, r2, r3) := H
  have A4 := Aside0.mk A40; clear A40
  simp only [Option.some.injEq, Prod.mk.injEq] at H
  obtain ⟨rfl, rfl, rfl⟩ := H
  go_enter Tryd.func137, Tryd.ntmps137
  go_wp2_with (first | ((with_reducible refine gate_dst (N := 2) rfl ?_); refine bx_ 2 #[.int .i64 a0_0, .slice A0_1 l0_1.length c0_1, .int .i64 a0_2] 45 ?_; intro gb384 hg w5 hbox hb; obtain ⟨BK384, GW384, GE384⟩ := nb_ hbox hg HB; replace HB := bs_ HB hb; clear hb hbox hg) | ((with_reducible refine gate_dst (N := 4) rfl ?_); refine bx_ 4 #[.int .i64 0, .slice none 0 0, .int .i64 0] 45 ?_; intro gb385 hg w6 hbox hb; obtain ⟨BK385, GW385, GE385⟩ := nb_ hbox hg HB; obtain ⟨NB384_385, NB385_384⟩ := nn_ hg BK384; replace BK384 := bb_ BK384 hb; replace HB := bs_ HB hb; clear hb hbox hg; have hnb7 := NB384_385.out; have hnc7 := NB385_384.out; obtain ⟨hcz8_0, hcz8_1, hcz8_2, hfz8_0, hfz8_1, hfz8_2⟩ := ck3_ BK384) | ((with_reducible refine gate_callee (f := 118) rfl ?_); refine goesL_ (some 14) rfl rfl Tryd.func118 (by kernel_rfl) rfl #[.agg #[.int .i64 a0_0, .slice A0_1 l0_1.length c0_1], .int .i64 a0_2] rfl ma_ ?_; (with_reducible refine (spec_l03Make.calls k a0_0 _ _ l0_1 a0_2 t386 t387 t390 _ ?side1 ?side2 A4.out).mono ?_); (case side1 => exact cb_ HR0_1 HB); (case side2 => exact HC0_1.out); rintro e w9 ⟨v388, rfl, ho0, hb⟩; refine ⟨_, rfl, ?_⟩; have HO389 := am_ (Kd.R_lower ho0 (below_size (bl_ HB))); replace BK384 := bb_ BK384 hb; replace BK385 := bb_ BK385 hb; replace HB := bs_ HB hb; (try clear hb); (try clear hb2); (try clear hk); (try clear hi); (try clear ho0); obtain ⟨hcz10_0, hcz10_1, hcz10_2, hfz10_0, hfz10_1, hfz10_2⟩ := ck3_ BK385; obtain ⟨Ao11, co11, eo11⟩ := Kd.R_slice HO389.out; subst eo11))
  refine bodyPost_ret (results_cell_row rfl _ _ gb385 45 #[.int .i64 t386, .slice Ao11 t387.length co11, .int .i64 t390] (0, 0) _ rfl (bp3_ BK385) Tryd.underlying45 rfl (by kernel_rfl)) rfl ?_
  exact ⟨_, by first | rfl | (simp [errW_none, errW_some] <;> rfl) | (simp [*, errW_none, errW_some] <;> rfl), ru_ HO389 BK385, bl_ HB⟩
 ·rw [if_neg c3] at H
  have c3b0 : decide ((wrap64 (-a1)) ≤ a0_2) = false := decide_eq_false c3
  clear c3
  replace H := Option.bind_eq_some_iff.mp H
  obtain ⟨⟨t391, t392⟩, A120, H⟩ := H
  replace H : ((spec_l03Make.f k t391 t392 (wrap64 (-a1))).bind fun bt395 => (some (bt395.1, bt395.2.1, bt395.2.2))) = some (r1, r2, r3) := H
  have A12 := Aside0.mk A120; clear A120
  replace H := Option.bind_eq_some_iff.mp H
  obtain ⟨⟨t395, t396, t399⟩, A130, H⟩ := H
  replace H : (some (t395, t396, t399)) = some (r1, r2, r3) := H
  have A13 := Aside0.mk A130; clear A130
  simp only [Option.some.injEq, Prod.mk.injEq] at H
  obtain ⟨rfl, rfl, rfl⟩ := H
  go_enter Tryd.func137, Tryd.ntmps137
  go_wp2_with (first | ((with_reducible refine gate_dst (N := 2) rfl ?_); refine bx_ 2 #[.int .i64 a0_0, .slice A0_1 l0_1.length c0_1, .int .i64 a0_2] 45 ?_; intro gb384 hg w14 hbox hb; obtain ⟨BK384, GW384, GE384⟩ := nb_ hbox hg HB; replace HB := bs_ HB hb; clear hb hbox hg) | ((with_reducible refine gate_dst (N := 4) rfl ?_); refine bx_ 4 #[.int .i64 0, .slice none 0 0, .int .i64 0] 45 ?_; intro gb385 hg w15 hbox hb; obtain ⟨BK385, GW385, GE385⟩ := nb_ hbox hg HB; obtain ⟨NB384_385, NB385_384⟩ := nn_ hg BK384; replace BK384 := bb_ BK384 hb; replace HB := bs_ HB hb; clear hb hbox hg; have hnb16 := NB384_385.out; have hnc16 := NB385_384.out; obtain ⟨hcz17_0, hcz17_1, hcz17_2, hfz17_0, hfz17_1, hfz17_2⟩ := ck3_ BK384) | ((with_reducible refine gate_callee (f := 140) rfl ?_); refine goesL_ (some 21) rfl rfl Tryd.func140 (by kernel_rfl) rfl #[.agg #[.int .i64 a0_0, .slice A0_1 l0_1.length c0_1], .int .i64 (wrap64 (a0_2 + a1))] rfl ma_ ?_; (with_reducible refine (spec_l02Shift.calls k a0_0 _ _ l0_1 (wrap64 (a0_2 + a1)) t391 t392 _ ?side1 ?side2 A12.out).mono ?_); (case side1 => exact cb_ HR0_1 HB); (case side2 => exact HC0_1.out); rintro e w18 ⟨v393, rfl, ho0, hb⟩; refine ⟨_, rfl, ?_⟩; have HO394 := am_ (Kd.R_lower ho0 (below_size (bl_ HB))); replace BK384 := bb_ BK384 hb; replace BK385 := bb_ BK385 hb; replace HB := bs_ HB hb; (try clear hb); (try clear hb2); (try clear hk); (try clear hi); (try clear ho0); obtain ⟨Ao19, co19, eo19⟩ := Kd.R_slice HO394.out; subst eo19) | ((with_reducible refine gate_callee (f := 118) rfl ?_); refine goesL_ (some 24) rfl rfl Tryd.func118 (by kernel_rfl) rfl #[.agg #[.int .i64 t391, .slice Ao19 t392.length co19], .int .i64 (wrap64 (-a1))] rfl ma_ ?_; (with_reducible refine (spec_l03Make.calls k t391 _ _ t392 (wrap64 (-a1)) t395 t396 t399 _ ?side1 ?side2 A13.out).mono ?_); (case side1 => exact cr_ HO394); (case side2 => exact (Kd.R_reads' HO394.out).2.1); rintro e w20 ⟨v397, rfl, ho0, hb⟩; refine ⟨_, rfl, ?_⟩; have HO398 := am_ (Kd.R_lower (Kd.R_new' ho0 (Kd.R_lt (kr_ HO394))) (below_size (bl_ HB))); replace HO394 := am_ (Kd.R_elder' (kr_ HO394) (Kd.R_base ho0) hb); replace BK384 := bb_ BK384 hb; replace BK385 := bb_ BK385 hb; replace HB := bs_ HB hb; (try clear hb); (try clear hb2); (try clear hk); (try clear hi); (try clear ho0); obtain ⟨hcz21_0, hcz21_1, hcz21_2, hfz21_0, hfz21_1, hfz21_2⟩ := ck3_ BK385; obtain ⟨Ao22, co22, eo22⟩ := Kd.R_slice HO398.out; subst eo22))
  refine bodyPost_ret (results_cell_row rfl _ _ gb385 45 #[.int .i64 t395, .slice Ao22 t396.length co22, .int .i64 t399] (0, 0) _ rfl (bp3_ BK385) Tryd.underlying45 rfl (by kernel_rfl)) rfl ?_
  exact ⟨_, by first | rfl | (simp [errW_none, errW_some] <;> rfl) | (simp [*, errW_none, errW_some] <;> rfl), ru_ HO398 BK385, bl_ HB⟩
def spec_l03Ceil.f (k : Nat) (a0_0 : Int) (l0_1 : List Int) (a0_2 : Int) (a1 : Int) : Option (Int × List Int × Int) := (spec_l03Neg.f k a0_0 l0_1 a0_2).bind fun bt402 => ((spec_l03Floor.f k bt402.1 bt402.2.1 bt402.2.2 a1).bind fun bt407 => ((spec_l03Neg.f k bt407.1 bt407.2.1 bt407.2.2).bind fun bt412 => (some (bt412.1, bt412.2.1, bt412.2.2))))
theorem spec_l03Ceil.mono : ∀ a0 a1 a2 a3 k, LeO (spec_l03Ceil.f k a0 a1 a2 a3) (spec_l03Ceil.f (k + 1) a0 a1 a2 a3) := by
  intro a0 a1 a2 a3 k
  unfold spec_l03Ceil.f
  repeat' first
      | (with_reducible exact spec_l03Floor.mono _ _ _ _ _)
      | (with_reducible exact spec_l03Neg.mono _ _ _ _)
      | (with_reducible exact LeO.refl _)
      | (with_reducible exact LeO.none _)
      | (with_reducible refine LeO.ite ?_ ?_)
      | (with_reducible refine LeO.bind ?_ (fun _ => ?_))
      | exact spec_l03Floor.mono _ _ _ _ _
      | exact spec_l03Neg.mono _ _ _ _
      | exact LeO.none _
      | refine LeO.ite ?_ ?_
      | refine LeO.bind ?_ (fun _ => ?_)
set_option maxHeartbeats 8000000 in
set_option maxRecDepth 100000 in
theorem spec_l03Ceil.calls (k : Nat) (a0_0 : Int) (A0_1 : Option Addr) (c0_1 : Nat) (l0_1 : List Int) (a0_2 : Int) (a1 : Int) (r1 : Int) (r2 : List Int) (r3 : Int) (w : World) (hr0_1 : Kd.C (Kd.int .i64) w A0_1 l0_1.length l0_1) (hc0_1 : l0_1.length ≤ c0_1) (h : spec_l03Ceil.f k a0_0 l0_1 a0_2 a1 = some (r1, r2, r3)) :
  Calls Tryd.prog 123 #[.agg #[.int .i64 a0_0, .slice A0_1 l0_1.length c0_1, .int .i64 a0_2], .int .i64 a1] w fun e w' => ∃ v1_ : Value, e = .returned (.agg #[.int .i64 r1, v1_, .int .i64 r3]) ∧ Kd.R (Kd.int .i64) 2 w' w.heap.size (fun _ => True) v1_ r2 ∧ Below w.heap.size w w' := by
 have hu45 := Tryd.underlying45; have HR0_1 := Aside0.mk hr0_1; have HC0_1 := Aside0.mk hc0_1; clear hr0_1 hc0_1; have HB := am_ (Below.refl w.heap.size w)
 have H : ((spec_l03Neg.f k a0_0 l0_1 a0_2).bind fun bt402 => ((spec_l03Floor.f k bt402.1 bt402.2.1 bt402.2.2 a1).bind fun bt407 => ((spec_l03Neg.f k bt407.1 bt407.2.1 bt407.2.2).bind fun bt412 => (some (bt412.1, bt412.2.1, bt412.2.2))))) = some (r1, r2, r3) := h
 clear h
 replace H := Option.bind_eq_some_iff.mp H
 obtain ⟨⟨t402, t403, t406⟩, A30, H⟩ := H
 replace H : ((spec_l03Floor.f k t402 t403 t406 a1).bind fun bt407 => ((spec_l03Neg.f k bt407.1 bt407.2.1 bt407.2.2).bind fun bt412 => (some (bt412.1, bt412.2.1, bt412.2.2)))) = some (r1, r2, r3) := H
 have A3 := Aside0.mk A30; clear A30
 replace H := Option.bind_eq_some_iff.mp H
 obtain ⟨⟨t407, t408, t411⟩, A40, H⟩ := H
 replace H : ((spec_l03Neg.f k t407 t408 t411).bind fun bt412 => (some (bt412.1, bt412.2.1, bt412.2.2))) = some (r1, r2, r3) := H
 have A4 := Aside0.mk A40; clear A40
 replace H := Option.bind_eq_some_iff.mp H
 obtain ⟨⟨t412, t413, t416⟩, A50, H⟩ := H
 replace H : (some (t412, t413, t416)) = some (r1, r2, r3) := H
 have A5 := Aside0.mk A50; clear A50
 simp only [Option.some.injEq, Prod.mk.injEq] at H
 obtain ⟨rfl, rfl, rfl⟩ := H
 go_enter Tryd.func123, Tryd.ntmps123
 go_wp2_with (first | ((with_reducible refine gate_dst (N := 2) rfl ?_); refine bx_ 2 #[.int .i64 a0_0, .slice A0_1 l0_1.length c0_1, .int .i64 a0_2] 45 ?_; intro gb400 hg w6 hbox hb; obtain ⟨BK400, GW400, GE400⟩ := nb_ hbox hg HB; replace HB := bs_ HB hb; clear hb hbox hg) | ((with_reducible refine gate_dst (N := 4) rfl ?_); refine bx_ 4 #[.int .i64 0, .slice none 0 0, .int .i64 0] 45 ?_; intro gb401 hg w7 hbox hb; obtain ⟨BK401, GW401, GE401⟩ := nb_ hbox hg HB; obtain ⟨NB400_401, NB401_400⟩ := nn_ hg BK400; replace BK400 := bb_ BK400 hb; replace HB := bs_ HB hb; clear hb hbox hg; have hnb8 := NB400_401.out; have hnc8 := NB401_400.out; obtain ⟨hcz9_0, hcz9_1, hcz9_2, hfz9_0, hfz9_1, hfz9_2⟩ := ck3_ BK400) | ((with_reducible refine gate_callee (f := 136) rfl ?_); refine goesL_ (some 6) rfl rfl Tryd.func136 (by kernel_rfl) rfl #[.agg #[.int .i64 a0_0, .slice A0_1 l0_1.length c0_1, .int .i64 a0_2]] rfl ma_ ?_; (with_reducible refine (spec_l03Neg.calls k a0_0 _ _ l0_1 a0_2 t402 t403 t406 _ ?side1 ?side2 A3.out).mono ?_); (case side1 => exact cb_ HR0_1 HB); (case side2 => exact HC0_1.out); rintro e w10 ⟨v404, rfl, ho0, hb⟩; refine ⟨_, rfl, ?_⟩; have HO405 := am_ (Kd.R_lower ho0 (below_size (bl_ HB))); replace BK400 := bb_ BK400 hb; replace BK401 := bb_ BK401 hb; replace HB := bs_ HB hb; (try clear hb); (try clear hb2); (try clear hk); (try clear hi); (try clear ho0); obtain ⟨Ao11, co11, eo11⟩ := Kd.R_slice HO405.out; subst eo11) | ((with_reducible refine gate_callee (f := 137) rfl ?_); refine goesL_ (some 8) rfl rfl Tryd.func137 (by kernel_rfl) rfl #[.agg #[.int .i64 t402, .slice Ao11 t403.length co11, .int .i64 t406], .int .i64 a1] rfl ma_ ?_; (with_reducible refine (spec_l03Floor.calls k t402 _ _ t403 t406 a1 t407 t408 t411 _ ?side1 ?side2 A4.out).mono ?_); (case side1 => exact cr_ HO405); (case side2 => exact (Kd.R_reads' HO405.out).2.1); rintro e w12 ⟨v409, rfl, ho0, hb⟩; refine ⟨_, rfl, ?_⟩; have HO410 := am_ (Kd.R_lower (Kd.R_new' ho0 (Kd.R_lt (kr_ HO405))) (below_size (bl_ HB))); replace HO405 := am_ (Kd.R_elder' (kr_ HO405) (Kd.R_base ho0) hb); replace BK400 := bb_ BK400 hb; replace BK401 := bb_ BK401 hb; replace HB := bs_ HB hb; (try clear hb); (try clear hb2); (try clear hk); (try clear hi); (try clear ho0); obtain ⟨Ao13, co13, eo13⟩ := Kd.R_slice HO410.out; subst eo13) | ((with_reducible refine gate_callee (f := 136) rfl ?_); refine goesL_ (some 9) rfl rfl Tryd.func136 (by kernel_rfl) rfl #[.agg #[.int .i64 t407, .slice Ao13 t408.length co13, .int .i64 t411]] rfl ma_ ?_; (with_reducible refine (spec_l03Neg.calls k t407 _ _ t408 t411 t412 t413 t416 _ ?side1 ?side2 A5.out).mono ?_); (case side1 => exact cr_ HO410); (case side2 => exact (Kd.R_reads' HO410.out).2.1); rintro e w14 ⟨v414, rfl, ho0, hb⟩; refine ⟨_, rfl, ?_⟩; have HO415 := am_ (Kd.R_lower (Kd.R_new' (Kd.R_new' ho0 (Kd.R_lt (kr_ HO405))) (Kd.R_lt (kr_ HO410))) (below_size (bl_ HB))); replace HO405 := am_ (Kd.R_elder' (kr_ HO405) (Kd.R_base ho0) hb); replace HO410 := am_ (Kd.R_elder' (kr_ HO410) (Kd.R_base ho0) hb); replace BK400 := bb_ BK400 hb; replace BK401 := bb_ BK401 hb; replace HB := bs_ HB hb; (try clear hb); (try clear hb2); (try clear hk); (try clear hi); (try clear ho0); obtain ⟨hcz15_0, hcz15_1, hcz15_2, hfz15_0, hfz15_1, hfz15_2⟩ := ck3_ BK401; obtain ⟨Ao16, co16, eo16⟩ := Kd.R_slice HO415.out; subst eo16))
 refine bodyPost_ret (results_cell_row rfl _ _ gb401 45 #[.int .i64 t412, .slice Ao16 t413.length co16, .int .i64 t416] (0, 0) _ rfl (bp3_ BK401) Tryd.underlying45 rfl (by kernel_rfl)) rfl ?_
 exact ⟨_, by first | rfl | (simp [errW_none, errW_some] <;> rfl) | (simp [*, errW_none, errW_some] <;> rfl), ru_ HO415 BK401, bl_ HB⟩
end Go.Proofs.YtghhphndbbefjaaDoor.X
namespace Go.Proofs.YtghhphndbbefjaaDoor.X
open Go.RowKit Go.Proofs.YtghhphndbbefjaaDoorW.PrintWords Go.Proofs.YtghhphndbbefjaaDoorW.PrintLast Go.Proofs.YtghhphndbbefjaaDoorW.PrintMore Go.Proofs.YtghhphndbbefjaaDoor.Sq
attribute [local go_sem] max2_int min2_int max_two min_two max_three min_three max_four min_four   -- for this text's walks alone
set_option linter.unusedVariables false
set_option linter.unusedSimpArgs false
def spec_l03Root.f (k : Nat) (a0_0 : Int) (l0_1 : List Int) (a0_2 : Int) (a1 : Int) : Option (Int × List Int × Int) := (spec_l03Ceil.f k a0_0 l0_1 a0_2 (wrap64 (2 * a1))).bind fun bt419 => (if bt419.1 = 0 then (some (0, ([] : List Int), 0)) else ((spec_l02Left.f k bt419.1 bt419.2.1 (wrap64 (bt419.2.2 + (wrap64 (2 * a1))))).bind fun bt425 => ((spec_l02Root.f k bt425.1 bt425.2).bind fun bt430 => ((spec_l02Mul.f k bt430.1 bt430.2 bt430.1 bt430.2).bind fun bt435 => ((spec_l02Compare.f k bt435.1 bt435.2 bt425.1 bt425.2).bind fun t439 => (if t439 < 0 then ((spec_l02Of.f k 1).bind fun bt440 => ((spec_l02Add.f k bt430.1 bt430.2 bt440.1 bt440.2).bind fun bt444 => ((spec_l03Make.f k bt444.1 bt444.2 (wrap64 (-a1))).bind fun bt448 => (some (bt448.1, bt448.2.1, bt448.2.2))))) else ((spec_l03Make.f k bt430.1 bt430.2 (wrap64 (-a1))).bind fun bt453 => (some (bt453.1, bt453.2.1, bt453.2.2)))))))))
theorem spec_l03Root.mono : ∀ a0 a1 a2 a3 k, LeO (spec_l03Root.f k a0 a1 a2 a3) (spec_l03Root.f (k + 1) a0 a1 a2 a3) := by
 intro a0 a1 a2 a3 k
 unfold spec_l03Root.f
 repeat' first
   | (with_reducible exact spec_l02Add.mono _ _ _ _ _)
   | (with_reducible exact spec_l02Compare.mono _ _ _ _ _)
   | (with_reducible exact spec_l02Left.mono _ _ _ _)
   | (with_reducible exact spec_l02Mul.mono _ _ _ _ _)
   | (with_reducible exact spec_l02Of.mono _ _)
   | (with_reducible exact spec_l02Root.mono _ _ _)
   | (with_reducible exact spec_l03Ceil.mono _ _ _ _ _)
   | (with_reducible exact spec_l03Make.mono _ _ _ _)
   | (with_reducible exact LeO.refl _)
   | (with_reducible exact LeO.none _)
   | (with_reducible refine LeO.ite ?_ ?_)
   | (with_reducible refine LeO.bind ?_ (fun _ => ?_))
   | exact spec_l02Add.mono _ _ _ _ _
   | exact spec_l02Compare.mono _ _ _ _ _
   | exact spec_l02Left.mono _ _ _ _
   | exact spec_l02Mul.mono _ _ _ _ _
   | exact spec_l02Of.mono _ _
   | exact spec_l02Root.mono _ _ _
   | exact spec_l03Ceil.mono _ _ _ _ _
   | exact spec_l03Make.mono _ _ _ _
   | exact LeO.none _
   | refine LeO.ite ?_ ?_
   | refine LeO.bind ?_ (fun _ => ?_)
set_option maxRecDepth 100000 in
set_option maxHeartbeats 4000000 in
theorem spec_l03Root.calls (k : Nat) (a0_0 : Int) (A0_1 : Option Addr) (c0_1 : Nat) (l0_1 : List Int) (a0_2 : Int) (a1 : Int) (r1 : Int) (r2 : List Int) (r3 : Int) (w : World) (hr0_1 : Kd.C (Kd.int .i64) w A0_1 l0_1.length l0_1) (hc0_1 : l0_1.length ≤ c0_1) (h : spec_l03Root.f k a0_0 l0_1 a0_2 a1 = some (r1, r2, r3)) :
  Calls Tryd.prog 81 #[.agg #[.int .i64 a0_0, .slice A0_1 l0_1.length c0_1, .int .i64 a0_2], .int .i64 a1] w fun e w' => ∃ v1_ : Value, e = .returned (.agg #[.int .i64 r1, v1_, .int .i64 r3]) ∧ Kd.R (Kd.int .i64) 2 w' w.heap.size (fun _ => True) v1_ r2 ∧ Below w.heap.size w w' := by
 have HR := Aside0.mk hr0_1; have HC := Aside0.mk hc0_1; clear hr0_1 hc0_1
 unfold spec_l03Root.f at h
 obtain ⟨⟨t1, t2, t3⟩, h1, h⟩ := Option.bind_eq_some_iff.mp h
 dsimp only at h1 h
 have H1 := Aside0.mk h1; clear h1
 go_enter Tryd.func81, Tryd.ntmps81
 go_upto_region 1 with fail
 obtain ⟨w1, gp, e1, e2, hB, hb⟩ := new_box w #[.int .i64 a0_0, .slice A0_1 l0_1.length c0_1, .int .i64 a0_2] 45
 rw [← e1]; try rw [← e2]
 have P := Aside0.mk hB; have L := Aside0.mk hb; have SZ : w1.heap.size = gp + 1 := by rw [e1, e2]; simp
 clear hB hb e1 e2
 obtain ⟨w1, gr, e1, e2, hB, hb⟩ := new_box w1 #[.int .i64 0, .slice none 0 0, .int .i64 0] 45
 rw [← e1]; rw [← SZ]; rw [← e2]; clear SZ
 have R := Aside0.mk hB; have GR := Aside0.mk (show w.heap.size ≤ gr from by rw [e2]; exact L.out.size); replace P := Aside0.mk (P.out.below hb); replace L := Aside0.mk (L.out.trans (hb.mono L.out.size)); clear hB hb e1 e2
 have p0 := P.out.cell 0 _ rfl; have p1 := P.out.cell 1 _ rfl; have p2 := P.out.cell 2 _ rfl
 go_wp2_with fail
 refine (spec_l03Ceil.calls k a0_0 A0_1 c0_1 l0_1 a0_2 _ t1 t2 t3 _ (Kd.C_below HR.out L.out) HC.out H1.out).mono ?_
 rintro x w1 ⟨v, rfl, hr, hb⟩
 obtain ⟨A1, c1, rfl⟩ := Kd.R_slice hr
 have V1 := Aside0.mk (RO.of (w := w) hr L.out.size); replace R := Aside0.mk (R.out.below hb); replace L := Aside0.mk (L.out.trans (hb.mono L.out.size)); clear hr hb P p0 p1 p2
 go_upto_region 2 with fail
 obtain ⟨w1, g5, e1, e2, hB, hb⟩ := new_box w1 #[.int .i64 t1, .slice A1 t2.length c1, .int .i64 t3] 45
 rw [← e1]; try rw [← e2]
 have U := Aside0.mk hB; replace V1 := Aside0.mk (V1.out.below hb); replace R := Aside0.mk (R.out.below hb); replace L := Aside0.mk (L.out.trans (hb.mono L.out.size)); clear hB hb e1 e2
 have p0 := U.out.cell 0 _ rfl; have p1 := U.out.cell 1 _ rfl; have p2 := U.out.cell 2 _ rfl
 by_cases hz : t1 = 0
 ·rw [if_pos hz] at h
  obtain ⟨rfl, rfl, rfl⟩ : 0 = r1 ∧ [] = r2 ∧ 0 = r3 := by simpa using h
  clear h; subst hz
  obtain ⟨c0_, c1_, c2_, f0, f1, f2⟩ := ck3_ (Aside0.mk R.out.x)
  go_wp2_with fail
  refine bodyPost_ret (results_b1 rfl _ _ gr 45 #[.int .i64 0, .slice none 0 0, .int .i64 0] (0, 0) _ rfl (bq3_ R.out.x) Tryd.underlying45 rfl (by kernel_rfl)) rfl ?_
  exact ⟨_, rfl, Kd.R_nil _ _ _ _ _, set3 L.out GR.out _ _ _⟩
 ·rw [if_neg hz] at h
  obtain ⟨⟨u1, u2⟩, h1, h⟩ := Option.bind_eq_some_iff.mp h
  obtain ⟨⟨q1, q2⟩, h2, h⟩ := Option.bind_eq_some_iff.mp h
  obtain ⟨⟨m1, m2⟩, h3, h⟩ := Option.bind_eq_some_iff.mp h
  obtain ⟨o, h4, h⟩ := Option.bind_eq_some_iff.mp h
  dsimp only at h1 h2 h3 h4 h
  have H1 := Aside0.mk h1; have H2 := Aside0.mk h2; have H3 := Aside0.mk h3; have H4 := Aside0.mk h4; have HH := Aside0.mk h; clear h1 h2 h3 h4 h
  have hz2 : (t1 == 0) = false := by simpa using hz
  go_wp2_with fail
  refine (spec_l02Left.calls k t1 A1 c1 t2 _ u1 u2 _ V1.out.c V1.out.le H1.out).mono ?_
  rintro x w1 ⟨v, rfl, hr, hb⟩
  obtain ⟨A2, c2, rfl⟩ := Kd.R_slice hr
  have V2 := Aside0.mk (RO.of (w := w) hr L.out.size); replace R := Aside0.mk (R.out.below hb); replace L := Aside0.mk (L.out.trans (hb.mono L.out.size)); clear hr hb V1 U p0 p1 p2
  go_upto_region 5 with fail
  obtain ⟨w1, g6, e1, e2, hB, hb⟩ := new_box w1 #[.int .i64 u1, .slice A2 u2.length c2] 26
  rw [← e1]; try rw [← e2]
  have U := Aside0.mk hB; replace V2 := Aside0.mk (V2.out.below hb); replace R := Aside0.mk (R.out.below hb); replace L := Aside0.mk (L.out.trans (hb.mono L.out.size)); clear hB hb e1 e2
  have p0 := U.out.cell 0 _ rfl; have p1 := U.out.cell 1 _ rfl
  go_wp2_with fail
  refine (spec_l02Root.calls k u1 A2 c2 u2 q1 q2 _ V2.out.c V2.out.le H2.out).mono ?_
  rintro x w1 ⟨v, rfl, hr, hb⟩
  obtain ⟨A3, c3, rfl⟩ := Kd.R_slice hr
  have V3 := Aside0.mk (RO.of (w := w) hr L.out.size); replace V2 := Aside0.mk (V2.out.below hb); replace U := Aside0.mk (U.out.below hb); replace R := Aside0.mk (R.out.below hb); replace L := Aside0.mk (L.out.trans (hb.mono L.out.size)); clear hr hb p0 p1
  go_upto_region 6 with fail
  obtain ⟨w1, g7, e1, e2, hB, hb⟩ := new_box w1 #[.int .i64 q1, .slice A3 q2.length c3] 26
  rw [← e1]; try rw [← e2]
  have T := Aside0.mk hB; have G7 := Aside0.mk (show w.heap.size ≤ g7 ∧ gr ≠ g7 from by rw [e2]; exact ⟨L.out.size, Nat.ne_of_lt (blk_lt R.out.x)⟩); replace V3 := Aside0.mk (V3.out.below hb); replace V2 := Aside0.mk (V2.out.below hb); replace U := Aside0.mk (U.out.below hb); replace R := Aside0.mk (R.out.below hb); replace L := Aside0.mk (L.out.trans (hb.mono L.out.size)); clear hB hb e1 e2
  refine start_ (n := 6) (S := fun w' => w'.cell? ⟨g7, 0, none⟩ = some (.int .i64 q1) ∧ w'.cell? ⟨g7, 1, none⟩ = some (.slice A3 q2.length c3) ∧ w'.cell? ⟨g6, 0, none⟩ = some (.int .i64 u1) ∧ w'.cell? ⟨g6, 1, none⟩ = some (.slice A2 u2.length c2)) (ds := []) #[false, false, false, false, false, false] (by kernel_rfl) rfl rfl ⟨T.out.cell 0 _ rfl, T.out.cell 1 _ rfl, U.out.cell 0 _ rfl, U.out.cell 1 _ rfl⟩ (fun hHeld => ?_)
  have Dw2 := Aside0.mk ((Below.refl w1.heap.size w1).drew)
  generalize w1.drew = w2 at hHeld Dw2 ⊢
  refine tk_ #[true, false, false, false, false, false] 0 27 (by kernel_rfl) hHeld ?_
  refine tk_ #[true, true, false, false, false, false] 1 28 (by kernel_rfl) hHeld ?_
  refine tk_ #[true, true, false, true, false, false] 3 30 (by kernel_rfl) hHeld ?_
  refine one_ (i := 2) (N := some 29) #[true, true, true, true, false, false] rfl rfl (by kernel_rfl) (by decide) (fun K hK => ?_)
  replace T := Aside0.mk (T.out.below Dw2.out); replace V3 := Aside0.mk (V3.out.below Dw2.out); replace V2 := Aside0.mk (V2.out.below Dw2.out); replace U := Aside0.mk (U.out.below Dw2.out); replace R := Aside0.mk (R.out.below Dw2.out); replace L := Aside0.mk (L.out.trans (Dw2.out.mono L.out.size))
  refine goes_ Tryd.func119 (by kernel_rfl) rfl #[.agg #[.int .i64 q1, .slice A3 q2.length c3], .agg #[.int .i64 q1, .slice A3 q2.length c3]] (by rfl) rfl rfl ma_ ?_
  with_reducible refine (spec_l02Mul.calls k q1 A3 c3 q2 q1 A3 c3 q2 m1 m2 _ V3.out.c V3.out.le V3.out.c V3.out.le H3.out).mono ?_
  rintro x w1 ⟨v, rfl, hr, hb⟩
  refine ⟨_, rfl, ?_⟩
  obtain ⟨A4, c4, rfl⟩ := Kd.R_slice hr
  have V4 := Aside0.mk (RO.of (w := w) hr L.out.size); replace T := Aside0.mk (T.out.below hb); replace V3 := Aside0.mk (V3.out.below hb); replace V2 := Aside0.mk (V2.out.below hb); replace U := Aside0.mk (U.out.below hb); replace R := Aside0.mk (R.out.below hb); replace L := Aside0.mk (L.out.trans (hb.mono L.out.size)); clear hr hb
  refine hK.out _ _ ⟨T.out.cell 0 _ rfl, T.out.cell 1 _ rfl, U.out.cell 0 _ rfl, U.out.cell 1 _ rfl⟩ (fun hHeld => ?_)
  clear hK K
  refine nr_ ?_
  refine one_ (i := 4) (N := some 31) #[true, true, true, true, true, false] rfl rfl (by kernel_rfl) (by decide) (fun K hK => ?_)
  refine goes_ Tryd.func107 (by kernel_rfl) rfl #[.agg #[.int .i64 m1, .slice A4 m2.length c4], .agg #[.int .i64 u1, .slice A2 u2.length c2]] (by rfl) rfl rfl ma_ ?_
  with_reducible refine (spec_l02Compare.calls k m1 A4 c4 m2 u1 A2 c2 u2 o _ V4.out.c V4.out.le V2.out.c V2.out.le H4.out).mono ?_
  rintro x w1 ⟨rfl, hb⟩
  refine ⟨_, rfl, ?_⟩
  replace T := Aside0.mk (T.out.below hb); replace V3 := Aside0.mk (V3.out.below hb); replace R := Aside0.mk (R.out.below hb); replace U := Aside0.mk (U.out.below hb); replace L := Aside0.mk (L.out.trans (hb.mono L.out.size)); clear hb V4 V2
  refine hK.out _ _ ⟨T.out.cell 0 _ rfl, T.out.cell 1 _ rfl, U.out.cell 0 _ rfl, U.out.cell 1 _ rfl⟩ (fun hHeld => ?_)
  clear hK K
  refine nr_ ?_
  refine pu_ #[true, true, true, true, true, true] 5 32 (by kernel_rfl) ?_
  refine done_ (by kernel_rfl) ?_
  clear hHeld U
  by_cases ho : o < 0
  ·have h := HH.out
   rw [if_pos ho] at h
   obtain ⟨⟨n1, n2⟩, h1, h⟩ := Option.bind_eq_some_iff.mp h
   obtain ⟨⟨s1, s2⟩, h2, h⟩ := Option.bind_eq_some_iff.mp h
   obtain ⟨⟨x1, x2, x3⟩, h3, h⟩ := Option.bind_eq_some_iff.mp h
   dsimp only at h1 h2 h3 h
   obtain ⟨rfl, rfl, rfl⟩ : x1 = r1 ∧ x2 = r2 ∧ x3 = r3 := by simpa using h
   have H1 := Aside0.mk h1; have H2 := Aside0.mk h2; have H3 := Aside0.mk h3; clear h1 h2 h3 h HH
   go_upto_region 7 with fail
   refine start_ (n := 4) (S := fun w' => w'.cell? ⟨g7, 0, none⟩ = some (.int .i64 q1) ∧ w'.cell? ⟨g7, 1, none⟩ = some (.slice A3 q2.length c3)) (ds := [3]) #[false, false, false, false] (by kernel_rfl) rfl rfl ⟨T.out.cell 0 _ rfl, T.out.cell 1 _ rfl⟩ (fun hHeld => ?_)
   have Dw2 := Aside0.mk ((Below.refl w1.heap.size w1).drew)
   generalize w1.drew = w2 at hHeld Dw2 ⊢
   refine tk_ #[true, false, false, false] 0 33 (by kernel_rfl) hHeld ?_
   refine one_ (i := 1) (N := some 34) #[true, true, false, false] rfl rfl (by kernel_rfl) (by decide) (fun K hK => ?_)
   replace T := Aside0.mk (T.out.below Dw2.out); replace V3 := Aside0.mk (V3.out.below Dw2.out); replace R := Aside0.mk (R.out.below Dw2.out); replace L := Aside0.mk (L.out.trans (Dw2.out.mono L.out.size))
   refine goes_ Tryd.func104 (by kernel_rfl) rfl #[.int .i64 1] (by rfl) rfl rfl ma_ ?_
   with_reducible refine (spec_l02Of.calls k 1 n1 n2 _ H1.out).mono ?_
   rintro x w1 ⟨v, rfl, hr, hb⟩
   refine ⟨_, rfl, ?_⟩
   obtain ⟨A4, c4, rfl⟩ := Kd.R_slice hr
   have V4 := Aside0.mk (RO.of (w := w) hr L.out.size); replace T := Aside0.mk (T.out.below hb); replace V3 := Aside0.mk (V3.out.below hb); replace R := Aside0.mk (R.out.below hb); replace L := Aside0.mk (L.out.trans (hb.mono L.out.size)); clear hr hb
   refine hK.out _ _ ⟨T.out.cell 0 _ rfl, T.out.cell 1 _ rfl⟩ (fun hHeld => ?_)
   clear hK K
   refine nr_ ?_
   refine one_ (i := 2) (N := some 35) #[true, true, true, false] rfl rfl (by kernel_rfl) (by decide) (fun K hK => ?_)
   refine goes_ Tryd.func105 (by kernel_rfl) rfl #[.agg #[.int .i64 q1, .slice A3 q2.length c3], .agg #[.int .i64 n1, .slice A4 n2.length c4]] (by rfl) rfl rfl ma_ ?_
   with_reducible refine (spec_l02Add.calls k q1 A3 c3 q2 n1 A4 c4 n2 s1 s2 _ V3.out.c V3.out.le V4.out.c V4.out.le H2.out).mono ?_
   rintro x w1 ⟨v, rfl, hr, hb⟩
   refine ⟨_, rfl, ?_⟩
   obtain ⟨A5, c5, rfl⟩ := Kd.R_slice hr
   have V5 := Aside0.mk (RO.of (w := w) hr L.out.size); replace T := Aside0.mk (T.out.below hb); replace R := Aside0.mk (R.out.below hb); replace L := Aside0.mk (L.out.trans (hb.mono L.out.size)); clear hr hb V3 V4
   have f0 := blk_frozen T.out.x 0; have f1 := blk_frozen T.out.x 1
   refine hK.out _ _ ⟨T.out.cell 0 _ rfl, T.out.cell 1 _ rfl⟩ (fun hHeld => ?_)
   clear hK K
   refine nr_ ?_
   refine last_ (i := 3) (N := none) #[true, true, true, true] rfl rfl (by kernel_rfl) (by decide) (fun K hK => ?_)
   refine skip_ (w1 := ?_) (by rfl) rfl ?_ ?_
   rotate_left
   ·go_simp
    rfl
   refine hK.out _ _ ?_
   clear hK K
   refine done_ (by kernel_rfl) ?_
   clear hHeld
   obtain ⟨w2, e⟩ : ∃ w2, w2 = (w1.setCell ⟨g7, 0, none⟩ (.int .i64 s1)).setCell ⟨g7, 1, none⟩ (.slice A5 s2.length c5) := ⟨_, rfl⟩
   replace V5 := Aside0.mk (show RO w w2 (.slice A5 s2.length c5) s2 from e ▸ (V5.out.far T.out (by decide) 0 _).far ⟨blk_put (cs := #[.int .i64 q1, .slice A3 q2.length c3]) T.out.x 0 _ rfl⟩ (by decide) 1 _)
   replace R := Aside0.mk (show BX w2 gr #[.int .i64 0, .slice none 0 0, .int .i64 0] 45 from e ▸ (R.out.far G7.out.2 0 _).far G7.out.2 1 _)
   replace L := Aside0.mk (show Below w.heap.size w w2 from e ▸ ((L.out.setCell (show w.heap.size ≤ (⟨g7, 0, none⟩ : Addr).block from G7.out.1) _).setCell (show w.heap.size ≤ (⟨g7, 1, none⟩ : Addr).block from G7.out.1) _))
   replace T := Aside0.mk (show BX w2 g7 #[.int .i64 s1, .slice A5 s2.length c5] 26 from e ▸ ⟨bq2_ T.out.x⟩)
   rw [← e]; clear e f0 f1
   have p0 := T.out.cell 0 _ rfl; have p1 := T.out.cell 1 _ rfl
   go_wp2_with fail
   refine (spec_l03Make.calls k s1 A5 c5 s2 _ x1 x2 x3 _ V5.out.c V5.out.le H3.out).mono ?_
   rintro x w3 ⟨v, rfl, hr, hb⟩
   obtain ⟨A6, c6, rfl⟩ := Kd.R_slice hr
   have V6 := Aside0.mk (RO.of (w := w) hr L.out.size); replace R := Aside0.mk (R.out.below hb); replace L := Aside0.mk (L.out.trans (hb.mono L.out.size)); clear hr hb p0 p1
   obtain ⟨c0_, c1_, c2_, f0, f1, f2⟩ := ck3_ (Aside0.mk R.out.x)
   go_wp2_with fail
   refine bodyPost_ret (results_b1 rfl _ _ gr 45 #[.int .i64 x1, .slice A6 x2.length c6, .int .i64 x3] (0, 0) _ rfl (bq3_ R.out.x) Tryd.underlying45 rfl (by kernel_rfl)) rfl ?_
   exact ⟨_, rfl, V6.out.fin R.out.x (by decide) _ _ _, set3 L.out GR.out _ _ _⟩
  ·have h := HH.out
   rw [if_neg ho] at h
   obtain ⟨⟨x1, x2, x3⟩, h3, h⟩ := Option.bind_eq_some_iff.mp h
   dsimp only at h3 h
   obtain ⟨rfl, rfl, rfl⟩ : x1 = r1 ∧ x2 = r2 ∧ x3 = r3 := by simpa using h
   have H3 := Aside0.mk h3; clear h3 h HH
   have p0 := T.out.cell 0 _ rfl; have p1 := T.out.cell 1 _ rfl
   go_wp2_with fail
   refine (spec_l03Make.calls k q1 A3 c3 q2 _ x1 x2 x3 _ V3.out.c V3.out.le H3.out).mono ?_
   rintro x w3 ⟨v, rfl, hr, hb⟩
   obtain ⟨A6, c6, rfl⟩ := Kd.R_slice hr
   have V6 := Aside0.mk (RO.of (w := w) hr L.out.size); replace R := Aside0.mk (R.out.below hb); replace L := Aside0.mk (L.out.trans (hb.mono L.out.size)); clear hr hb p0 p1
   obtain ⟨c0_, c1_, c2_, f0, f1, f2⟩ := ck3_ (Aside0.mk R.out.x)
   go_wp2_with fail
   refine bodyPost_ret (results_b1 rfl _ _ gr 45 #[.int .i64 x1, .slice A6 x2.length c6, .int .i64 x3] (0, 0) _ rfl (bq3_ R.out.x) Tryd.underlying45 rfl (by kernel_rfl)) rfl ?_
   exact ⟨_, rfl, V6.out.fin R.out.x (by decide) _ _ _, set3 L.out GR.out _ _ _⟩
end Go.Proofs.YtghhphndbbefjaaDoor.X
