/- The contract of impl.CommonOfWholes in plain words. Condition: at most 1000000000 limbs. -/
import Derived.Test.YtghhphndbbefjaaDoorBndB
import Derived.Test.YtghhphndbbefjaaDoorBig19
namespace Go.Proofs.YtghhphndbbefjaaDoor
open Go.RowKit Go.Proofs.YtghhphndbbefjaaDoorW.PrintWords Go.Proofs.YtghhphndbbefjaaDoorW.PrintLast Go.Proofs.YtghhphndbbefjaaDoorW.PrintMore Go.Proofs.YtghhphndbbefjaaDoor.Math Go.Proofs.YtghhphndbbefjaaDoor.Big
set_option linter.unusedVariables false
set_option linter.unusedSimpArgs false

theorem iabs_nat (n : Int) : iabs n = ((n.natAbs : Nat) : Int) := by
  unfold iabs
  split <;> omega
set_option maxHeartbeats 1000000 in
theorem coms : Makes 60 (fun n k => ((Nat.gcd n.natAbs k.natAbs : Nat) : Int)) := by
  intro x y n k w0 w hx hy hne h1 h2 h3
  have HX := Aside0.mk hx
  have HY := Aside0.mk hy
  have HB := Aside0.mk (And.intro h1 (And.intro h2 h3))
  have NE := Aside0.mk hne
  have LX := Aside0.mk (And.intro hx.lt hy.lt)
  clear hx hy h1 h2 h3 hne
  go_enter Tryd.func60, Tryd.ntmps60
  go_wp2_with fail
  refine (abs_calls x x n 200 _ (HX.out.is.alloc _) (HX.out.below (below_alloc (Below.refl _ _) _)) (by omega)).mono ?_
  rintro e w1 ⟨rfl, hb1, hg1⟩
  rw [iabs_nat] at hb1
  have HZ1 := Aside0.mk ((is_new w).grown hg1 (Nat.ne_of_gt LX.out.1))
  have HX1 := Aside0.mk hb1
  have HY1 := Aside0.mk ((HY.out.below (below_alloc (Below.refl _ _) _)).grown hg1 (HX.out.is.alloc _) (Ne.symm NE.out))
  have L1 := Aside0.mk (below_of_grown (HB.out.2.2.alloc HB.out.2.2.size (.cells #[.bool false, .slice none 0 0] 73)) hg1 HB.out.1)
  clear hb1 hg1
  go_wp2_with fail
  refine (abs_calls y y k 200 _ HY1.out.is HY1.out (by omega)).mono ?_
  rintro e w2 ⟨rfl, hb2, hg2⟩
  rw [iabs_nat] at hb2
  have HZ2 := Aside0.mk (HZ1.out.grown hg2 (Nat.ne_of_gt LX.out.2))
  have HX2 := Aside0.mk (HX1.out.grown hg2 HY1.out.is NE.out)
  have HY2 := Aside0.mk hb2
  have L2 := Aside0.mk (below_of_grown L1.out hg2 HB.out.2.1)
  clear hb2 hg2
  go_wp2_with fail
  refine (gcd_calls w.heap.size x y n.natAbs k.natAbs 200 _ HZ2.out HX2.out HY2.out (by omega)).mono ?_
  rintro e w3 ⟨rfl, hb3, hg3⟩
  have HZ3 := Aside0.mk hb3
  have L3 := Aside0.mk (below_of_grown L2.out hg3 HB.out.2.2.size)
  clear hb3 hg3
  go_wp2
  go_ret
  exact ⟨_, rfl, HZ3.out.more (by omega), L3.out⟩
def impl_CommonOfWholes.f (a0_0 : Int) (l0_1 : List Int) (a1_0 : Int) (l1_1 : List Int) : Option (Int × List Int × Int) := if l0_1.length ≤ 1000000000 ∧ l1_1.length ≤ 1000000000 then some (bfit (fun n k => ((Nat.gcd n.natAbs k.natAbs : Nat) : Int)) a0_0 l0_1 a1_0 l1_1) else none
set_option maxRecDepth 100000 in
set_option maxHeartbeats 2000000 in
theorem impl_CommonOfWholes.calls (a0_0 : Int) (A0_1 : Option Addr) (c0_1 : Nat) (l0_1 : List Int) (a1_0 : Int) (A1_1 : Option Addr) (c1_1 : Nat) (l1_1 : List Int) (r1 : Int) (r2 : List Int) (r3 : Int) (w : World) (hr0_1 : Kd.C (Kd.int .i64) w A0_1 l0_1.length l0_1) (hc0_1 : l0_1.length ≤ c0_1) (hr1_1 : Kd.C (Kd.int .i64) w A1_1 l1_1.length l1_1) (hc1_1 : l1_1.length ≤ c1_1) (h : impl_CommonOfWholes.f a0_0 l0_1 a1_0 l1_1 = some (r1, r2, r3)) :
    Calls Tryd.prog 23 #[.agg #[.int .i64 a0_0, .slice A0_1 l0_1.length c0_1], .agg #[.int .i64 a1_0, .slice A1_1 l1_1.length c1_1]] w fun e w' => ∃ v1_ : Value, e = .returned (.tuple #[.agg #[.int .i64 r1, v1_], .int .i64 r3]) ∧ Kd.R (Kd.int .i64) 2 w' w.heap.size (fun _ => True) v1_ r2 ∧ Below w.heap.size w w' := by
  unfold impl_CommonOfWholes.f at h
  split at h
  case isFalse => cases h
  rename_i hl
  injection h with h
  have HR := Aside0.mk hr0_1
  have HS := Aside0.mk hr1_1
  have T0 := Aside0.mk (TwoBox.start w a0_0 A0_1 c0_1 l0_1 a1_0 A1_1 c1_1 l1_1)
  have R0 := Aside0.mk (ResAt.next T0.out.lo)
  have T1 := Aside0.mk (T0.out.below (below_alloc (Below.refl _ _) (.cells #[.int .i64 0, .slice none 0 0] 26)))
  have HL := Aside0.mk hl
  have HH := Aside0.mk h
  clear hr0_1 hr1_1 hl T0 h
  have hsz : ((w.alloc (.cells #[.int .i64 a0_0, .slice A0_1 l0_1.length c0_1] 26)).alloc (.cells #[.int .i64 a1_0, .slice A1_1 l1_1.length c1_1] 26)).heap.size = w.heap.size + 2 := by rw [alloc_size, alloc_size]
  rw [hsz] at R0
  clear hsz
  go_enter Tryd.func23, Tryd.ntmps23
  go_wp2_with fail
  refine (binary_calls Tryd.func60 rfl rfl _ coms _ _ _ _ _ _ _ _ r1 r2 r3 _ (Kd.C_below HR.out T1.out.lo) hc0_1 (Kd.C_below HS.out T1.out.lo) hc1_1 HL.out HH.out).mono ?_
  rintro e w1 ⟨v, rfl, hr, hb⟩
  obtain ⟨u1, u2, rfl⟩ := own_slice hr
  have R1 := Aside0.mk (R0.out.below hb)
  have HRW := Aside0.mk hr
  obtain ⟨q0, q1, q2, q3⟩ := R1.out.cells
  clear hr hb
  go_wp2_with fail
  refine bodyPost_ret (results_ct rfl _ _ (w.heap.size + 2) 26 #[.int .i64 r1, .slice u1 r2.length u2] (0, 0) _ rfl (R1.out.put _ _) Tryd.underlying26 rfl (by kernel_rfl)) rfl ?_
  exact ⟨_, rfl, R1.out.row HRW.out R0.out.lo.size _ _, R1.out.low _ _⟩
end Go.Proofs.YtghhphndbbefjaaDoor
