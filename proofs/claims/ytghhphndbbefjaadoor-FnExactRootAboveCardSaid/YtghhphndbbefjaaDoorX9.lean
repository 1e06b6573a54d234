/- Functions of the program as plain Lean functions, each with a proof that its call does what that function says. Printed by a program over the kit's print; conditions stand in each contract. -/
import Derived.Test.YtghhphndbbefjaaDoorLawD
import Derived.Test.YtghhphndbbefjaaDoorG10
import Derived.Test.YtghhphndbbefjaaDoorG15
import Derived.Test.YtghhphndbbefjaaDoorG17
import Derived.Test.YtghhphndbbefjaaDoorG20
namespace Go.Proofs.YtghhphndbbefjaaDoor.X
open Go.RowKit Go.Proofs.YtghhphndbbefjaaDoorW.PrintWords Go.Proofs.YtghhphndbbefjaaDoorW.PrintLast Go.Proofs.YtghhphndbbefjaaDoorW.PrintMore Go.Proofs.YtghhphndbbefjaaDoor.Sq
attribute [local go_sem] max2_int min2_int max_two min_two max_three min_three max_four min_four   -- for this text's walks alone
set_option linter.unusedVariables false
set_option linter.unusedSimpArgs false
mutual
def spec_RootAbove.j0 : Nat → Int → Int → Bool → Int → List Int → Int → Option (Int × List Int × Int × Int)
  | 0, _, _, _, _, _, _ => none
  | k + 1, x1, x6, x28, x459000, x459001, x459002 => if x28 = true then (spec_RootAbove.j1 k x1 2 x459000 x459001 x459002) else (spec_RootAbove.j1 k x1 x6 x459000 x459001 x459002)
def spec_RootAbove.j1 : Nat → Int → Int → Int → List Int → Int → Option (Int × List Int × Int × Int)
  | 0, _, _, _, _, _ => none
  | k + 1, x1, x6, x459000, x459001, x459002 => if x6 = 0 then ((spec_l03Root.f k x459000 x459001 x459002 x1).bind fun bt462 => ((spec_l03Fit.f k bt462.1 bt462.2.1 bt462.2.2).bind fun bt467 => (some (bt467.1, bt467.2.1, bt467.2.2.1, bt467.2.2.2)))) else (some (0, ([] : List Int), 0, x6))
end
def spec_RootAbove.f (k : Nat) (a0_0 : Int) (l0_1 : List Int) (a0_2 : Int) (a1 : Int) : Option (Int × List Int × Int × Int) := (spec_l03Range.f k a0_0 l0_1 a0_2 a1 0 200).bind fun t460 => (if t460 = 0 then (if a0_0 < 0 then (spec_RootAbove.j0 k a1 t460 true a0_0 l0_1 a0_2) else ((spec_l02Length.f k a0_0 l0_1).bind fun t461 => (spec_RootAbove.j0 k a1 t460 (decide ((wrap64 (t461 + a0_2)) > 400)) a0_0 l0_1 a0_2))) else (spec_RootAbove.j0 k a1 t460 false a0_0 l0_1 a0_2))
theorem spec_RootAbove.mono_l : ∀ k, (∀ y0 y1 y2 y3 y4 y5, LeO (spec_RootAbove.j0 k y0 y1 y2 y3 y4 y5) (spec_RootAbove.j0 (k + 1) y0 y1 y2 y3 y4 y5)) ∧ (∀ y0 y1 y2 y3 y4, LeO (spec_RootAbove.j1 k y0 y1 y2 y3 y4) (spec_RootAbove.j1 (k + 1) y0 y1 y2 y3 y4))
  | 0 => ⟨fun _ _ _ _ _ _ r h => by simp [spec_RootAbove.j0] at h, fun _ _ _ _ _ r h => by simp [spec_RootAbove.j1] at h⟩
  | k + 1 => by
    obtain ⟨ih0, ih1⟩ := spec_RootAbove.mono_l k
    refine ⟨?_, ?_⟩
    · intro y0 y1 y2 y3 y4 y5
      unfold spec_RootAbove.j0
      repeat' first
      | (with_reducible exact ih0 _ _ _ _ _ _)
      | (with_reducible exact ih1 _ _ _ _ _)
      | (with_reducible exact spec_l02Length.mono _ _ _)
      | (with_reducible exact spec_l03Fit.mono _ _ _ _)
      | (with_reducible exact spec_l03Range.mono _ _ _ _ _ _ _)
      | (with_reducible exact spec_l03Root.mono _ _ _ _ _)
      | (with_reducible exact LeO.refl _)
      | (with_reducible exact LeO.none _)
      | (with_reducible refine LeO.ite ?_ ?_)
      | (with_reducible refine LeO.bind ?_ (fun _ => ?_))
      | exact ih0 _ _ _ _ _ _
      | exact ih1 _ _ _ _ _
      | exact spec_l02Length.mono _ _ _
      | exact spec_l03Fit.mono _ _ _ _
      | exact spec_l03Range.mono _ _ _ _ _ _ _
      | exact spec_l03Root.mono _ _ _ _ _
      | exact LeO.none _
      | refine LeO.ite ?_ ?_
      | refine LeO.bind ?_ (fun _ => ?_)
    · intro y0 y1 y2 y3 y4
      unfold spec_RootAbove.j1
      repeat' first
      | (with_reducible exact ih0 _ _ _ _ _ _)
      | (with_reducible exact ih1 _ _ _ _ _)
      | (with_reducible exact spec_l02Length.mono _ _ _)
      | (with_reducible exact spec_l03Fit.mono _ _ _ _)
      | (with_reducible exact spec_l03Range.mono _ _ _ _ _ _ _)
      | (with_reducible exact spec_l03Root.mono _ _ _ _ _)
      | (with_reducible exact LeO.refl _)
      | (with_reducible exact LeO.none _)
      | (with_reducible refine LeO.ite ?_ ?_)
      | (with_reducible refine LeO.bind ?_ (fun _ => ?_))
      | exact ih0 _ _ _ _ _ _
      | exact ih1 _ _ _ _ _
      | exact spec_l02Length.mono _ _ _
      | exact spec_l03Fit.mono _ _ _ _
      | exact spec_l03Range.mono _ _ _ _ _ _ _
      | exact spec_l03Root.mono _ _ _ _ _
      | exact LeO.none _
      | refine LeO.ite ?_ ?_
      | refine LeO.bind ?_ (fun _ => ?_)
theorem spec_RootAbove.mono : ∀ a0 a1 a2 a3 k, LeO (spec_RootAbove.f k a0 a1 a2 a3) (spec_RootAbove.f (k + 1) a0 a1 a2 a3) := by
  intro a0 a1 a2 a3 k
  obtain ⟨ih0, ih1⟩ := spec_RootAbove.mono_l k
  unfold spec_RootAbove.f
  repeat' first
      | (with_reducible exact ih0 _ _ _ _ _ _)
      | (with_reducible exact ih1 _ _ _ _ _)
      | (with_reducible exact spec_l02Length.mono _ _ _)
      | (with_reducible exact spec_l03Fit.mono _ _ _ _)
      | (with_reducible exact spec_l03Range.mono _ _ _ _ _ _ _)
      | (with_reducible exact spec_l03Root.mono _ _ _ _ _)
      | (with_reducible exact LeO.refl _)
      | (with_reducible exact LeO.none _)
      | (with_reducible refine LeO.ite ?_ ?_)
      | (with_reducible refine LeO.bind ?_ (fun _ => ?_))
      | exact ih0 _ _ _ _ _ _
      | exact ih1 _ _ _ _ _
      | exact spec_l02Length.mono _ _ _
      | exact spec_l03Fit.mono _ _ _ _
      | exact spec_l03Range.mono _ _ _ _ _ _ _
      | exact spec_l03Root.mono _ _ _ _ _
      | exact LeO.none _
      | refine LeO.ite ?_ ?_
      | refine LeO.bind ?_ (fun _ => ?_)
def spec_RootAbove.T2 : Bool × List (List Nat × List Nat) := (true, [([], []), ([0], [0]), ([1], [1]), ([2], [2]), ([3, 2], [2, 3]), ([4, 2], [2, 4]), ([5, 2], [2, 5]), ([6, 2, 2], [2, 6]), ([7], [7]), ([8, 7], [7, 8]), ([9, 7, 7], [7, 9]), ([7], [7]), ([11, 7], [7, 11]), ([10, 12, 7], [7, 10, 12]), ([13, 7], [7, 13]), ([7, 14, 2], [2, 7, 14]), ([2, 15], [2, 15])])
def spec_RootAbove.B2 : List Nat := [0, 1, 3, 7, 15, 31, 63, 127, 255, 511, 1023, 255, 2303, 8191, 16383, 32767, 65535]
set_option maxRecDepth 100000 in
set_option maxHeartbeats 4000000 in
theorem spec_RootAbove.calls (k : Nat) (a0_0 : Int) (A0_1 : Option Addr) (c0_1 : Nat) (l0_1 : List Int) (a0_2 : Int) (a1 : Int) (r1 : Int) (r2 : List Int) (r3 : Int) (r4 : Int) (w : World) (hr0_1 : Kd.C (Kd.int .i64) w A0_1 l0_1.length l0_1) (hc0_1 : l0_1.length ≤ c0_1) (h : spec_RootAbove.f k a0_0 l0_1 a0_2 a1 = some (r1, r2, r3, r4)) :
    Calls Tryd.prog 39 #[.agg #[.int .i64 a0_0, .slice A0_1 l0_1.length c0_1, .int .i64 a0_2], .int .i64 a1] w fun e w' => ∃ v1_ : Value, e = .returned (.tuple #[.agg #[.int .i64 r1, v1_, .int .i64 r3], .int .i64 r4]) ∧ Kd.R (Kd.int .i64) 2 w' w.heap.size (fun _ => True) v1_ r2 ∧ Below w.heap.size w w' := by
  have HR := Aside0.mk hr0_1; have HC := Aside0.mk hc0_1; clear hr0_1 hc0_1
  unfold spec_RootAbove.f at h
  obtain ⟨t, h1, h⟩ := Option.bind_eq_some_iff.mp h
  have H1 := Aside0.mk h1; have HH := Aside0.mk h; clear h1 h
  go_enter Tryd.func39, Tryd.ntmps39
  go_upto_region 1 with fail
  obtain ⟨w1, gp, e1, e2, hB, hb⟩ := new_box w #[.int .i64 a0_0, .slice A0_1 l0_1.length c0_1, .int .i64 a0_2] 45
  rw [← e1]; try rw [← e2]
  have P := Aside0.mk hB; have L := Aside0.mk hb; have SZ : w1.heap.size = gp + 1 := by rw [e1, e2]; simp
  clear hB hb e1 e2
  obtain ⟨w1, gr, e1, e2, hB, hb⟩ := new_box w1 #[.int .i64 0, .slice none 0 0, .int .i64 0] 45
  rw [← e1]; rw [← SZ]; rw [← e2]; clear SZ
  have R := Aside0.mk hB; have GR := Aside0.mk (show w.heap.size ≤ gr from by rw [e2]; exact L.out.size); replace P := Aside0.mk (P.out.below hb); replace L := Aside0.mk (L.out.trans (hb.mono L.out.size)); clear hB hb e1 e2
  have p0 := P.out.cell 0 _ rfl; have p1 := P.out.cell 1 _ rfl; have p2 := P.out.cell 2 _ rfl
  go_wp2_with fail
  refine (spec_l03Range.calls k a0_0 A0_1 c0_1 l0_1 a0_2 a1 0 200 t _ (Kd.C_below HR.out L.out) HC.out H1.out).mono ?_
  rintro x w1 ⟨rfl, hb⟩
  replace P := Aside0.mk (P.out.below hb); replace R := Aside0.mk (R.out.below hb); replace L := Aside0.mk (L.out.trans (hb.mono L.out.size)); clear hb p0 p1 p2
  go_upto_region 2 with fail
  by_cases ht : t = 0
  · subst ht
    have h := HH.out; clear HH
    rw [if_pos rfl] at h
    by_cases hs : a0_0 < 0
    · rw [if_pos hs] at h
      cases k with
      | zero => cases h
      | succ k =>
      rw [spec_RootAbove.j0, if_pos rfl] at h
      cases k with
      | zero => cases h
      | succ k =>
      rw [spec_RootAbove.j1, if_neg (by omega)] at h
      obtain ⟨rfl, rfl, rfl, rfl⟩ : 0 = r1 ∧ [] = r2 ∧ 0 = r3 ∧ 2 = r4 := by simpa using h
      clear h
      refine start_ (n := 17) (S := fun w' => w'.cell? ⟨gp, 0, none⟩ = some (.int .i64 a0_0)) (ds := []) #[false, false, false, false, false, false, false, false, false, false, false, false, false, false, false, false, false] (by kernel_rfl) rfl rfl (P.out.cell 0 _ rfl) (fun hHeld => ?_)
      have Dw2 := Aside0.mk ((Below.refl w1.heap.size w1).drew)
      generalize w1.drew = w2 at hHeld Dw2 ⊢
      refine pu_ #[true, false, false, false, false, false, false, false, false, false, false, false, false, false, false, false, false] 0 12 (by kernel_rfl) ?_
      refine pu_ #[true, true, false, false, false, false, false, false, false, false, false, false, false, false, false, false, false] 1 13 (by kernel_rfl) ?_
      refine pu_ #[true, true, true, false, false, false, false, false, false, false, false, false, false, false, false, false, false] 2 14 (by kernel_rfl) ?_
      refine pu_ #[true, true, true, true, false, false, false, false, false, false, false, false, false, false, false, false, false] 3 15 (by kernel_rfl) ?_
      refine pu_ #[true, true, true, true, true, false, false, false, false, false, false, false, false, false, false, false, false] 4 16 (by kernel_rfl) ?_
      refine tk_ #[true, true, true, true, true, true, false, false, false, false, false, false, false, false, false, false, false] 5 17 (by kernel_rfl) hHeld ?_
      refine pu_ #[true, true, true, true, true, true, true, false, false, false, false, false, false, false, false, false, false] 6 18 (by kernel_rfl) ?_
      refine pu_ #[true, true, true, true, true, true, true, true, false, false, false, false, false, false, false, false, false] 7 19 (by kernel_rfl) ?_
      refine pn_ #[true, true, true, true, true, true, true, true, true, false, false, false, false, false, false, false, false] 8 20 (by kernel_rfl) ?_
      refine pn_ #[true, true, true, true, true, true, true, true, true, true, false, false, false, false, false, false, false] 9 21 (by kernel_rfl) ?_
      refine pn_ #[true, true, true, true, true, true, true, true, true, true, true, false, false, false, false, false, false] 10 22 (by kernel_rfl) ?_
      refine pn_ #[true, true, true, true, true, true, true, true, true, true, true, true, false, false, false, false, false] 11 23 (by kernel_rfl) ?_
      refine pn_ #[true, true, true, true, true, true, true, true, true, true, true, true, true, false, false, false, false] 12 24 (by kernel_rfl) ?_
      refine pn_ #[true, true, true, true, true, true, true, true, true, true, true, true, true, true, false, false, false] 13 25 (by kernel_rfl) ?_
      refine pn_ #[true, true, true, true, true, true, true, true, true, true, true, true, true, true, true, false, false] 14 26 (by kernel_rfl) ?_
      refine pu_ #[true, true, true, true, true, true, true, true, true, true, true, true, true, true, true, true, false] 15 27 (by kernel_rfl) ?_
      refine pu_ #[true, true, true, true, true, true, true, true, true, true, true, true, true, true, true, true, true] 16 28 (by kernel_rfl) ?_
      refine done_ (by kernel_rfl) ?_
      replace R := Aside0.mk (R.out.below Dw2.out); replace L := Aside0.mk (L.out.trans (Dw2.out.mono L.out.size))
      obtain ⟨c0_, c1_, c2_, f0, f1, f2⟩ := ck3_ (Aside0.mk R.out.x)
      go_wp2_with fail
      refine bodyPost_ret (results_ct rfl _ _ gr 45 #[.int .i64 0, .slice none 0 0, .int .i64 0] (0, 0) _ rfl (bq3_ R.out.x) Tryd.underlying45 rfl (by kernel_rfl)) rfl ?_
      exact ⟨_, rfl, Kd.R_nil _ _ _ _ _, set3 L.out GR.out _ _ _⟩
    · rw [if_neg hs] at h
      obtain ⟨n, h1, h⟩ := Option.bind_eq_some_iff.mp h
      have H2 := Aside0.mk h1; have HH := Aside0.mk h; clear h1 h
      refine start_ (n := 17) (S := fun w' => w'.cell? ⟨gp, 0, none⟩ = some (.int .i64 a0_0) ∧ w'.cell? ⟨gp, 1, none⟩ = some (.slice A0_1 l0_1.length c0_1) ∧ w'.cell? ⟨gp, 2, none⟩ = some (.int .i64 a0_2)) (ds := []) #[false, false, false, false, false, false, false, false, false, false, false, false, false, false, false, false, false] (by kernel_rfl) rfl rfl ⟨P.out.cell 0 _ rfl, P.out.cell 1 _ rfl, P.out.cell 2 _ rfl⟩ (fun hHeld => ?_)
      have Dw2 := Aside0.mk ((Below.refl w1.heap.size w1).drew)
      generalize w1.drew = w2 at hHeld Dw2 ⊢
      refine pu_ #[true, false, false, false, false, false, false, false, false, false, false, false, false, false, false, false, false] 0 12 (by kernel_rfl) ?_
      refine pu_ #[true, true, false, false, false, false, false, false, false, false, false, false, false, false, false, false, false] 1 13 (by kernel_rfl) ?_
      refine pu_ #[true, true, true, false, false, false, false, false, false, false, false, false, false, false, false, false, false] 2 14 (by kernel_rfl) ?_
      refine pu_ #[true, true, true, true, false, false, false, false, false, false, false, false, false, false, false, false, false] 3 15 (by kernel_rfl) ?_
      refine pu_ #[true, true, true, true, true, false, false, false, false, false, false, false, false, false, false, false, false] 4 16 (by kernel_rfl) ?_
      refine tk_ #[true, true, true, true, true, true, false, false, false, false, false, false, false, false, false, false, false] 5 17 (by kernel_rfl) hHeld ?_
      refine pu_ #[true, true, true, true, true, true, true, false, false, false, false, false, false, false, false, false, false] 6 18 (by kernel_rfl) ?_
      refine pu_ #[true, true, true, true, true, true, true, true, false, false, false, false, false, false, false, false, false] 7 19 (by kernel_rfl) ?_
      refine pu_ #[true, true, true, true, true, true, true, true, true, false, false, false, false, false, false, false, false] 8 20 (by kernel_rfl) ?_
      refine pu_ #[true, true, true, true, true, true, true, true, true, false, false, true, false, false, false, false, false] 11 23 (by kernel_rfl) ?_
      refine tk_ #[true, true, true, true, true, true, true, true, true, true, false, true, false, false, false, false, false] 9 21 (by kernel_rfl) hHeld ?_
      refine tk_ #[true, true, true, true, true, true, true, true, true, true, false, true, true, false, false, false, false] 12 24 (by kernel_rfl) hHeld ?_
      refine one_ (i := 10) (N := some 22) #[true, true, true, true, true, true, true, true, true, true, true, true, true, false, false, false, false] rfl rfl (by kernel_rfl) (by decide) (fun K hK => ?_)
      replace P := Aside0.mk (P.out.below Dw2.out); replace R := Aside0.mk (R.out.below Dw2.out); replace L := Aside0.mk (L.out.trans (Dw2.out.mono L.out.size))
      refine goes_ Tryd.func80 (by kernel_rfl) rfl #[.agg #[.int .i64 a0_0, .slice A0_1 l0_1.length c0_1]] (by rfl) rfl rfl ma_ ?_
      with_reducible refine (spec_l02Length.calls k a0_0 A0_1 c0_1 l0_1 n _ (Kd.C_below HR.out L.out) HC.out H2.out).mono ?_
      rintro x w1 ⟨rfl, hb⟩
      refine ⟨_, rfl, ?_⟩
      replace P := Aside0.mk (P.out.below hb); replace R := Aside0.mk (R.out.below hb); replace L := Aside0.mk (L.out.trans (hb.mono L.out.size)); clear hb
      refine hK.out _ _ ⟨P.out.cell 0 _ rfl, P.out.cell 1 _ rfl, P.out.cell 2 _ rfl⟩ (fun hHeld => ?_)
      clear hK K
      refine nr_ ?_
      refine pu_ #[true, true, true, true, true, true, true, true, true, true, true, true, true, true, false, false, false] 13 25 (by kernel_rfl) ?_
      refine pu_ #[true, true, true, true, true, true, true, true, true, true, true, true, true, true, true, false, false] 14 26 (by kernel_rfl) ?_
      refine pu_ #[true, true, true, true, true, true, true, true, true, true, true, true, true, true, true, true, false] 15 27 (by kernel_rfl) ?_
      refine pu_ #[true, true, true, true, true, true, true, true, true, true, true, true, true, true, true, true, true] 16 28 (by kernel_rfl) ?_
      refine done_ (by kernel_rfl) ?_
      clear hHeld
      by_cases hg : wrap64 (n + a0_2) > 400
      · have h := HH.out; clear HH
        cases k with
        | zero => cases h
        | succ k =>
        rw [spec_RootAbove.j0, if_pos (decide_eq_true hg)] at h
        cases k with
        | zero => cases h
        | succ k =>
        rw [spec_RootAbove.j1, if_neg (by omega)] at h
        obtain ⟨rfl, rfl, rfl, rfl⟩ : 0 = r1 ∧ [] = r2 ∧ 0 = r3 ∧ 2 = r4 := by simpa using h
        clear h
        obtain ⟨c0_, c1_, c2_, f0, f1, f2⟩ := ck3_ (Aside0.mk R.out.x)
        go_wp2_with fail
        refine bodyPost_ret (results_ct rfl _ _ gr 45 #[.int .i64 0, .slice none 0 0, .int .i64 0] (0, 0) _ rfl (bq3_ R.out.x) Tryd.underlying45 rfl (by kernel_rfl)) rfl ?_
        exact ⟨_, rfl, Kd.R_nil _ _ _ _ _, set3 L.out GR.out _ _ _⟩
      · have h := HH.out; clear HH H1 H2
        cases k with
        | zero => cases h
        | succ k =>
        rw [spec_RootAbove.j0, if_neg (by simpa using hg)] at h
        cases k with
        | zero => cases h
        | succ k =>
        rw [spec_RootAbove.j1, if_pos rfl] at h
        obtain ⟨⟨t1, t2, t3⟩, h1, h⟩ := Option.bind_eq_some_iff.mp h
        obtain ⟨⟨x1, x2, x3, x4⟩, h2, h⟩ := Option.bind_eq_some_iff.mp h
        dsimp only at h1 h2 h
        obtain ⟨rfl, rfl, rfl, rfl⟩ : x1 = r1 ∧ x2 = r2 ∧ x3 = r3 ∧ x4 = r4 := by simpa using h
        have H1 := Aside0.mk h1; have H2 := Aside0.mk h2; clear h1 h2 h
        have p0 := P.out.cell 0 _ rfl; have p1 := P.out.cell 1 _ rfl; have p2 := P.out.cell 2 _ rfl
        go_wp2_with fail
        refine (spec_l03Root.calls k a0_0 A0_1 c0_1 l0_1 a0_2 a1 t1 t2 t3 _ (Kd.C_below HR.out L.out) HC.out H1.out).mono ?_
        rintro x w1 ⟨v, rfl, hr, hb⟩
        have V1 := Aside0.mk (RO.of (w := w) hr L.out.size); replace R := Aside0.mk (R.out.below hb); replace L := Aside0.mk (L.out.trans (hb.mono L.out.size)); clear hr hb P p0 p1 p2
        go_wp2_with fail
        refine (spec_l03Fit.calls k t1 (fun q => some q = v.ownBlock) v t2 t3 x1 x2 x3 x4 w _ L.out V1.out.row H2.out).mono ?_
        rintro x w1 ⟨u, rfl, hr, hb, hkp⟩
        obtain ⟨A2, c2, rfl⟩ := Kd.R_slice hr
        have V2 := Aside0.mk (RO.of (w := w) hr (Nat.le_refl _)); replace R := Aside0.mk (R.out.kept V1.out (by decide) hkp); replace L := Aside0.mk hb; clear hr hb hkp V1
        go_upto_region 7 with fail
        obtain ⟨w1, g7, e1, e2, hB, hb⟩ := new_box w1 #[.int .i64 x1, .slice A2 x2.length c2, .int .i64 x3] 45
        rw [← e1]; try rw [← e2]
        have U := Aside0.mk hB; replace V2 := Aside0.mk (V2.out.below hb); replace R := Aside0.mk (R.out.below hb); replace L := Aside0.mk (L.out.trans (hb.mono L.out.size)); clear hB hb e1 e2
        have p0 := U.out.cell 0 _ rfl; have p1 := U.out.cell 1 _ rfl; have p2 := U.out.cell 2 _ rfl
        obtain ⟨c0_, c1_, c2_, f0, f1, f2⟩ := ck3_ (Aside0.mk R.out.x)
        go_wp2_with fail
        refine bodyPost_ret (results_ct rfl _ _ gr 45 #[.int .i64 x1, .slice A2 x2.length c2, .int .i64 x3] (0, 0) _ rfl (bq3_ R.out.x) Tryd.underlying45 rfl (by kernel_rfl)) rfl ?_
        exact ⟨_, rfl, V2.out.fin R.out.x (by decide) _ _ _, set3 L.out GR.out _ _ _⟩
  · have h := HH.out; clear HH
    rw [if_neg ht] at h
    cases k with
    | zero => cases h
    | succ k =>
    rw [spec_RootAbove.j0, if_neg (by simp)] at h
    cases k with
    | zero => cases h
    | succ k =>
    rw [spec_RootAbove.j1, if_neg ht] at h
    obtain ⟨rfl, rfl, rfl, rfl⟩ : 0 = r1 ∧ [] = r2 ∧ 0 = r3 ∧ t = r4 := by simpa using h
    clear h
    have htb : (t == 0) = false := by simpa using ht
    refine start_ (n := 17) (S := fun w' => True) (ds := []) #[false, false, false, false, false, false, false, false, false, false, false, false, false, false, false, false, false] (by kernel_rfl) rfl rfl trivial (fun hHeld => ?_)
    have Dw2 := Aside0.mk ((Below.refl w1.heap.size w1).drew)
    generalize w1.drew = w2 at hHeld Dw2 ⊢
    refine pu_ #[true, false, false, false, false, false, false, false, false, false, false, false, false, false, false, false, false] 0 12 (by kernel_rfl) ?_
    refine pu_ #[true, true, false, false, false, false, false, false, false, false, false, false, false, false, false, false, false] 1 13 (by kernel_rfl) ?_
    refine pu_ #[true, true, true, false, false, false, false, false, false, false, false, false, false, false, false, false, false] 2 14 (by kernel_rfl) ?_
    refine pn_ #[true, true, true, true, false, false, false, false, false, false, false, false, false, false, false, false, false] 3 15 (by kernel_rfl) ?_
    refine pn_ #[true, true, true, true, true, false, false, false, false, false, false, false, false, false, false, false, false] 4 16 (by kernel_rfl) ?_
    refine pn_ #[true, true, true, true, true, true, false, false, false, false, false, false, false, false, false, false, false] 5 17 (by kernel_rfl) ?_
    refine pn_ #[true, true, true, true, true, true, true, false, false, false, false, false, false, false, false, false, false] 6 18 (by kernel_rfl) ?_
    refine pn_ #[true, true, true, true, true, true, true, true, false, false, false, false, false, false, false, false, false] 7 19 (by kernel_rfl) ?_
    refine pn_ #[true, true, true, true, true, true, true, true, true, false, false, false, false, false, false, false, false] 8 20 (by kernel_rfl) ?_
    refine pn_ #[true, true, true, true, true, true, true, true, true, true, false, false, false, false, false, false, false] 9 21 (by kernel_rfl) ?_
    refine pn_ #[true, true, true, true, true, true, true, true, true, true, true, false, false, false, false, false, false] 10 22 (by kernel_rfl) ?_
    refine pn_ #[true, true, true, true, true, true, true, true, true, true, true, true, false, false, false, false, false] 11 23 (by kernel_rfl) ?_
    refine pn_ #[true, true, true, true, true, true, true, true, true, true, true, true, true, false, false, false, false] 12 24 (by kernel_rfl) ?_
    refine pn_ #[true, true, true, true, true, true, true, true, true, true, true, true, true, true, false, false, false] 13 25 (by kernel_rfl) ?_
    refine pn_ #[true, true, true, true, true, true, true, true, true, true, true, true, true, true, true, false, false] 14 26 (by kernel_rfl) ?_
    refine pn_ #[true, true, true, true, true, true, true, true, true, true, true, true, true, true, true, true, false] 15 27 (by kernel_rfl) ?_
    refine pu_ #[true, true, true, true, true, true, true, true, true, true, true, true, true, true, true, true, true] 16 28 (by kernel_rfl) ?_
    refine done_ (by kernel_rfl) ?_
    replace R := Aside0.mk (R.out.below Dw2.out); replace L := Aside0.mk (L.out.trans (Dw2.out.mono L.out.size))
    obtain ⟨c0_, c1_, c2_, f0, f1, f2⟩ := ck3_ (Aside0.mk R.out.x)
    go_wp2_with fail
    refine bodyPost_ret (results_ct rfl _ _ gr 45 #[.int .i64 0, .slice none 0 0, .int .i64 0] (0, 0) _ rfl (bq3_ R.out.x) Tryd.underlying45 rfl (by kernel_rfl)) rfl ?_
    exact ⟨_, rfl, Kd.R_nil _ _ _ _ _, set3 L.out GR.out _ _ _⟩
def laws_toInt64S.l0 : Nat → List Int → List Int → Int → Option (List Int)
  | 0, _, _, _ => none
  | k + 1, x0, x3, x4 => if x4 < (x0.length : Int) then (if 0 ≤ x4 then (if x4 < (x3.length : Int) then (laws_toInt64S.l0 k x0 (x3.set (x4 : Int).toNat (rd x0 x4)) (wrap64 (x4 + 1))) else (none)) else (none)) else (some x3)
def laws_toInt64S.f (k : Nat) (l0 : List Int) : Option (List Int) := if 0 ≤ (l0.length : Int) then (if ((l0.length : Int) : Int).toNat ≤ 35184372088832 then (laws_toInt64S.l0 k l0 (List.replicate ((l0.length : Int) : Int).toNat 0) 0) else (none)) else (none)
theorem laws_toInt64S.mono_l : ∀ k, (∀ y0 y1 y2, LeO (laws_toInt64S.l0 k y0 y1 y2) (laws_toInt64S.l0 (k + 1) y0 y1 y2))
  | 0 => fun _ _ _ r h => by simp [laws_toInt64S.l0] at h
  | k + 1 => by
    have ih0 := laws_toInt64S.mono_l k
    · intro y0 y1 y2
      unfold laws_toInt64S.l0
      repeat' first
      | (with_reducible exact ih0 _ _ _)
      | (with_reducible exact LeO.refl _)
      | (with_reducible exact LeO.none _)
      | (with_reducible refine LeO.ite ?_ ?_)
      | (with_reducible refine LeO.bind ?_ (fun _ => ?_))
      | exact ih0 _ _ _
      | exact LeO.none _
      | refine LeO.ite ?_ ?_
      | refine LeO.bind ?_ (fun _ => ?_)
theorem laws_toInt64S.mono : ∀ a0 k, LeO (laws_toInt64S.f k a0) (laws_toInt64S.f (k + 1) a0) := by
  intro a0 k
  have ih0 := laws_toInt64S.mono_l k
  unfold laws_toInt64S.f
  repeat' first
      | (with_reducible exact ih0 _ _ _)
      | (with_reducible exact LeO.refl _)
      | (with_reducible exact LeO.none _)
      | (with_reducible refine LeO.ite ?_ ?_)
      | (with_reducible refine LeO.bind ?_ (fun _ => ?_))
      | exact ih0 _ _ _
      | exact LeO.none _
      | refine LeO.ite ?_ ?_
      | refine LeO.bind ?_ (fun _ => ?_)
set_option maxHeartbeats 8000000 in
set_option maxRecDepth 100000 in
theorem laws_toInt64S.calls (k : Nat) (A0 : Option Addr) (c0 : Nat) (l0 : List Int) (r : List Int) (w : World) (hr0 : Kd.C (Kd.int .i64) w A0 l0.length l0) (hc0 : l0.length ≤ c0) (h : laws_toInt64S.f k l0 = some r) :
  Calls Tryd.prog 45 #[.slice A0 l0.length c0] w fun e w' => ∃ v0_ : Value, e = .returned (v0_) ∧ Kd.R (Kd.int .i64) 2 w' w.heap.size (fun _ => True) v0_ r ∧ Below w.heap.size w w' := by
 have HR0 := Aside0.mk hr0; have HC0 := Aside0.mk hc0; clear hr0 hc0; have HB := am_ (Below.refl w.heap.size w)
 have H : (if 0 ≤ (l0.length : Int) then (if ((l0.length : Int) : Int).toNat ≤ 35184372088832 then (laws_toInt64S.l0 k l0 (List.replicate ((l0.length : Int) : Int).toNat 0) 0) else (none)) else (none)) = some r := h
 clear h
 by_cases c2 : 0 ≤ (l0.length : Int)
 ·rw [if_pos c2] at H
  have c2b0 := eq_true c2
  have c2b1 : decide (0 ≤ (l0.length : Int)) = true := decide_eq_true c2
  clear c2
  by_cases c3 : ((l0.length : Int) : Int).toNat ≤ 35184372088832
  ·rw [if_pos c3] at H
   have c3b0 := eq_true c3
   have c3b1 : decide (((l0.length : Int) : Int).toNat ≤ 35184372088832) = true := decide_eq_true c3
   clear c3
   obtain ⟨y474, hy474⟩ : ∃ y_ : List Int, y_ = (List.replicate ((l0.length : Int) : Int).toNat 0) := ⟨_, rfl⟩
   replace H : (laws_toInt64S.l0 k l0 y474 0) = some r := by first | (rw [hy474]; with_reducible exact H) | (have H2_ := (Option.bind_some _ _).symm.trans H; rw [hy474]; with_reducible exact H2_) | (have H2_ := (Option.bind_some _ _).symm.trans H; with_reducible exact H2_) | with_reducible exact H | (rw [hy474]; exact H) | exact H
   have Ny474 := Aside0.mk hy474; clear hy474
   have H' := Aside0.mk H
   clear H
   go_enter Tryd.func45, Tryd.ntmps45
   go_wp2_with (first | ((with_reducible refine gate_dst (N := 7) rfl ?_); refine Kd.R_make (Kd.int .i64) _ 2 rfl (N := 7) rfl 22 _ _ rfl (l0.length : Int) rfl rfl Tryd.underlying22 (.int .i64 0) 8 info2 rfl (by decide) (by omega) 0 (ok := fun _ => True) (okp := fun _ => True) rfl (fun _ hk => hk) trivial (of_decide_eq_true (by first | (with_reducible assumption) | assumption)) (Nat.le_trans (Nat.mul_le_mul_right _ (of_decide_eq_true (by first | (with_reducible assumption) | assumption) : (l0.length : Int).toNat ≤ 35184372088832)) (by omega)) (Below.refl _ _) (Nat.le_refl _) ?_; intro v475 w4 ho5 hb hg_ hnew_; clear hg_ hnew_; (first | rw [← Ny474.out] at ho5 | (simp only [Int.reduceToNat] at ho5; rw [← Ny474.out] at ho5)); have HO476 := am_ (Kd.R_lower ho5 (below_size (bl_ HB))); replace HB := bs_ HB hb; clear hb ho5))
   go_loopg [4] k (fun kq v4 w' => ∃ (x3_1 : List Int) (x4_1 : Int), v4 = .int .i64 x4_1 ∧ Aside0 (laws_toInt64S.l0 kq l0 x3_1 x4_1 = some r) ∧ Aside0 (kq ≤ k) ∧ Aside0 (Kd.R (Kd.int .i64) 2 w' w.heap.size (fun _ => True) v475 x3_1) ∧ Aside0 (Below w.heap.size w w'))
   case atStart => exact ⟨(y474), (0), (by first | rfl | (simp; done) | (simp [*]; done)), H', ⟨Nat.le_refl _⟩, ⟨kr_ HO476⟩, ⟨bl_ HB⟩⟩
   case round =>
    clear H'; try clear c2; try clear c2b0; try clear c2b1; try clear p2; try clear c3; try clear c3b0; try clear c3b1; try clear c4
    obtain ⟨x3_1, x4_1, rfl, HA, HK1, HO_3, HB⟩ := hrel
    cases gk with
    | zero => exact absurd HA.out (by simp [laws_toInt64S.l0])
    | succ k1 =>
     have H := HA.out; clear HA
     simp only [laws_toInt64S.l0] at H
     by_cases c6 : x4_1 < (l0.length : Int)
     ·rw [if_pos c6] at H
      have c6b0 : decide (x4_1 < (l0.length : Int)) = true := decide_eq_true c6
      clear c6
      by_cases c7 : 0 ≤ x4_1
      ·rw [if_pos c7] at H
       have c7b0 : decide (0 ≤ x4_1) = true := decide_eq_true c7
       clear c7
       by_cases c8 : x4_1 < (x3_1.length : Int)
       ·rw [if_pos c8] at H
        have c8b0 : decide (x4_1 < (x3_1.length : Int)) = true := decide_eq_true c8
        clear c8
        obtain ⟨y478, hy478⟩ : ∃ y_ : List Int, y_ = (x3_1.set (x4_1 : Int).toNat (rd l0 x4_1)) := ⟨_, rfl⟩
        replace H : (laws_toInt64S.l0 k1 l0 y478 (wrap64 (x4_1 + 1))) = some r := by first | (rw [hy478]; with_reducible exact H) | (have H2_ := (Option.bind_some _ _).symm.trans H; rw [hy478]; with_reducible exact H2_) | (have H2_ := (Option.bind_some _ _).symm.trans H; with_reducible exact H2_) | with_reducible exact H | (rw [hy478]; exact H) | exact H
        have Ny478 := Aside0.mk hy478; clear hy478
        have H' := Aside0.mk H
        clear H
        have p477 : 0 ≤ (x4_1 : Int) := of_decide_eq_true (by first | (with_reducible assumption) | assumption)
        have q477 : x4_1 < (l0.length : Int) := of_decide_eq_true (by first | (with_reducible assumption) | assumption)
        obtain ⟨ad477, e477, hx477_0⟩ := Kd.at_int HR0.out x4_1 p477 q477
        cases e477
        replace hx477_0 := (HB.out.cell (World.block_lt_of_cell? w _ hx477_0)).trans hx477_0
        replace p477 := eq_true p477
        replace q477 := eq_true q477
        have p9 : 0 ≤ (x4_1 : Int) := of_decide_eq_true (by first | (with_reducible assumption) | assumption)
        have q9 : (x4_1 : Int) < ((x3_1.length : Int) : Int) := of_decide_eq_true (by first | (with_reducible assumption) | assumption)
        obtain ⟨go9, co9, eo9, gb9, gl9, cl9, HG9⟩ := Kd.R_form HO_3.out (by omega)
        (first | cases eo9 | (injection eo9 with ea_ en_ ec_; (first | subst ea_ | (injection ea_ with ea_; subst ea_)); subst ec_; clear en_))
        have GB9 := Aside0.mk gb9; have GG9 := Aside0.mk HG9; clear gb9 gl9 HG9
        obtain ⟨hx9_0, hf9_0⟩ := Kd.R_celln 0 HO_3.out (x4_1 : Int) p9 q9
        replace p9 := eq_true p9
        replace q9 := eq_true q9
        have HP10 := Kd.R_putg HO_3.out (x4_1 : Int) (rd l0 x4_1)
        go_wp2_with (first | ((with_reducible refine gate_store (t := 2) (p := 20) rfl ?_); refine store_event (t := 2) (p := 20) (v := ?vo_w11) (w1 := (wr.setCell ⟨go9, (x4_1 : Int).toNat, none⟩ (.int .i64 (rd l0 x4_1)))) ?hg ?ho ?hn ?hr ?_; (case ho => rfl); (case hg => rfl); (case hn => rfl); (case hr => first | (go_simp; done) | (go_simp; rfl)); intro w11 hw; have hg : wr.grownBy w11 (some go9) := (by rw [hw]; exact HP10.2); have hp_ : Kd.R (Kd.int .i64) 2 w11 w.heap.size (fun _ => True) (.slice (some ⟨go9, 0, none⟩) x3_1.length co9) y478 := (by rw [hw, Ny478.out]; exact HP10.1); clear HP10; replace HO_3 := am_ (hp_); replace HB := am_ ((by rw [hw]; exact below_set (HB.out) GB9.out : Below w.heap.size w w11)); clear hg hw hp_))
        go_roundg k1
        case measure => have := HK1.out; omega
        case rel => exact ⟨(y478), (wrap64 (x4_1 + 1)), (by first | rfl | (simp; done) | (simp [*]; done)), H', ⟨by have := HK1.out; omega⟩, ⟨kr_ HO_3⟩, ⟨bl_ HB⟩⟩
       ·rw [if_neg c8] at H
        exact absurd H (by simp)
      ·rw [if_neg c7] at H
       exact absurd H (by simp)
     ·rw [if_neg c6] at H
      have c6b0 : decide (x4_1 < (l0.length : Int)) = false := decide_eq_false c6
      clear c6; obtain rfl := Option.some.inj H
      go_wp2
      go_ret
      exact ⟨_, by first | rfl | (simp [errW_none, errW_some] <;> rfl) | (simp [*, errW_none, errW_some] <;> rfl), by (with_reducible repeat (first | apply Kd.R_alloc | apply Kd.R_drewN | apply Kd.R_drew)); exact HO_3.out, bl_ HB⟩
  ·rw [if_neg c3] at H
   exact absurd H (by simp)
 ·rw [if_neg c2] at H
  exact absurd H (by simp)
def laws_toWhole.f (k : Nat) (a0_0 : Int) (l0_1 : List Int) : Option (Int × List Int) := (laws_toInt64S.f k l0_1).bind fun t482 => (some (a0_0, t482))
theorem laws_toWhole.mono : ∀ a0 a1 k, LeO (laws_toWhole.f k a0 a1) (laws_toWhole.f (k + 1) a0 a1) := by
  intro a0 a1 k
  unfold laws_toWhole.f
  repeat' first
      | (with_reducible exact laws_toInt64S.mono _ _)
      | (with_reducible exact LeO.refl _)
      | (with_reducible exact LeO.none _)
      | (with_reducible refine LeO.ite ?_ ?_)
      | (with_reducible refine LeO.bind ?_ (fun _ => ?_))
      | exact laws_toInt64S.mono _ _
      | exact LeO.none _
      | refine LeO.ite ?_ ?_
      | refine LeO.bind ?_ (fun _ => ?_)
set_option maxHeartbeats 8000000 in
set_option maxRecDepth 100000 in
theorem laws_toWhole.calls (k : Nat) (a0_0 : Int) (A0_1 : Option Addr) (c0_1 : Nat) (l0_1 : List Int) (r1 : Int) (r2 : List Int) (w : World) (hr0_1 : Kd.C (Kd.int .i64) w A0_1 l0_1.length l0_1) (hc0_1 : l0_1.length ≤ c0_1) (h : laws_toWhole.f k a0_0 l0_1 = some (r1, r2)) :
  Calls Tryd.prog 13 #[.agg #[.int .i64 a0_0, .slice A0_1 l0_1.length c0_1]] w fun e w' => ∃ v1_ : Value, e = .returned (.agg #[.int .i64 r1, v1_]) ∧ Kd.R (Kd.int .i64) 2 w' w.heap.size (fun _ => True) v1_ r2 ∧ Below w.heap.size w w' := by
 have hu24 := Tryd.underlying24; have hu26 := Tryd.underlying26; have HR0_1 := Aside0.mk hr0_1; have HC0_1 := Aside0.mk hc0_1; clear hr0_1 hc0_1; have HB := am_ (Below.refl w.heap.size w)
 have H : ((laws_toInt64S.f k l0_1).bind fun t482 => (some (a0_0, t482))) = some (r1, r2) := h
 clear h
 replace H := Option.bind_eq_some_iff.mp H
 obtain ⟨t482, A20, H⟩ := H
 replace H : (some (a0_0, t482)) = some (r1, r2) := H
 have A2 := Aside0.mk A20; clear A20
 simp only [Option.some.injEq, Prod.mk.injEq] at H
 obtain ⟨rfl, rfl⟩ := H
 go_enter Tryd.func13, Tryd.ntmps13
 go_wp2_with (first | ((with_reducible refine gate_dst (N := 1) rfl ?_); refine bx_ 1 #[.int .i64 a0_0, .slice A0_1 l0_1.length c0_1] 24 ?_; intro gb479 hg w3 hbox hb; obtain ⟨BK479, GW479, GE479⟩ := nb_ hbox hg HB; replace HB := bs_ HB hb; clear hb hbox hg) | ((with_reducible refine gate_dst (N := 2) rfl ?_); refine bx_ 2 #[.int .i64 0, .slice none 0 0] 26 ?_; intro gb480 hg w4 hbox hb; obtain ⟨BK480, GW480, GE480⟩ := nb_ hbox hg HB; obtain ⟨NB479_480, NB480_479⟩ := nn_ hg BK479; replace BK479 := bb_ BK479 hb; replace HB := bs_ HB hb; clear hb hbox hg) | ((with_reducible refine gate_dst (N := 3) rfl ?_); refine bx_ 3 #[.int .i64 0, .slice none 0 0] 26 ?_; intro gb481 hg w5 hbox hb; obtain ⟨BK481, GW481, GE481⟩ := nb_ hbox hg HB; obtain ⟨NB479_481, NB481_479⟩ := nn_ hg BK479; obtain ⟨NB480_481, NB481_480⟩ := nn_ hg BK480; replace BK479 := bb_ BK479 hb; replace BK480 := bb_ BK480 hb; replace HB := bs_ HB hb; clear hb hbox hg; have hnb6 := NB479_480.out; have hnc6 := NB480_479.out; have hnb7 := NB479_481.out; have hnc7 := NB481_479.out; obtain ⟨hcz8_0, hcz8_1, hfz8_0, hfz8_1⟩ := ck2_ BK479; have hnb9 := NB481_480.out; have hnc9 := NB480_481.out; obtain ⟨hcz10_0, hcz10_1, hfz10_0, hfz10_1⟩ := ck2_ BK481) | ((with_reducible refine gate_callee (f := 45) rfl ?_); refine goesL_ (some 9) rfl rfl Tryd.func45 (by kernel_rfl) rfl #[.slice A0_1 l0_1.length c0_1] rfl ma_ ?_; (with_reducible refine (laws_toInt64S.calls k _ _ l0_1 t482 _ ?side1 ?side2 A2.out).mono ?_); (case side1 => exact Kd.C_below HR0_1.out (bl_ HB)); (case side2 => exact HC0_1.out); rintro e w11 ⟨v483, rfl, ho0, hb⟩; refine ⟨_, rfl, ?_⟩; have HO484 := am_ (Kd.R_lower ho0 (below_size (bl_ HB))); replace BK479 := bb_ BK479 hb; replace BK480 := bb_ BK480 hb; replace BK481 := am_ (blk_below (g := gb481) (o := .cells #[.int .i64 a0_0, .slice none 0 0] 26 (0, 0)) (by (with_reducible repeat (first | refine blk_drewN ?_ _ | refine blk_drew ?_ | refine blk_alloc ?_ _)); refine blk_put (cs := #[.int .i64 0, .slice none 0 0]) ?_ 0 _ rfl; (with_reducible repeat (first | refine blk_drewN ?_ _ | refine blk_drew ?_ | refine blk_alloc ?_ _)); exact BK481.out) hb); replace HB := bs_ HB hb; (try clear hb); (try clear hb2); (try clear hk); (try clear hi); (try clear ho0); obtain ⟨Ao12, co12, eo12⟩ := Kd.R_slice HO484.out; subst eo12; obtain ⟨hcz13_0, hcz13_1, hfz13_0, hfz13_1⟩ := ck2_ BK481; obtain ⟨hcz14_0, hcz14_1, hfz14_0, hfz14_1⟩ := ck2_ BK480))
 refine bodyPost_ret (results_cell_row rfl _ _ gb480 26 #[.int .i64 a0_0, .slice Ao12 t482.length co12] (0, 0) _ rfl (by (with_reducible repeat (first | refine blk_drewN ?_ _ | refine blk_drew ?_ | refine blk_alloc ?_ _)); refine blk_put (cs := #[.int .i64 a0_0, .slice none 0 0]) ?_ 1 _ rfl; (with_reducible repeat (first | refine blk_drewN ?_ _ | refine blk_drew ?_ | refine blk_alloc ?_ _)); refine blk_put (cs := #[.int .i64 0, .slice none 0 0]) ?_ 0 _ rfl; (with_reducible repeat (first | refine blk_drewN ?_ _ | refine blk_drew ?_ | refine blk_alloc ?_ _)); refine blk_far ?_ NB480_481.out _; (with_reducible repeat (first | refine blk_drewN ?_ _ | refine blk_drew ?_ | refine blk_alloc ?_ _)); exact BK480.out) Tryd.underlying26 rfl (by kernel_rfl)) rfl ?_
 exact ⟨_, by first | rfl | (simp [errW_none, errW_some] <;> rfl) | (simp [*, errW_none, errW_some] <;> rfl), by (with_reducible repeat (first | apply Kd.R_alloc | apply Kd.R_drewN | apply Kd.R_drew)); exact Kd.R_mono (Kd.R_far (p := ⟨gb480, 1, none⟩) (Kd.R_far (p := ⟨gb480, 0, none⟩) (Kd.R_far (p := ⟨gb481, 1, none⟩) (Kd.R_types (Kd.R_types HO484.out BK481.out (by decide)) BK480.out (by decide)) (fun _ hk => hk.1.2) (.slice Ao12 t482.length co12)) (fun _ hk => hk.2) (.int .i64 a0_0)) (fun _ hk => hk.2) (.slice Ao12 t482.length co12)) (fun _ hk => trivial), bl_ HB⟩
def laws_toDyadic.f (k : Nat) (a0_0 : Int) (l0_1 : List Int) (a0_2 : Int) : Option (Int × List Int × Int) := (laws_toWhole.f k a0_0 l0_1).bind fun bt488 => (some (bt488.1, bt488.2, a0_2))
theorem laws_toDyadic.mono : ∀ a0 a1 a2 k, LeO (laws_toDyadic.f k a0 a1 a2) (laws_toDyadic.f (k + 1) a0 a1 a2) := by
  intro a0 a1 a2 k
  unfold laws_toDyadic.f
  repeat' first
      | (with_reducible exact laws_toWhole.mono _ _ _)
      | (with_reducible exact LeO.refl _)
      | (with_reducible exact LeO.none _)
      | (with_reducible refine LeO.ite ?_ ?_)
      | (with_reducible refine LeO.bind ?_ (fun _ => ?_))
      | exact laws_toWhole.mono _ _ _
      | exact LeO.none _
      | refine LeO.ite ?_ ?_
      | refine LeO.bind ?_ (fun _ => ?_)
set_option maxHeartbeats 8000000 in
set_option maxRecDepth 100000 in
theorem laws_toDyadic.calls (k : Nat) (a0_0 : Int) (A0_1 : Option Addr) (c0_1 : Nat) (l0_1 : List Int) (a0_2 : Int) (r1 : Int) (r2 : List Int) (r3 : Int) (w : World) (hr0_1 : Kd.C (Kd.int .i64) w A0_1 l0_1.length l0_1) (hc0_1 : l0_1.length ≤ c0_1) (h : laws_toDyadic.f k a0_0 l0_1 a0_2 = some (r1, r2, r3)) :
  Calls Tryd.prog 40 #[.agg #[.int .i64 a0_0, .slice A0_1 l0_1.length c0_1, .int .i64 a0_2]] w fun e w' => ∃ v1_ : Value, e = .returned (.agg #[.int .i64 r1, v1_, .int .i64 r3]) ∧ Kd.R (Kd.int .i64) 2 w' w.heap.size (fun _ => True) v1_ r2 ∧ Below w.heap.size w w' := by
 have hu40 := Tryd.underlying40; have hu45 := Tryd.underlying45; have hu24 := Tryd.underlying24; have hu26 := Tryd.underlying26; have HR0_1 := Aside0.mk hr0_1; have HC0_1 := Aside0.mk hc0_1; clear hr0_1 hc0_1; have HB := am_ (Below.refl w.heap.size w)
 have H : ((laws_toWhole.f k a0_0 l0_1).bind fun bt488 => (some (bt488.1, bt488.2, a0_2))) = some (r1, r2, r3) := h
 clear h
 replace H := Option.bind_eq_some_iff.mp H
 obtain ⟨⟨t488, t489⟩, A20, H⟩ := H
 replace H : (some (t488, t489, a0_2)) = some (r1, r2, r3) := H
 have A2 := Aside0.mk A20; clear A20
 simp only [Option.some.injEq, Prod.mk.injEq] at H
 obtain ⟨rfl, rfl, rfl⟩ := H
 go_enter Tryd.func40, Tryd.ntmps40
 go_wp2_with (first | ((with_reducible refine gate_dst (N := 1) rfl ?_); refine bx_ 1 #[.int .i64 a0_0, .slice A0_1 l0_1.length c0_1, .int .i64 a0_2] 40 ?_; intro gb485 hg w3 hbox hb; obtain ⟨BK485, GW485, GE485⟩ := nb_ hbox hg HB; replace HB := bs_ HB hb; clear hb hbox hg) | ((with_reducible refine gate_dst (N := 2) rfl ?_); refine bx_ 2 #[.int .i64 0, .slice none 0 0, .int .i64 0] 45 ?_; intro gb486 hg w4 hbox hb; obtain ⟨BK486, GW486, GE486⟩ := nb_ hbox hg HB; obtain ⟨NB485_486, NB486_485⟩ := nn_ hg BK485; replace BK485 := bb_ BK485 hb; replace HB := bs_ HB hb; clear hb hbox hg) | ((with_reducible refine gate_dst (N := 3) rfl ?_); refine bx_ 3 #[.int .i64 0, .slice none 0 0, .int .i64 0] 45 ?_; intro gb487 hg w5 hbox hb; obtain ⟨BK487, GW487, GE487⟩ := nb_ hbox hg HB; obtain ⟨NB485_487, NB487_485⟩ := nn_ hg BK485; obtain ⟨NB486_487, NB487_486⟩ := nn_ hg BK486; replace BK485 := bb_ BK485 hb; replace BK486 := bb_ BK486 hb; replace HB := bs_ HB hb; clear hb hbox hg; have hnb6 := NB485_486.out; have hnc6 := NB486_485.out; have hnb7 := NB485_487.out; have hnc7 := NB487_485.out; obtain ⟨hcz8_0, hcz8_1, hcz8_2, hfz8_0, hfz8_1, hfz8_2⟩ := ck3_ BK485) | ((with_reducible refine gate_callee (f := 13) rfl ?_); refine goesL_ (some 6) rfl rfl Tryd.func13 (by kernel_rfl) rfl #[.agg #[.int .i64 a0_0, .slice A0_1 l0_1.length c0_1]] rfl ma_ ?_; (with_reducible refine (laws_toWhole.calls k a0_0 _ _ l0_1 t488 t489 _ ?side1 ?side2 A2.out).mono ?_); (case side1 => exact cb_ HR0_1 HB); (case side2 => exact HC0_1.out); rintro e w9 ⟨v490, rfl, ho0, hb⟩; refine ⟨_, rfl, ?_⟩; have HO491 := am_ (Kd.R_lower ho0 (below_size (bl_ HB))); replace BK485 := bb_ BK485 hb; replace BK486 := bb_ BK486 hb; replace BK487 := bb_ BK487 hb; replace HB := bs_ HB hb; (try clear hb); (try clear hb2); (try clear hk); (try clear hi); (try clear ho0); have hnb10 := NB487_486.out; have hnc10 := NB486_487.out; obtain ⟨hcz11_0, hcz11_1, hcz11_2, hfz11_0, hfz11_1, hfz11_2⟩ := ck3_ BK487; obtain ⟨Ao12, co12, eo12⟩ := Kd.R_slice HO491.out; subst eo12; obtain ⟨hcz13_0, hcz13_1, hcz13_2, hfz13_0, hfz13_1, hfz13_2⟩ := ck3_ BK485; obtain ⟨hcz14_0, hcz14_1, hcz14_2, hfz14_0, hfz14_1, hfz14_2⟩ := ck3_ BK486))
 refine bodyPost_ret (results_cell_row rfl _ _ gb486 45 #[.int .i64 t488, .slice Ao12 t489.length co12, .int .i64 a0_2] (0, 0) _ rfl (by (with_reducible repeat (first | refine blk_drewN ?_ _ | refine blk_drew ?_ | refine blk_alloc ?_ _)); refine blk_put (cs := #[.int .i64 t488, .slice Ao12 t489.length co12, .int .i64 0]) ?_ 2 _ rfl; (with_reducible repeat (first | refine blk_drewN ?_ _ | refine blk_drew ?_ | refine blk_alloc ?_ _)); refine blk_put (cs := #[.int .i64 t488, .slice none 0 0, .int .i64 0]) ?_ 1 _ rfl; (with_reducible repeat (first | refine blk_drewN ?_ _ | refine blk_drew ?_ | refine blk_alloc ?_ _)); refine blk_put (cs := #[.int .i64 0, .slice none 0 0, .int .i64 0]) ?_ 0 _ rfl; (with_reducible repeat (first | refine blk_drewN ?_ _ | refine blk_drew ?_ | refine blk_alloc ?_ _)); refine blk_far ?_ NB486_487.out _; (with_reducible repeat (first | refine blk_drewN ?_ _ | refine blk_drew ?_ | refine blk_alloc ?_ _)); refine blk_far ?_ NB486_487.out _; (with_reducible repeat (first | refine blk_drewN ?_ _ | refine blk_drew ?_ | refine blk_alloc ?_ _)); refine blk_far ?_ NB486_487.out _; (with_reducible repeat (first | refine blk_drewN ?_ _ | refine blk_drew ?_ | refine blk_alloc ?_ _)); exact BK486.out) Tryd.underlying45 rfl (by kernel_rfl)) rfl ?_
 exact ⟨_, by first | rfl | (simp [errW_none, errW_some] <;> rfl) | (simp [*, errW_none, errW_some] <;> rfl), by (with_reducible repeat (first | apply Kd.R_alloc | apply Kd.R_drewN | apply Kd.R_drew)); exact Kd.R_mono (Kd.R_far (p := ⟨gb486, 2, none⟩) (Kd.R_far (p := ⟨gb486, 1, none⟩) (Kd.R_far (p := ⟨gb486, 0, none⟩) (Kd.R_far (p := ⟨gb487, 2, none⟩) (Kd.R_far (p := ⟨gb487, 1, none⟩) (Kd.R_far (p := ⟨gb487, 0, none⟩) (Kd.R_types (Kd.R_types HO491.out BK487.out (by decide)) BK486.out (by decide)) (fun _ hk => hk.1.2) (.int .i64 t488)) (fun _ hk => hk.1.2) (.slice Ao12 t489.length co12)) (fun _ hk => hk.1.2) (.int .i64 a0_2)) (fun _ hk => hk.2) (.int .i64 t488)) (fun _ hk => hk.2) (.slice Ao12 t489.length co12)) (fun _ hk => hk.2) (.int .i64 a0_2)) (fun _ hk => trivial), bl_ HB⟩
end Go.Proofs.YtghhphndbbefjaaDoor.X
