/- The law FnExactMakeDyadic, as a plain statement: it answers true at every argument. -/
import Derived.Test.YthddlechoibdkaaDoorPur5
import Derived.Test.YthddlechoibdkaaDoorX2
import Derived.Test.YthddlechoibdkaaDoorX4
import Derived.Test.YthddlechoibdkaaDoorDy2
namespace Go.Proofs.YthddlechoibdkaaDoor.Pur
open Go.RowKit Go.Proofs.YthddlechoibdkaaDoor Go.Proofs.YthddlechoibdkaaDoor.Big Go.Proofs.YthddlechoibdkaaDoor.X Go.Proofs.YthddlechoibdkaaDoorW.PrintWords Go.Proofs.YthddlechoibdkaaDoorW.PrintLast Go.Proofs.YthddlechoibdkaaDoor.Math
set_option linter.unusedVariables false
set_option linter.unusedSimpArgs false

theorem mkres_length (s : Int) (l : List Int) (k : Int) : (mkres s l k).2.1.length ≤ 200 := by
  unfold mkres
  split
  · split
    · exact dyfit_length _ _
    · simp
  · simp
theorem specMakeDyadic (s : Int) (l : List Int) (k : Int) (hl : l.length ≤ 1000000000) : Ev (fun f => spec_MakeDyadic.f f s l k) (mkres s l k) := by
  unfold spec_MakeDyadic.f
  refine Ev.bind (l02Is s l hl) ?_
  unfold mkres
  cases h : isW s l
  · exact Ev.now _
  · simp only [if_true, l01In, Option.bind_some]
    by_cases hk : -10000 ≤ k ∧ k ≤ 10000
    · rw [if_pos hk]
      simp only [decide_eq_true hk.1, decide_eq_true hk.2, Bool.and_self, if_true]
      have hlw := isW_len h
      refine Ev.bind (l03Make (isW_cw h) (by omega) k (by omega) (by omega)) ?_
      exact Ev.bind (f := fun _ bt => some (bt.1, bt.2.1, bt.2.2.1, bt.2.2.2)) (l03Fit _ _ (odd_len (wv_bound h) (by decide))) (Ev.now _)
    · rw [if_neg hk]
      have : (decide (-10000 ≤ k) && decide (k ≤ 10000)) = false := by simp; omega
      simp only [this, Bool.false_eq_true, if_false]
      exact Ev.now _
theorem implMakeDyadic (s : Int) (l : List Int) (a : Int) (hl : l.length ≤ 1000000000) : impl_MakeDyadic.f s l a = some (mkres s l a) := by
  unfold impl_MakeDyadic.f
  rw [if_pos hl]
set_option maxHeartbeats 1000000 in
theorem lawMakeDyadic (s : Int) (l : List Int) (a : Int) (hl : l.length ≤ maxLen) (ha : (Lit.int .i64 a).wf = true) : ∃ k, laws_FnExactMakeDyadic.f k s l a = some true := by
  refine Ev.rounds ?_
  unfold laws_FnExactMakeDyadic.f
  simp only [szWhole s l 1048576 (by omega) (by omega) hl, Option.bind_some]
  by_cases h : (1048576 : Int) - l.length < 0
  · simp only [if_pos h]
    exact Ev.now true
  · simp only [if_neg h]
    have hn : l.length ≤ 1048576 := by omega
    have hr := mkres_length s l a
    refine Ev.bind (toWhole s l hn) ?_
    refine Ev.bind (specMakeDyadic s l a (by omega)) ?_
    refine Ev.bind (toWhole s l hn) ?_
    simp only [implMakeDyadic s l a (by omega), Option.bind_some]
    generalize hR : mkres s l a = R at hr ⊢
    obtain ⟨q, u, x, e⟩ := R
    simp only at hr ⊢
    refine Ev.bind (eqDyadic _ _ _ (by omega)) ?_
    simp only [if_true, bne_self_eq_false]
    refine Ev.step (fun k => by rw [laws_FnExactMakeDyadic.j0, if_neg (by simp)]) ?_
    refine Ev.bind (toWhole s l hn) ?_
    refine Ev.bind (eqWhole s l hn) ?_
    simp only [if_true]
    refine Ev.bind (markWhole s l 1 (by omega) (by omega) (by omega)) ?_
    simp only [if_neg (show ¬ (1 : Int) + (l.length : Int) < 0 from by omega)]
    refine Ev.bind (eqDyadic _ _ _ (by omega)) ?_
    simp only [if_true, bne_self_eq_false]
    refine Ev.step (fun k => by rw [laws_FnExactMakeDyadic.j1, if_neg (by simp)]) ?_
    refine Ev.bind (markDyadic _ _ _ 1 (by omega) (by omega) (by omega)) ?_
    refine Ev.bind (heldDyadic _ _ _ 1 (by omega) (by omega) (by omega)) ?_
    simp only [if_neg (show ¬ (1 : Int) + (u.length : Int) < 0 from by omega), if_true]
    refine Ev.bind (toWhole s l hn) ?_
    simp only [implMakeDyadic s l a (by omega), hR, Option.bind_some]
    refine Ev.bind (eqDyadic _ _ _ (by omega)) ?_
    simp only [if_true, bne_self_eq_false]
    refine Ev.step (fun k => by rw [laws_FnExactMakeDyadic.j2, if_neg (by simp)]) ?_
    refine Ev.bind (heldDyadic _ _ _ 1 (by omega) (by omega) (by omega)) ?_
    simp only [if_neg (show ¬ (1 : Int) + (u.length : Int) < 0 from by omega), if_true]
    exact Ev.now true
end Go.Proofs.YthddlechoibdkaaDoor.Pur
