/- The law FnExactScaleDyadic, as a plain statement: it answers true at every argument. -/
import Derived.Test.YthddlechoibdkaaDoorPur5
import Derived.Test.YthddlechoibdkaaDoorX3
import Derived.Test.YthddlechoibdkaaDoorX4
import Derived.Test.YthddlechoibdkaaDoorDy3
namespace Go.Proofs.YthddlechoibdkaaDoor.Pur
open Go.RowKit Go.Proofs.YthddlechoibdkaaDoor Go.Proofs.YthddlechoibdkaaDoor.Big Go.Proofs.YthddlechoibdkaaDoor.X Go.Proofs.YthddlechoibdkaaDoorW.PrintWords Go.Proofs.YthddlechoibdkaaDoorW.PrintLast Go.Proofs.YthddlechoibdkaaDoor.Math
set_option linter.unusedVariables false
set_option linter.unusedSimpArgs false

theorem l03Range (s : Int) (l : List Int) (e k lo hi : Int) (hl : l.length ≤ 1000000000) : Ev (fun f => spec_l03Range.f f s l e k lo hi) (rcode s l e k lo hi) := by
  unfold spec_l03Range.f rcode
  refine Ev.bind (l03Is s l e hl) ?_
  cases h : isD s l e
  · exact Ev.now _
  · simp only [if_true, l01In, Option.bind_some]
    by_cases hk : lo ≤ k ∧ k ≤ hi
    · rw [if_pos hk]
      simp only [decide_eq_true hk.1, decide_eq_true hk.2, Bool.and_self, if_true]
      exact Ev.now _
    · rw [if_neg hk]
      have : (decide (lo ≤ k) && decide (k ≤ hi)) = false := by
        rw [Bool.eq_false_iff]
        intro g
        simp only [Bool.and_eq_true, decide_eq_true_eq] at g
        exact hk g
      simp only [this, Bool.false_eq_true, if_false]
      exact Ev.now _
theorem scres_length (s : Int) (l : List Int) (e k : Int) : (scres s l e k).2.1.length ≤ 200 := by
  unfold scres
  split
  · exact dyfit_length _ _
  · simp
theorem specScaleDyadic (s : Int) (l : List Int) (e k : Int) (hl : l.length ≤ 1000000000) : Ev (fun f => spec_ScaleDyadic.f f s l e k) (scres s l e k) := by
  unfold spec_ScaleDyadic.f
  refine Ev.bind (l03Range s l e k (-10000) 10000 hl) ?_
  unfold scres
  by_cases hc : rcode s l e k (-10000) 10000 = 0
  · obtain ⟨hd, hk⟩ := rcode_ok hc
    have hw := isD_isW hd
    have hx := isD_exp hd
    have hlw := isW_len hw
    have hwk : wrap64 (e + k) = e + k := w64s (by omega) (by omega)
    simp only [if_pos hc, hwk]
    refine Ev.bind (l03Make (isW_cw hw) (by omega) (e + k) (by omega) (by omega)) ?_
    exact Ev.bind (f := fun _ bt => some (bt.1, bt.2.1, bt.2.2.1, bt.2.2.2)) (l03Fit _ _ (odd_len (wv_bound hw) (by decide))) (Ev.now _)
  · simp only [if_neg hc]
    exact Ev.now _
theorem implScaleDyadic (s : Int) (l : List Int) (ed : Int) (a : Int) (hl : l.length ≤ 1000000000) : impl_ScaleDyadic.f s l ed a = some (scres s l ed a) := by
  unfold impl_ScaleDyadic.f
  rw [if_pos hl]
set_option maxHeartbeats 1000000 in
theorem lawScaleDyadic (s : Int) (l : List Int) (ed : Int) (a : Int) (hl : l.length ≤ maxLen) (ha : (Lit.int .i64 a).wf = true) : ∃ k, laws_FnExactScaleDyadic.f k s l ed a = some true := by
  refine Ev.rounds ?_
  unfold laws_FnExactScaleDyadic.f
  simp only [szDyadic s l ed 1048576 (by omega) (by omega) hl, Option.bind_some]
  by_cases h : (1048576 : Int) - l.length < 0
  · simp only [if_pos h]
    exact Ev.now true
  · simp only [if_neg h]
    have hn : l.length ≤ 1048576 := by omega
    have hr := scres_length s l ed a
    refine Ev.bind (toDyadic s l ed hn) ?_
    refine Ev.bind (specScaleDyadic s l ed a (by omega)) ?_
    refine Ev.bind (toDyadic s l ed hn) ?_
    simp only [implScaleDyadic s l ed a (by omega), Option.bind_some]
    generalize hR : scres s l ed a = R at hr ⊢
    obtain ⟨q, u, x, e⟩ := R
    simp only at hr ⊢
    refine Ev.bind (eqDyadic _ _ _ (by omega)) ?_
    simp only [if_true, bne_self_eq_false]
    refine Ev.step (fun k => by rw [laws_FnExactScaleDyadic.j0, if_neg (by simp)]) ?_
    refine Ev.bind (toDyadic s l ed hn) ?_
    refine Ev.bind (eqDyadic s l ed hn) ?_
    simp only [if_true]
    refine Ev.bind (markDyadic s l ed 1 (by omega) (by omega) (by omega)) ?_
    simp only [if_neg (show ¬ (1 : Int) + (l.length : Int) < 0 from by omega)]
    refine Ev.bind (eqDyadic _ _ _ (by omega)) ?_
    simp only [if_true, bne_self_eq_false]
    refine Ev.step (fun k => by rw [laws_FnExactScaleDyadic.j1, if_neg (by simp)]) ?_
    refine Ev.bind (markDyadic _ _ _ 1 (by omega) (by omega) (by omega)) ?_
    refine Ev.bind (heldDyadic _ _ _ 1 (by omega) (by omega) (by omega)) ?_
    simp only [if_neg (show ¬ (1 : Int) + (u.length : Int) < 0 from by omega), if_true]
    refine Ev.bind (toDyadic s l ed hn) ?_
    simp only [implScaleDyadic s l ed a (by omega), hR, Option.bind_some]
    refine Ev.bind (eqDyadic _ _ _ (by omega)) ?_
    simp only [if_true, bne_self_eq_false]
    refine Ev.step (fun k => by rw [laws_FnExactScaleDyadic.j2, if_neg (by simp)]) ?_
    refine Ev.bind (heldDyadic _ _ _ 1 (by omega) (by omega) (by omega)) ?_
    simp only [if_neg (show ¬ (1 : Int) + (u.length : Int) < 0 from by omega), if_true]
    exact Ev.now true
end Go.Proofs.YthddlechoibdkaaDoor.Pur
