/- The law FnExactMultiplyWholes, as a plain statement: it answers true at every two signs and limbs. -/
import Derived.Test.YtbmjakaoniegfaaDoorPur2
import Derived.Test.YtbmjakaoniegfaaDoorPur3
import Derived.Test.YtbmjakaoniegfaaDoorX3
import Derived.Test.YtbmjakaoniegfaaDoorBnd4
namespace Go.Proofs.YtbmjakaoniegfaaDoor.Pur
open Go.RowKit Go.Proofs.YtbmjakaoniegfaaDoor Go.Proofs.YtbmjakaoniegfaaDoor.Big Go.Proofs.YtbmjakaoniegfaaDoor.X Go.Proofs.YtbmjakaoniegfaaDoorW.PrintWords Go.Proofs.YtbmjakaoniegfaaDoorW.PrintLast Go.Proofs.YtbmjakaoniegfaaDoor.Math
set_option linter.unusedVariables false
set_option linter.unusedSimpArgs false

theorem bfit_length (op : Int → Int → Int) (s : Int) (l : List Int) (t : Int) (m : List Int) : (bfit op s l t m).2.1.length ≤ 200 := by
  unfold bfit
  split
  · rw [wfit_cn]
    split
    · assumption
    · simp
  · simp
theorem implMultiplyWholes (s : Int) (l : List Int) (t : Int) (m : List Int) (hl : l.length ≤ 1000000000) (hm : m.length ≤ 1000000000) : impl_MultiplyWholes.f s l t m = some (bfit (fun n k => n * k) s l t m) := by
  unfold impl_MultiplyWholes.f
  rw [if_pos ⟨hl, hm⟩]
theorem specMultiplyWholes (s : Int) (l : List Int) (t : Int) (m : List Int) (hl : l.length ≤ 1000000000) (hm : m.length ≤ 1000000000) : Ev (fun k => spec_MultiplyWholes.f k s l t m) (bfit (fun n k => n * k) s l t m) := by
  unfold spec_MultiplyWholes.f
  refine Ev.bind (l02Both s l t m hl hm) ?_
  unfold bfit
  cases h : (isW s l && isW t m)
  · exact Ev.now _
  · simp only [if_true]
    rw [Bool.and_eq_true] at h
    have h1 := isW_len h.1
    have h2 := isW_len h.2
    refine Ev.bind (l02Mul (isW_cw h.1) (isW_cw h.2) (by omega) (by omega)) ?_
    exact Ev.bind (f := fun _ bt => some (bt.1, bt.2.1, bt.2.2)) (l02Fit _ (limbs_len_mul (wv_bound h.1) (wv_bound h.2))) (Ev.now _)
set_option maxHeartbeats 1000000 in
theorem lawMultiplyWholes (s : Int) (l : List Int) (t : Int) (m : List Int) (hl : l.length ≤ maxLen) (hm : m.length ≤ maxLen) : ∃ k, laws_FnExactMultiplyWholes.f k s l t m = some true := by
  refine Ev.rounds ?_
  unfold laws_FnExactMultiplyWholes.f
  simp only [szWhole s l 1048576 (by omega) (by omega) hl, Option.bind_some]
  by_cases h : (1048576 : Int) - l.length < 0
  · simp only [if_pos h]
    exact Ev.now true
  · simp only [if_neg h]
    have hn : l.length ≤ 1048576 := by omega
    simp only [szWhole t m (1048576 - l.length) (by omega) (by omega) hm, Option.bind_some]
    by_cases h2 : (1048576 : Int) - l.length - m.length < 0
    · simp only [if_pos h2]
      exact Ev.now true
    · simp only [if_neg h2]
      have hn2 : m.length ≤ 1048576 := by omega
      have hr := bfit_length (fun n k => n * k) s l t m
      refine Ev.bind (toWhole s l hn) ?_
      refine Ev.bind (toWhole t m hn2) ?_
      refine Ev.bind (specMultiplyWholes s l t m (by omega) (by omega)) ?_
      refine Ev.bind (toWhole s l hn) ?_
      refine Ev.bind (toWhole t m hn2) ?_
      simp only [implMultiplyWholes s l t m (by omega) (by omega), Option.bind_some]
      generalize hR : bfit (fun n k => n * k) s l t m = R at hr ⊢
      obtain ⟨q, u, e⟩ := R
      simp only at hr ⊢
      refine Ev.bind (eqWhole _ _ (by omega)) ?_
      simp only [if_true, bne_self_eq_false]
      refine Ev.step (fun k => by rw [laws_FnExactMultiplyWholes.j0, if_neg (by simp)]) ?_
      refine Ev.bind (toWhole s l hn) ?_
      refine Ev.bind (eqWhole s l hn) ?_
      simp only [if_true]
      refine Ev.bind (toWhole t m hn2) ?_
      refine Ev.bind (eqWhole t m hn2) ?_
      simp only [if_true]
      refine Ev.bind (markWhole s l 1 (by omega) (by omega) (by omega)) ?_
      refine Ev.bind (markWhole t m (1 + l.length) (by omega) (by omega) (by omega)) ?_
      simp only [if_neg (show ¬ (1 : Int) + (l.length : Int) + (m.length : Int) < 0 from by omega)]
      refine Ev.bind (eqWhole _ _ (by omega)) ?_
      simp only [if_true, bne_self_eq_false]
      refine Ev.step (fun k => by rw [laws_FnExactMultiplyWholes.j1, if_neg (by simp)]) ?_
      refine Ev.bind (markWhole _ _ 1 (by omega) (by omega) (by omega)) ?_
      refine Ev.bind (heldWhole _ _ 1 (by omega) (by omega) (by omega)) ?_
      simp only [if_neg (show ¬ (1 : Int) + (u.length : Int) < 0 from by omega), if_true]
      refine Ev.bind (toWhole s l hn) ?_
      refine Ev.bind (toWhole t m hn2) ?_
      simp only [implMultiplyWholes s l t m (by omega) (by omega), hR, Option.bind_some]
      refine Ev.bind (eqWhole _ _ (by omega)) ?_
      simp only [if_true, bne_self_eq_false]
      refine Ev.step (fun k => by rw [laws_FnExactMultiplyWholes.j2, if_neg (by simp)]) ?_
      refine Ev.bind (heldWhole _ _ 1 (by omega) (by omega) (by omega)) ?_
      simp only [if_neg (show ¬ (1 : Int) + (u.length : Int) < 0 from by omega), if_true]
      exact Ev.now true
end Go.Proofs.YtbmjakaoniegfaaDoor.Pur
