/- The law FnExactSubtractDyadics, as a plain statement: it answers true at every two exact numbers. -/
import Derived.Test.YthddlechoibdkaaDoorPurC
import Derived.Test.YthddlechoibdkaaDoorDyP
import Derived.Test.YthddlechoibdkaaDoorX3
import Derived.Test.YthddlechoibdkaaDoorX4
namespace Go.Proofs.YthddlechoibdkaaDoor.Pur
open Go.RowKit Go.Proofs.YthddlechoibdkaaDoor Go.Proofs.YthddlechoibdkaaDoor.Big Go.Proofs.YthddlechoibdkaaDoor.X Go.Proofs.YthddlechoibdkaaDoorW.PrintWords Go.Proofs.YthddlechoibdkaaDoorW.PrintLast Go.Proofs.YthddlechoibdkaaDoorW.PrintMore Go.Proofs.YthddlechoibdkaaDoor.Math
set_option linter.unusedVariables false
set_option linter.unusedSimpArgs false

theorem implSubtractDyadics (s : Int) (l : List Int) (e t : Int) (m : List Int) (f : Int) (hl : l.length ≤ 1000000000) (hm : m.length ≤ 1000000000) : impl_SubtractDyadics.f s l e t m f = some (pfit (fun n k p q => n * 2 ^ (p - mn p q).toNat - k * 2 ^ (q - mn p q).toNat) (fun _ _ p q => mn p q) s l e t m f) := by
  unfold impl_SubtractDyadics.f
  rw [if_pos ⟨hl, hm⟩]
theorem specSubtractDyadics (s : Int) (l : List Int) (e t : Int) (m : List Int) (f : Int) (hl : l.length ≤ 1000000000) (hm : m.length ≤ 1000000000) : Ev (fun k => spec_SubtractDyadics.f k s l e t m f) (pfit (fun n k p q => n * 2 ^ (p - mn p q).toNat - k * 2 ^ (q - mn p q).toNat) (fun _ _ p q => mn p q) s l e t m f) := by
  unfold spec_SubtractDyadics.f pfit
  refine Ev.bind (l03Both s l e t m f hl hm) ?_
  cases h : (isD s l e && isD t m f)
  · exact Ev.now _
  · simp only [if_true]
    rw [Bool.and_eq_true] at h
    obtain ⟨u, hu, hbd⟩ := sum_bound (m := -wv t m) (wv_bound (isD_isW h.1)) (by rw [Int.natAbs_neg]; exact wv_bound (isD_isW h.2)) (isD_exp h.1) (isD_exp h.2)
    rw [Int.neg_mul, ← Int.sub_eq_add_neg] at hbd
    refine Ev.bind (l03Sub (isD_isW h.1) (isD_isW h.2) (isD_exp h.1) (isD_exp h.2)) ?_
    exact Ev.bind (f := fun _ bt => some (bt.1, bt.2.1, bt.2.2.1, bt.2.2.2)) (l03Fit _ _ (odd_len hbd (by omega))) (Ev.now _)
set_option maxHeartbeats 1000000 in
theorem lawSubtractDyadics (s : Int) (l : List Int) (e t : Int) (m : List Int) (f : Int) (hl : l.length ≤ maxLen) (hm : m.length ≤ maxLen) : ∃ k, laws_FnExactSubtractDyadics.f k s l e t m f = some true := by
  refine Ev.rounds ?_
  unfold laws_FnExactSubtractDyadics.f
  simp only [szDyadic s l e 1048576 (by omega) (by omega) hl, Option.bind_some]
  by_cases h : (1048576 : Int) - l.length < 0
  · simp only [if_pos h]
    exact Ev.now true
  · simp only [if_neg h]
    have hn : l.length ≤ 1048576 := by omega
    simp only [szDyadic t m f (1048576 - l.length) (by omega) (by omega) hm, Option.bind_some]
    by_cases h2 : (1048576 : Int) - l.length - m.length < 0
    · simp only [if_pos h2]
      exact Ev.now true
    · simp only [if_neg h2]
      have hn2 : m.length ≤ 1048576 := by omega
      have hr := pfit_length (fun n k p q => n * 2 ^ (p - mn p q).toNat - k * 2 ^ (q - mn p q).toNat) (fun _ _ p q => mn p q) s l e t m f
      refine Ev.bind (toDyadic s l e hn) ?_
      refine Ev.bind (toDyadic t m f hn2) ?_
      refine Ev.bind (specSubtractDyadics s l e t m f (by omega) (by omega)) ?_
      refine Ev.bind (toDyadic s l e hn) ?_
      refine Ev.bind (toDyadic t m f hn2) ?_
      simp only [implSubtractDyadics s l e t m f (by omega) (by omega), Option.bind_some]
      generalize hR : pfit (fun n k p q => n * 2 ^ (p - mn p q).toNat - k * 2 ^ (q - mn p q).toNat) (fun _ _ p q => mn p q) s l e t m f = R at hr ⊢
      obtain ⟨q, u, x, y⟩ := R
      simp only at hr ⊢
      refine Ev.bind (eqDyadic _ _ _ (by omega)) ?_
      simp only [if_true, bne_self_eq_false]
      refine Ev.step (fun k => by rw [laws_FnExactSubtractDyadics.j0, if_neg (by simp)]) ?_
      refine Ev.bind (toDyadic s l e hn) ?_
      refine Ev.bind (eqDyadic s l e hn) ?_
      simp only [if_true]
      refine Ev.bind (toDyadic t m f hn2) ?_
      refine Ev.bind (eqDyadic t m f hn2) ?_
      simp only [if_true]
      refine Ev.bind (markDyadic s l e 1 (by omega) (by omega) (by omega)) ?_
      refine Ev.bind (markDyadic t m f (1 + l.length) (by omega) (by omega) (by omega)) ?_
      simp only [if_neg (show ¬ (1 : Int) + (l.length : Int) + (m.length : Int) < 0 from by omega)]
      refine Ev.bind (eqDyadic _ _ _ (by omega)) ?_
      simp only [if_true, bne_self_eq_false]
      refine Ev.step (fun k => by rw [laws_FnExactSubtractDyadics.j1, if_neg (by simp)]) ?_
      refine Ev.bind (markDyadic _ _ _ 1 (by omega) (by omega) (by omega)) ?_
      refine Ev.bind (heldDyadic _ _ _ 1 (by omega) (by omega) (by omega)) ?_
      simp only [if_neg (show ¬ (1 : Int) + (u.length : Int) < 0 from by omega), if_true]
      refine Ev.bind (toDyadic s l e hn) ?_
      refine Ev.bind (toDyadic t m f hn2) ?_
      simp only [implSubtractDyadics s l e t m f (by omega) (by omega), hR, Option.bind_some]
      refine Ev.bind (eqDyadic _ _ _ (by omega)) ?_
      simp only [if_true, bne_self_eq_false]
      refine Ev.step (fun k => by rw [laws_FnExactSubtractDyadics.j2, if_neg (by simp)]) ?_
      refine Ev.bind (heldDyadic _ _ _ 1 (by omega) (by omega) (by omega)) ?_
      simp only [if_neg (show ¬ (1 : Int) + (u.length : Int) < 0 from by omega), if_true]
      exact Ev.now true
end Go.Proofs.YthddlechoibdkaaDoor.Pur
