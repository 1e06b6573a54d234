/- The law FnExactCompareWholes, as a plain statement: it answers true at every two signs and limbs. -/
import Derived.Test.YtbmjakaoniegfaaPur1
import Derived.Test.YtbmjakaoniegfaaX9
namespace Go.Proofs.Ytbmjakaoniegfaa.Pur
open Go.RowKit Go.Proofs.Ytbmjakaoniegfaa Go.Proofs.Ytbmjakaoniegfaa.X Go.Proofs.YtbmjakaoniegfaaW.PrintWords Go.Proofs.YtbmjakaoniegfaaW.PrintLast Go.Proofs.Ytbmjakaoniegfaa.Math
set_option linter.unusedVariables false
set_option linter.unusedSimpArgs false

theorem implCompareWholes (s : Int) (l : List Int) (t : Int) (m : List Int) (hl : l.length ≤ 1000000000) (hm : m.length ≤ 1000000000) : impl_CompareWholes.f s l t m = some (if isW s l && isW t m then (sgn (wv s l - wv t m), 0) else (0, 1)) := by
  unfold impl_CompareWholes.f
  rw [if_pos ⟨hl, hm⟩]
theorem specCompareWholes (s : Int) (l : List Int) (t : Int) (m : List Int) (hl : l.length ≤ 1000000000) (hm : m.length ≤ 1000000000) : Ev (fun k => spec_CompareWholes.f k s l t m) (if isW s l && isW t m then (sgn (wv s l - wv t m), 0) else (0, 1)) := by
  unfold spec_CompareWholes.f
  refine Ev.bind (l02Both s l t m hl hm) ?_
  cases h : (isW s l && isW t m)
  · exact Ev.now _
  · simp only [if_true]
    rw [Bool.and_eq_true] at h
    exact Ev.bind (f := fun _ t182 => some (t182, 0)) (l02Compare (isW_cw h.1) (isW_cw h.2) hl hm) (Ev.now _)
theorem lawCompareWholes (s : Int) (l : List Int) (t : Int) (m : List Int) (hl : l.length ≤ maxLen) (hm : m.length ≤ maxLen) : ∃ k, laws_FnExactCompareWholes.f k s l t m = some true := by
  refine Ev.rounds ?_
  unfold laws_FnExactCompareWholes.f
  simp only [szWhole s l 1048576 (by omega) (by omega) hl, Option.bind_some]
  by_cases h : (1048576 : Int) - l.length < 0
  · simp only [if_pos h]
    exact Ev.now true
  · simp only [if_neg h]
    have hn : l.length ≤ 1048576 := by omega
    simp only [szWhole t m (1048576 - l.length) (by omega) (by omega) hm, Option.bind_some]
    by_cases h2 : (1048576 : Int) - l.length - m.length < 0
    · simp only [if_pos h2]
      exact Ev.now true
    · simp only [if_neg h2]
      have hn2 : m.length ≤ 1048576 := by omega
      refine Ev.bind (toWhole s l hn) ?_
      refine Ev.bind (toWhole t m hn2) ?_
      refine Ev.bind (specCompareWholes s l t m (by omega) (by omega)) ?_
      refine Ev.bind (toWhole s l hn) ?_
      refine Ev.bind (toWhole t m hn2) ?_
      simp only [implCompareWholes s l t m (by omega) (by omega), Option.bind_some, bne_self_eq_false, if_true]
      refine Ev.step (fun k => by rw [laws_FnExactCompareWholes.j0, if_neg (by simp)]) ?_
      refine Ev.bind (toWhole s l hn) ?_
      refine Ev.bind (eqWhole s l hn) ?_
      simp only [if_true]
      refine Ev.bind (toWhole t m hn2) ?_
      exact Ev.bind (f := fun _ t => if t = true then some true else some false) (eqWhole t m hn2) (Ev.now _)
end Go.Proofs.Ytbmjakaoniegfaa.Pur
