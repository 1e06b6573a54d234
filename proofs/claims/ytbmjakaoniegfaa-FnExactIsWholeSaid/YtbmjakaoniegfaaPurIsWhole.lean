/- The law FnExactIsWhole, as a plain statement: it answers true at every sign and limbs. -/
import Derived.Test.YtbmjakaoniegfaaPur0
import Derived.Test.YtbmjakaoniegfaaX2
import Derived.Test.YtbmjakaoniegfaaBnd0
namespace Go.Proofs.Ytbmjakaoniegfaa.Pur
open Go.RowKit Go.Proofs.Ytbmjakaoniegfaa Go.Proofs.Ytbmjakaoniegfaa.X Go.Proofs.YtbmjakaoniegfaaW.PrintWords Go.Proofs.YtbmjakaoniegfaaW.PrintLast Go.Proofs.Ytbmjakaoniegfaa.Math
set_option linter.unusedVariables false
set_option linter.unusedSimpArgs false

theorem implIsWhole (s : Int) (l : List Int) (hl : l.length ≤ 1000000000) : impl_IsWhole.f s l = some (isW s l) := by
  unfold impl_IsWhole.f
  rw [if_pos hl]
theorem lawIsWhole (s : Int) (l : List Int) (hl : l.length ≤ maxLen) : ∃ k, laws_FnExactIsWhole.f k s l = some true := by
  refine Ev.rounds ?_
  unfold laws_FnExactIsWhole.f
  simp only [szWhole s l 1048576 (by omega) (by omega) hl, Option.bind_some]
  by_cases h : (1048576 : Int) - l.length < 0
  · simp only [if_pos h]
    exact Ev.now true
  · simp only [if_neg h]
    have hn : l.length ≤ 1048576 := by omega
    refine Ev.bind (toWhole s l hn) ?_
    refine Ev.bind (f := fun k t131 => _) (a := isW s l) ?_ ?_
    · exact Ev.bind (f := fun _ t => some t) (l02Is s l (by omega)) (Ev.now _)
    refine Ev.bind (toWhole s l hn) ?_
    simp only [implIsWhole s l (by omega), Option.bind_some, bne_self_eq_false, Bool.false_eq_true, if_false]
    refine Ev.bind (toWhole s l hn) ?_
    exact Ev.bind (f := fun _ t => if t = true then some true else some false) (eqWhole s l hn) (Ev.now _)
end Go.Proofs.Ytbmjakaoniegfaa.Pur
