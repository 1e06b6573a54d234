/- The law FnExactLengthOfWhole, as a plain statement: it answers true at every sign and limbs. -/
import Derived.Test.YtbmjakaoniegfaaPur1
import Derived.Test.YtbmjakaoniegfaaX6
namespace Go.Proofs.Ytbmjakaoniegfaa.Pur
open Go.RowKit Go.Proofs.Ytbmjakaoniegfaa Go.Proofs.Ytbmjakaoniegfaa.X Go.Proofs.YtbmjakaoniegfaaW.PrintWords Go.Proofs.YtbmjakaoniegfaaW.PrintLast Go.Proofs.Ytbmjakaoniegfaa.Math
set_option linter.unusedVariables false
set_option linter.unusedSimpArgs false

theorem implLengthOfWhole (s : Int) (l : List Int) (hl : l.length ≤ 1000000000) : impl_LengthOfWhole.f s l = some (if isW s l then ((blen (wv s l) : Int), 0) else (0, 1)) := by
  unfold impl_LengthOfWhole.f
  rw [if_pos hl]
theorem specLengthOfWhole (s : Int) (l : List Int) (hl : l.length ≤ 1000000000) : Ev (fun k => spec_LengthOfWhole.f k s l) (if isW s l then ((blen (wv s l) : Int), 0) else (0, 1)) := by
  unfold spec_LengthOfWhole.f
  refine Ev.bind (l02Is s l hl) ?_
  cases h : isW s l
  · exact Ev.now _
  · simp only [if_true]
    exact Ev.bind (f := fun _ t147 => some (t147, 0)) (l02Length (isW_cw h) hl) (Ev.now _)
theorem lawLengthOfWhole (s : Int) (l : List Int) (hl : l.length ≤ maxLen) : ∃ k, laws_FnExactLengthOfWhole.f k s l = some true := by
  refine Ev.rounds ?_
  unfold laws_FnExactLengthOfWhole.f
  simp only [szWhole s l 1048576 (by omega) (by omega) hl, Option.bind_some]
  by_cases h : (1048576 : Int) - l.length < 0
  · simp only [if_pos h]
    exact Ev.now true
  · simp only [if_neg h]
    have hn : l.length ≤ 1048576 := by omega
    refine Ev.bind (toWhole s l hn) ?_
    refine Ev.bind (specLengthOfWhole s l (by omega)) ?_
    refine Ev.bind (toWhole s l hn) ?_
    simp only [implLengthOfWhole s l (by omega), Option.bind_some, bne_self_eq_false, if_true]
    refine Ev.step (fun k => by rw [laws_FnExactLengthOfWhole.j0, if_neg (by simp)]) ?_
    refine Ev.bind (toWhole s l hn) ?_
    exact Ev.bind (f := fun _ t => if t = true then some true else some false) (eqWhole s l hn) (Ev.now _)
end Go.Proofs.Ytbmjakaoniegfaa.Pur
