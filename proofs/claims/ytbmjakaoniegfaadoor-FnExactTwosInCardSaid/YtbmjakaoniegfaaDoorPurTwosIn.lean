/- The law FnExactTwosIn, as a plain statement: it answers true at every sign and limbs. -/
import Derived.Test.YtbmjakaoniegfaaDoorPur4
import Derived.Test.YtbmjakaoniegfaaDoorX1
import Derived.Test.YtbmjakaoniegfaaDoorBnd6
import Derived.Test.YtbmjakaoniegfaaDoorX2
namespace Go.Proofs.YtbmjakaoniegfaaDoor.Pur
open Go.RowKit Go.Proofs.YtbmjakaoniegfaaDoor Go.Proofs.YtbmjakaoniegfaaDoor.Big Go.Proofs.YtbmjakaoniegfaaDoor.X Go.Proofs.YtbmjakaoniegfaaDoorW.PrintWords Go.Proofs.YtbmjakaoniegfaaDoorW.PrintLast Go.Proofs.YtbmjakaoniegfaaDoor.Math
set_option linter.unusedVariables false
set_option linter.unusedSimpArgs false

theorem implTwosIn (s : Int) (l : List Int) (hl : l.length ≤ 1000000000) : impl_TwosIn.f s l = some (if isW s l then (if s = 0 then (0, 5) else ((tz (wv s l) : Int), 0)) else (0, 1)) := by
  unfold impl_TwosIn.f
  rw [if_pos hl]
theorem specTwosIn (s : Int) (l : List Int) (hl : l.length ≤ 1000000000) : Ev (fun k => spec_TwosIn.f k s l) (if isW s l then (if s = 0 then (0, 5) else ((tz (wv s l) : Int), 0)) else (0, 1)) := by
  unfold spec_TwosIn.f
  refine Ev.bind (l02Is s l hl) ?_
  cases h : isW s l
  · exact Ev.now _
  · simp only [if_true]
    by_cases hs : s = 0
    · simp only [if_pos hs]
      exact Ev.now _
    · simp only [if_neg hs]
      exact Ev.bind (f := fun _ t147 => some (t147, 0)) (l02Twos h hs) (Ev.now _)
theorem lawTwosIn (s : Int) (l : List Int) (hl : l.length ≤ maxLen) : ∃ k, laws_FnExactTwosIn.f k s l = some true := by
  refine Ev.rounds ?_
  unfold laws_FnExactTwosIn.f
  simp only [szWhole s l 1048576 (by omega) (by omega) hl, Option.bind_some]
  by_cases h : (1048576 : Int) - l.length < 0
  · simp only [if_pos h]
    exact Ev.now true
  · simp only [if_neg h]
    have hn : l.length ≤ 1048576 := by omega
    refine Ev.bind (toWhole s l hn) ?_
    refine Ev.bind (specTwosIn s l (by omega)) ?_
    refine Ev.bind (toWhole s l hn) ?_
    simp only [implTwosIn s l (by omega), Option.bind_some, bne_self_eq_false, if_true]
    refine Ev.step (fun k => by rw [laws_FnExactTwosIn.j0, if_neg (by simp)]) ?_
    refine Ev.bind (toWhole s l hn) ?_
    exact Ev.bind (f := fun _ t => if t = true then some true else some false) (eqWhole s l hn) (Ev.now _)
end Go.Proofs.YtbmjakaoniegfaaDoor.Pur
