/- The law FnExactAddWholes, as a plain statement: it answers true at every two signs and limbs. -/
import Derived.Test.YtlkomiiijhphnaaDoorG20
import Derived.Test.YtlkomiiijhphnaaDoorG25
import Derived.Test.YtlkomiiijhphnaaDoorBndB
namespace Go.Proofs.YtlkomiiijhphnaaDoor.Pur
open Go.RowKit Go.Proofs.YtlkomiiijhphnaaDoor Go.Proofs.YtlkomiiijhphnaaDoor.Big Go.Proofs.YtlkomiiijhphnaaDoor.X Go.Proofs.YtlkomiiijhphnaaDoorW.PrintWords Go.Proofs.YtlkomiiijhphnaaDoorW.PrintLast Go.Proofs.YtlkomiiijhphnaaDoor.Math
set_option linter.unusedVariables false
set_option linter.unusedSimpArgs false
theorem implAddWholes (s : Int) (l : List Int) (t : Int) (m : List Int) (hl : l.length ≤ 1000000000) (hm : m.length ≤ 1000000000) : impl_AddWholes.f s l t m = some (bfit (fun n k => n + k) s l t m) := by
 unfold impl_AddWholes.f
 rw [if_pos ⟨hl, hm⟩]
theorem specAddWholes (s : Int) (l : List Int) (t : Int) (m : List Int) (hl : l.length ≤ 1000000000) (hm : m.length ≤ 1000000000) : Ev (fun k => spec_AddWholes.f k s l t m) (bfit (fun n k => n + k) s l t m) := by
 unfold spec_AddWholes.f
 refine Ev.bind (l02Both s l t m hl hm) ?_
 unfold bfit
 cases h : (isW s l && isW t m)
 ·exact Ev.now _
 ·simp only [if_true]
  rw [Bool.and_eq_true] at h
  have h1 := isW_len h.1
  have h2 := isW_len h.2
  refine Ev.bind (l02Add (isW_cw h.1) (isW_cw h.2) (by omega) (by omega)) ?_
  exact Ev.bind (f := fun _ bt => some (bt.1, bt.2.1, bt.2.2)) (l02Fit _ (limbs_len_of (nat_two (f := fun a b => a + b) Int.natAbs_add_le (wv_bound h.1) (wv_bound h.2)))) (Ev.now _)
end Go.Proofs.YtlkomiiijhphnaaDoor.Pur
namespace Go.Proofs.YtlkomiiijhphnaaDoor.Pur
open Go.RowKit Go.Proofs.YtlkomiiijhphnaaDoor Go.Proofs.YtlkomiiijhphnaaDoor.Big Go.Proofs.YtlkomiiijhphnaaDoor.X Go.Proofs.YtlkomiiijhphnaaDoorW.PrintWords Go.Proofs.YtlkomiiijhphnaaDoorW.PrintLast Go.Proofs.YtlkomiiijhphnaaDoor.Math
set_option linter.unusedVariables false
set_option linter.unusedSimpArgs false
theorem implSubtractWholes (s : Int) (l : List Int) (t : Int) (m : List Int) (hl : l.length ≤ 1000000000) (hm : m.length ≤ 1000000000) : impl_SubtractWholes.f s l t m = some (bfit (fun n k => n - k) s l t m) := by
 unfold impl_SubtractWholes.f
 rw [if_pos ⟨hl, hm⟩]
theorem specSubtractWholes (s : Int) (l : List Int) (t : Int) (m : List Int) (hl : l.length ≤ 1000000000) (hm : m.length ≤ 1000000000) : Ev (fun k => spec_SubtractWholes.f k s l t m) (bfit (fun n k => n - k) s l t m) := by
 unfold spec_SubtractWholes.f
 refine Ev.bind (l02Both s l t m hl hm) ?_
 unfold bfit
 cases h : (isW s l && isW t m)
 ·exact Ev.now _
 ·simp only [if_true]
  rw [Bool.and_eq_true] at h
  have h1 := isW_len h.1
  have h2 := isW_len h.2
  refine Ev.bind (l02Sub (isW_cw h.1) (isW_cw h.2) (by omega) (by omega)) ?_
  exact Ev.bind (f := fun _ bt => some (bt.1, bt.2.1, bt.2.2)) (l02Fit _ (limbs_len_of (nat_two (f := fun a b => a - b) natAbs_sub_le (wv_bound h.1) (wv_bound h.2)))) (Ev.now _)
end Go.Proofs.YtlkomiiijhphnaaDoor.Pur
namespace Go.Proofs.YtlkomiiijhphnaaDoor.Pur
open Go.RowKit Go.Proofs.YtlkomiiijhphnaaDoor Go.Proofs.YtlkomiiijhphnaaDoor.Big Go.Proofs.YtlkomiiijhphnaaDoor.X Go.Proofs.YtlkomiiijhphnaaDoorW.PrintWords Go.Proofs.YtlkomiiijhphnaaDoorW.PrintLast Go.Proofs.YtlkomiiijhphnaaDoor.Math
set_option linter.unusedVariables false
set_option linter.unusedSimpArgs false
theorem implMultiplyWholes (s : Int) (l : List Int) (t : Int) (m : List Int) (hl : l.length ≤ 1000000000) (hm : m.length ≤ 1000000000) : impl_MultiplyWholes.f s l t m = some (bfit (fun n k => n * k) s l t m) := by
 unfold impl_MultiplyWholes.f
 rw [if_pos ⟨hl, hm⟩]
end Go.Proofs.YtlkomiiijhphnaaDoor.Pur
