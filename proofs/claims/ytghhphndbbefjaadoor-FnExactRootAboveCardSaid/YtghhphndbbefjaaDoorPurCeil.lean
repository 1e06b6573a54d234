/- What spec.l03Ceil answers at exact numbers. -/
import Derived.Test.YtghhphndbbefjaaDoorPurC
import Derived.Test.YtghhphndbbefjaaDoorG17
import Derived.Test.YtghhphndbbefjaaDoorG20
import Derived.Test.YtghhphndbbefjaaDoorDy5
namespace Go.Proofs.YtghhphndbbefjaaDoor.Pur
open Go.RowKit Go.Proofs.YtghhphndbbefjaaDoor Go.Proofs.YtghhphndbbefjaaDoor.Big Go.Proofs.YtghhphndbbefjaaDoor.X Go.Proofs.YtghhphndbbefjaaDoorW.PrintWords Go.Proofs.YtghhphndbbefjaaDoorW.PrintLast Go.Proofs.YtghhphndbbefjaaDoor.Math
set_option linter.unusedVariables false
set_option linter.unusedSimpArgs false
theorem l03Range (s : Int) (l : List Int) (e k lo hi : Int) (hl : l.length ≤ 1000000000) : Ev (fun f => spec_l03Range.f f s l e k lo hi) (rcode s l e k lo hi) := by
 unfold spec_l03Range.f rcode
 refine Ev.bind (l03Is s l e hl) ?_
 cases h : isD s l e
 ·exact Ev.now _
 ·simp only [if_true, l01In, Option.bind_some]
  by_cases hk : lo ≤ k ∧ k ≤ hi
  ·rw [if_pos hk]
   simp only [decide_eq_true hk.1, decide_eq_true hk.2, Bool.and_self, if_true]
   exact Ev.now _
  ·rw [if_neg hk]
   have : (decide (lo ≤ k) && decide (k ≤ hi)) = false := by
    rw [Bool.eq_false_iff]
    intro g
    simp only [Bool.and_eq_true, decide_eq_true_eq] at g
    exact hk g
   simp only [this, Bool.false_eq_true, if_false]
   exact Ev.now _
theorem tz_neg (n : Int) : tz (-n) = tz n := by unfold tz; rw [Int.natAbs_neg]
theorem oddp_neg (n : Int) : oddp (-n) = -oddp n := by
 by_cases h : n = 0
 ·subst h
  simp [oddp]
 ·unfold oddp
  rw [tz_neg, Int.neg_ediv_of_dvd (tz_dvd h)]
theorem l03Neg_mk (V p : Int) (hl : (limbs (oddp V).natAbs).length ≤ 1000000) : Ev (fun f => spec_l03Neg.f f (dymk V p).1 (dymk V p).2.1 (dymk V p).2.2) (dymk (-V) p) := by
 unfold spec_l03Neg.f
 by_cases h : V = 0
 ·subst h
  have e : dymk (-0) p = (0, [], 0) := by rw [Int.neg_zero, dymk, if_pos rfl]
  have e2 : dymk 0 p = (0, [], 0) := by rw [dymk, if_pos rfl]
  rw [e, e2]
  have := l02Neg CW.zero (by simp)
  rw [wv_zero, Int.neg_zero, cn_zero] at this
  exact Ev.bind (f := fun _ bt => some (bt.1, bt.2, (0 : Int))) this (Ev.now _)
 ·have h2 : -V ≠ 0 := by omega
  have e : dymk V p = ((cn (oddp V)).1, (cn (oddp V)).2, p + tz V) := by rw [dymk, if_neg h, oddp_cn h]
  have e2 : dymk (-V) p = ((cn (-oddp V)).1, (cn (-oddp V)).2, p + tz V) := by rw [dymk, if_neg h2, ← oddp_neg, oddp_cn h2, tz_neg]
  rw [e, e2]
  have := l02Neg (cw_cn (oddp V)) hl
  rw [wv_cn] at this
  exact Ev.bind (f := fun _ bt => some (bt.1, bt.2, p + (tz V : Int))) this (Ev.now _)
theorem isW_neg {s : Int} {l : List Int} (h : isW s l = true) : isW (-s) l = true := cw_isW (cw_neg (isW_cw h)) (isW_len h)
theorem odd_small {m q : Int} (h : m.natAbs < 16777216 ^ 200) : (limbs (oddp (shv m q)).natAbs).length ≤ 200 := by
 unfold shv
 split
 ·by_cases hm : m = 0
  ·subst hm
   rw [Int.zero_mul]
   simp [oddp, limbs_zero]
  ·rw [oddp_shift hm]
   exact limbs_length_le (Nat.lt_of_le_of_lt (Int.natAbs_ediv_le_natAbs _ _) h)
 ·exact limbs_length_le (Nat.lt_of_le_of_lt (Int.natAbs_ediv_le_natAbs _ _) (Nat.lt_of_le_of_lt (Int.natAbs_ediv_le_natAbs _ _) h))
theorem l03Floor {s : Int} {l : List Int} {e k : Int} (hw : isW s l = true) (hx : -5000 ≤ e ∧ e ≤ 5000) (hk : -1000 ≤ k ∧ k ≤ 1000) :
  Ev (fun f => spec_l03Floor.f f s l e k) (dymk (shv (wv s l) (e + k)) (-k)) := by
 have hlw := isW_len hw
 have hwk : wrap64 (-k) = -k := w64s (by omega) (by omega)
 have hwe : wrap64 (e + k) = e + k := w64s (by omega) (by omega)
 have hb := wv_bound hw
 by_cases hc : e ≥ -k
 ·have h0 : 0 ≤ e + k := by omega
  have e2 : -k + (((e + k).toNat : Nat) : Int) = e := by omega
  have hs : shv (wv s l) (e + k) = wv s l * 2 ^ (e + k).toNat := by unfold shv; rw [if_pos h0]
  rw [hs, dymk_shift, e2]
  unfold spec_l03Floor.f
  simp only [hwk, if_pos hc]
  exact Ev.bind (f := fun _ bt => some (bt.1, bt.2.1, bt.2.2)) (l03Make (isW_cw hw) (by omega) e (by omega) (by omega)) (Ev.now _)
 ·have hneg : ¬ 0 ≤ e + k := by omega
  have hle : (shv (wv s l) (e + k)).natAbs < 16777216 ^ 200 := by
   unfold shv
   rw [if_neg hneg]
   exact Nat.lt_of_le_of_lt (Int.natAbs_ediv_le_natAbs _ _) hb
  have hm := l03Make (cw_cn (shv (wv s l) (e + k))) (Nat.le_trans (limbs_length_le hle) (by decide)) (-k) (by omega) (by omega)
  rw [wv_cn] at hm
  unfold spec_l03Floor.f
  simp only [hwk, hwe, if_neg hc]
  refine Ev.bind (l02Shift hw (by omega) (by omega)) ?_
  exact Ev.bind (f := fun _ bt => some (bt.1, bt.2.1, bt.2.2)) hm (Ev.now _)
theorem l03Ceil {s : Int} {l : List Int} {e k : Int} (hw : isW s l = true) (hx : -5000 ≤ e ∧ e ≤ 5000) (hk : -1000 ≤ k ∧ k ≤ 1000) :
  Ev (fun f => spec_l03Ceil.f f s l e k) (dymk (-(shv (-(wv s l)) (e + k))) (-k)) := by
 have hc := isW_cw hw
 have hlw := isW_len hw
 have hw2 := isW_neg hw
 unfold spec_l03Ceil.f
 refine Ev.bind (l03Neg_cw hc (by omega) e) ?_
 refine Ev.bind (l03Floor hw2 hx hk) ?_
 rw [wv_neg hc]
 have hb : (-(wv s l)).natAbs < 16777216 ^ 200 := by rw [Int.natAbs_neg]; exact wv_bound hw
 have hn := l03Neg_mk (shv (-(wv s l)) (e + k)) (-k) (Nat.le_trans (odd_small hb) (by decide))
 exact Ev.bind (f := fun _ bt => some (bt.1, bt.2.1, bt.2.2)) hn (Ev.now _)
end Go.Proofs.YtghhphndbbefjaaDoor.Pur
