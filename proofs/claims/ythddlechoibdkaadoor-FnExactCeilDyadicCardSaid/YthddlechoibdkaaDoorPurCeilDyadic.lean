/- The law FnExactCeilDyadic, as a plain statement: it answers true at every argument. -/
import Derived.Test.YthddlechoibdkaaDoorPur5
import Derived.Test.YthddlechoibdkaaDoorX3
import Derived.Test.YthddlechoibdkaaDoorDy5
namespace Go.Proofs.YthddlechoibdkaaDoor.Pur
open Go.RowKit Go.Proofs.YthddlechoibdkaaDoor Go.Proofs.YthddlechoibdkaaDoor.Big Go.Proofs.YthddlechoibdkaaDoor.X Go.Proofs.YthddlechoibdkaaDoorW.PrintWords Go.Proofs.YthddlechoibdkaaDoorW.PrintLast Go.Proofs.YthddlechoibdkaaDoor.Math
set_option linter.unusedVariables false
set_option linter.unusedSimpArgs false

theorem l03Range (s : Int) (l : List Int) (e k lo hi : Int) (hl : l.length ≤ 1000000000) : Ev (fun f => spec_l03Range.f f s l e k lo hi) (rcode s l e k lo hi) := by
  unfold spec_l03Range.f rcode
  refine Ev.bind (l03Is s l e hl) ?_
  cases h : isD s l e
  · exact Ev.now _
  · simp only [if_true, l01In, Option.bind_some]
    by_cases hk : lo ≤ k ∧ k ≤ hi
    · rw [if_pos hk]
      simp only [decide_eq_true hk.1, decide_eq_true hk.2, Bool.and_self, if_true]
      exact Ev.now _
    · rw [if_neg hk]
      have : (decide (lo ≤ k) && decide (k ≤ hi)) = false := by
        rw [Bool.eq_false_iff]
        intro g
        simp only [Bool.and_eq_true, decide_eq_true_eq] at g
        exact hk g
      simp only [this, Bool.false_eq_true, if_false]
      exact Ev.now _
theorem tz_neg (n : Int) : tz (-n) = tz n := by unfold tz; rw [Int.natAbs_neg]
theorem oddp_neg (n : Int) : oddp (-n) = -oddp n := by
  by_cases h : n = 0
  · subst h
    simp [oddp]
  · unfold oddp
    rw [tz_neg, Int.neg_ediv_of_dvd (tz_dvd h)]
theorem l03Neg_mk (V p : Int) (hl : (limbs (oddp V).natAbs).length ≤ 1000000) : Ev (fun f => spec_l03Neg.f f (dymk V p).1 (dymk V p).2.1 (dymk V p).2.2) (dymk (-V) p) := by
  unfold spec_l03Neg.f
  by_cases h : V = 0
  · subst h
    have e : dymk (-0) p = (0, [], 0) := by rw [Int.neg_zero, dymk, if_pos rfl]
    have e2 : dymk 0 p = (0, [], 0) := by rw [dymk, if_pos rfl]
    rw [e, e2]
    have := l02Neg CW.zero (by simp)
    rw [wv_zero, Int.neg_zero, cn_zero] at this
    exact Ev.bind (f := fun _ bt => some (bt.1, bt.2, (0 : Int))) this (Ev.now _)
  · have h2 : -V ≠ 0 := by omega
    have e : dymk V p = ((cn (oddp V)).1, (cn (oddp V)).2, p + tz V) := by rw [dymk, if_neg h, oddp_cn h]
    have e2 : dymk (-V) p = ((cn (-oddp V)).1, (cn (-oddp V)).2, p + tz V) := by rw [dymk, if_neg h2, ← oddp_neg, oddp_cn h2, tz_neg]
    rw [e, e2]
    have := l02Neg (cw_cn (oddp V)) hl
    rw [wv_cn] at this
    exact Ev.bind (f := fun _ bt => some (bt.1, bt.2, p + (tz V : Int))) this (Ev.now _)
theorem l03Neg_cw {s : Int} {l : List Int} (h : CW s l) (hl : l.length ≤ 1000000) (e : Int) : Ev (fun f => spec_l03Neg.f f s l e) (-s, l, e) := by
  unfold spec_l03Neg.f
  have := l02Neg h hl
  rw [← wv_neg h, ← (cw_neg h).eq] at this
  exact Ev.bind (f := fun _ bt => some (bt.1, bt.2, e)) this (Ev.now _)
theorem clres_length (s : Int) (l : List Int) (e k : Int) : (clres s l e k).2.1.length ≤ 200 := by
  unfold clres
  split
  · exact dyfit_length _ _
  · simp
theorem isW_neg {s : Int} {l : List Int} (h : isW s l = true) : isW (-s) l = true := cw_isW (cw_neg (isW_cw h)) (isW_len h)
theorem odd_small {m q : Int} (h : m.natAbs < 16777216 ^ 200) : (limbs (oddp (shv m q)).natAbs).length ≤ 200 := by
  unfold shv
  split
  · by_cases hm : m = 0
    · subst hm
      rw [Int.zero_mul]
      simp [oddp, limbs_zero]
    · rw [oddp_shift hm]
      exact limbs_length_le (Nat.lt_of_le_of_lt (Int.natAbs_ediv_le_natAbs _ _) h)
  · exact limbs_length_le (Nat.lt_of_le_of_lt (Int.natAbs_ediv_le_natAbs _ _) (Nat.lt_of_le_of_lt (Int.natAbs_ediv_le_natAbs _ _) h))
theorem l03Floor {s : Int} {l : List Int} {e k : Int} (hw : isW s l = true) (hx : -5000 ≤ e ∧ e ≤ 5000) (hk : -1000 ≤ k ∧ k ≤ 1000) :
    Ev (fun f => spec_l03Floor.f f s l e k) (dymk (shv (wv s l) (e + k)) (-k)) := by
  have hlw := isW_len hw
  have hwk : wrap64 (-k) = -k := w64s (by omega) (by omega)
  have hwe : wrap64 (e + k) = e + k := w64s (by omega) (by omega)
  have hb := wv_bound hw
  by_cases hc : e ≥ -k
  · have h0 : 0 ≤ e + k := by omega
    have e2 : -k + (((e + k).toNat : Nat) : Int) = e := by omega
    have hs : shv (wv s l) (e + k) = wv s l * 2 ^ (e + k).toNat := by unfold shv; rw [if_pos h0]
    rw [hs, dymk_shift, e2]
    unfold spec_l03Floor.f
    simp only [hwk, if_pos hc]
    exact Ev.bind (f := fun _ bt => some (bt.1, bt.2.1, bt.2.2)) (l03Make (isW_cw hw) (by omega) e (by omega) (by omega)) (Ev.now _)
  · have hneg : ¬ 0 ≤ e + k := by omega
    have hle : (shv (wv s l) (e + k)).natAbs < 16777216 ^ 200 := by
      unfold shv
      rw [if_neg hneg]
      exact Nat.lt_of_le_of_lt (Int.natAbs_ediv_le_natAbs _ _) hb
    have hm := l03Make (cw_cn (shv (wv s l) (e + k))) (Nat.le_trans (limbs_length_le hle) (by decide)) (-k) (by omega) (by omega)
    rw [wv_cn] at hm
    unfold spec_l03Floor.f
    simp only [hwk, hwe, if_neg hc]
    refine Ev.bind (l02Shift hw (by omega) (by omega)) ?_
    exact Ev.bind (f := fun _ bt => some (bt.1, bt.2.1, bt.2.2)) hm (Ev.now _)
theorem l03Ceil {s : Int} {l : List Int} {e k : Int} (hw : isW s l = true) (hx : -5000 ≤ e ∧ e ≤ 5000) (hk : -1000 ≤ k ∧ k ≤ 1000) :
    Ev (fun f => spec_l03Ceil.f f s l e k) (dymk (-(shv (-(wv s l)) (e + k))) (-k)) := by
  have hc := isW_cw hw
  have hlw := isW_len hw
  have hw2 := isW_neg hw
  unfold spec_l03Ceil.f
  refine Ev.bind (l03Neg_cw hc (by omega) e) ?_
  refine Ev.bind (l03Floor hw2 hx hk) ?_
  rw [wv_neg hc]
  have hb : (-(wv s l)).natAbs < 16777216 ^ 200 := by rw [Int.natAbs_neg]; exact wv_bound hw
  have hn := l03Neg_mk (shv (-(wv s l)) (e + k)) (-k) (Nat.le_trans (odd_small hb) (by decide))
  exact Ev.bind (f := fun _ bt => some (bt.1, bt.2.1, bt.2.2)) hn (Ev.now _)
theorem specCeilDyadic (s : Int) (l : List Int) (e k : Int) (hl : l.length ≤ 1000000000) : Ev (fun f => spec_CeilDyadic.f f s l e k) (clres s l e k) := by
  unfold spec_CeilDyadic.f
  refine Ev.bind (l03Range s l e k (-1000) 1000 hl) ?_
  unfold clres
  by_cases hc : rcode s l e k (-1000) 1000 = 0
  · obtain ⟨hd, hk⟩ := rcode_ok hc
    simp only [if_pos hc]
    have hw := isD_isW hd
    refine Ev.bind (l03Ceil hw (isD_exp hd) hk) ?_
    have hb : (-(wv s l)).natAbs < 16777216 ^ 200 := by rw [Int.natAbs_neg]; exact wv_bound hw
    have hsm : (limbs (oddp (-(shv (-(wv s l)) (e + k)))).natAbs).length ≤ 1000000000 := by
      rw [oddp_neg, Int.natAbs_neg]
      exact Nat.le_trans (odd_small hb) (by decide)
    exact Ev.bind (f := fun _ bt => some (bt.1, bt.2.1, bt.2.2.1, bt.2.2.2)) (l03Fit _ _ hsm) (Ev.now _)
  · simp only [if_neg hc]
    exact Ev.now _
theorem implCeilDyadic (s : Int) (l : List Int) (ed : Int) (a : Int) (hl : l.length ≤ 1000000000) : impl_CeilDyadic.f s l ed a = some (clres s l ed a) := by
  unfold impl_CeilDyadic.f
  rw [if_pos hl]
set_option maxHeartbeats 1000000 in
theorem lawCeilDyadic (s : Int) (l : List Int) (ed : Int) (a : Int) (hl : l.length ≤ maxLen) (ha : (Lit.int .i64 a).wf = true) : ∃ k, laws_FnExactCeilDyadic.f k s l ed a = some true := by
  refine Ev.rounds ?_
  unfold laws_FnExactCeilDyadic.f
  simp only [szDyadic s l ed 1048576 (by omega) (by omega) hl, Option.bind_some]
  by_cases h : (1048576 : Int) - l.length < 0
  · simp only [if_pos h]
    exact Ev.now true
  · simp only [if_neg h]
    have hn : l.length ≤ 1048576 := by omega
    have hr := clres_length s l ed a
    refine Ev.bind (toDyadic s l ed hn) ?_
    refine Ev.bind (specCeilDyadic s l ed a (by omega)) ?_
    refine Ev.bind (toDyadic s l ed hn) ?_
    simp only [implCeilDyadic s l ed a (by omega), Option.bind_some]
    generalize hR : clres s l ed a = R at hr ⊢
    obtain ⟨q, u, x, e⟩ := R
    simp only at hr ⊢
    refine Ev.bind (eqDyadic _ _ _ (by omega)) ?_
    simp only [if_true, bne_self_eq_false]
    refine Ev.step (fun k => by rw [laws_FnExactCeilDyadic.j0, if_neg (by simp)]) ?_
    refine Ev.bind (toDyadic s l ed hn) ?_
    refine Ev.bind (eqDyadic s l ed hn) ?_
    simp only [if_true]
    refine Ev.bind (markDyadic s l ed 1 (by omega) (by omega) (by omega)) ?_
    simp only [if_neg (show ¬ (1 : Int) + (l.length : Int) < 0 from by omega)]
    refine Ev.bind (eqDyadic _ _ _ (by omega)) ?_
    simp only [if_true, bne_self_eq_false]
    refine Ev.step (fun k => by rw [laws_FnExactCeilDyadic.j1, if_neg (by simp)]) ?_
    refine Ev.bind (markDyadic _ _ _ 1 (by omega) (by omega) (by omega)) ?_
    refine Ev.bind (heldDyadic _ _ _ 1 (by omega) (by omega) (by omega)) ?_
    simp only [if_neg (show ¬ (1 : Int) + (u.length : Int) < 0 from by omega), if_true]
    refine Ev.bind (toDyadic s l ed hn) ?_
    simp only [implCeilDyadic s l ed a (by omega), hR, Option.bind_some]
    refine Ev.bind (eqDyadic _ _ _ (by omega)) ?_
    simp only [if_true, bne_self_eq_false]
    refine Ev.step (fun k => by rw [laws_FnExactCeilDyadic.j2, if_neg (by simp)]) ?_
    refine Ev.bind (heldDyadic _ _ _ 1 (by omega) (by omega) (by omega)) ?_
    simp only [if_neg (show ¬ (1 : Int) + (u.length : Int) < 0 from by omega), if_true]
    exact Ev.now true
end Go.Proofs.YthddlechoibdkaaDoor.Pur
