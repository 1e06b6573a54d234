/- The law FnExactFloorDyadic, as a plain statement: it answers true at every argument. -/
import Derived.Test.YthddlechoibdkaaDoorPur5
import Derived.Test.YthddlechoibdkaaDoorX5
import Derived.Test.YthddlechoibdkaaDoorX6
import Derived.Test.YthddlechoibdkaaDoorDyN
namespace Go.Proofs.YthddlechoibdkaaDoor.Pur
open Go.RowKit Go.Proofs.YthddlechoibdkaaDoor Go.Proofs.YthddlechoibdkaaDoor.Big Go.Proofs.YthddlechoibdkaaDoor.X Go.Proofs.YthddlechoibdkaaDoorW.PrintWords Go.Proofs.YthddlechoibdkaaDoorW.PrintLast Go.Proofs.YthddlechoibdkaaDoor.Math
set_option linter.unusedVariables false
set_option linter.unusedSimpArgs false

theorem l03Range (s : Int) (l : List Int) (e k lo hi : Int) (hl : l.length ≤ 1000000000) : Ev (fun f => spec_l03Range.f f s l e k lo hi) (rcode s l e k lo hi) := by
  unfold spec_l03Range.f rcode
  refine Ev.bind (l03Is s l e hl) ?_
  cases h : isD s l e
  · exact Ev.now _
  · simp only [if_true, l01In, Option.bind_some]
    by_cases hk : lo ≤ k ∧ k ≤ hi
    · rw [if_pos hk]
      simp only [decide_eq_true hk.1, decide_eq_true hk.2, Bool.and_self, if_true]
      exact Ev.now _
    · rw [if_neg hk]
      have : (decide (lo ≤ k) && decide (k ≤ hi)) = false := by
        rw [Bool.eq_false_iff]
        intro g
        simp only [Bool.and_eq_true, decide_eq_true_eq] at g
        exact hk g
      simp only [this, Bool.false_eq_true, if_false]
      exact Ev.now _
theorem flres_length (s : Int) (l : List Int) (e k : Int) : (flres s l e k).2.1.length ≤ 200 := by
  unfold flres
  split
  · exact dyfit_length _ _
  · simp
theorem l03Floor {s : Int} {l : List Int} {e k : Int} (hw : isW s l = true) (hx : -5000 ≤ e ∧ e ≤ 5000) (hk : -1000 ≤ k ∧ k ≤ 1000) :
    ∃ r : Int × List Int × Int, Ev (fun f => spec_l03Floor.f f s l e k) r ∧ Ev (fun f => spec_l03Fit.f f r.1 r.2.1 r.2.2) (dyfit (shv (wv s l) (e + k)) (-k)) := by
  have hlw := isW_len hw
  have hwk : wrap64 (-k) = -k := w64s (by omega) (by omega)
  have hwe : wrap64 (e + k) = e + k := w64s (by omega) (by omega)
  have hb := wv_bound hw
  by_cases hc : e ≥ -k
  · refine ⟨dymk (wv s l) e, ?_, ?_⟩
    · unfold spec_l03Floor.f
      simp only [hwk, if_pos hc]
      exact Ev.bind (f := fun _ bt => some (bt.1, bt.2.1, bt.2.2)) (l03Make (isW_cw hw) (by omega) e (by omega) (by omega)) (Ev.now _)
    · have h0 : 0 ≤ e + k := by omega
      have e2 : -k + (((e + k).toNat : Nat) : Int) = e := by omega
      have hs : shv (wv s l) (e + k) = wv s l * 2 ^ (e + k).toNat := by unfold shv; rw [if_pos h0]
      rw [hs, dyfit_shift, e2]
      exact l03Fit _ _ (odd_len hb (by decide))
  · have hneg : ¬ 0 ≤ e + k := by omega
    have hle : (shv (wv s l) (e + k)).natAbs < 16777216 ^ 200 := by
      unfold shv
      rw [if_neg hneg]
      exact Nat.lt_of_le_of_lt (Int.natAbs_ediv_le_natAbs _ _) hb
    have hm := l03Make (cw_cn (shv (wv s l) (e + k))) (Nat.le_trans (limbs_length_le hle) (by decide)) (-k) (by omega) (by omega)
    rw [wv_cn] at hm
    refine ⟨dymk (shv (wv s l) (e + k)) (-k), ?_, l03Fit _ _ (odd_len hle (by decide))⟩
    unfold spec_l03Floor.f
    simp only [hwk, hwe, if_neg hc]
    refine Ev.bind (l02Shift hw (by omega) (by omega)) ?_
    exact Ev.bind (f := fun _ bt => some (bt.1, bt.2.1, bt.2.2)) hm (Ev.now _)
theorem specFloorDyadic (s : Int) (l : List Int) (e k : Int) (hl : l.length ≤ 1000000000) : Ev (fun f => spec_FloorDyadic.f f s l e k) (flres s l e k) := by
  unfold spec_FloorDyadic.f
  refine Ev.bind (l03Range s l e k (-1000) 1000 hl) ?_
  unfold flres
  by_cases hc : rcode s l e k (-1000) 1000 = 0
  · obtain ⟨hd, hk⟩ := rcode_ok hc
    simp only [if_pos hc]
    obtain ⟨r, h1, h2⟩ := l03Floor (isD_isW hd) (isD_exp hd) hk
    refine Ev.bind h1 ?_
    exact Ev.bind (f := fun _ bt => some (bt.1, bt.2.1, bt.2.2.1, bt.2.2.2)) h2 (Ev.now _)
  · simp only [if_neg hc]
    exact Ev.now _
theorem implFloorDyadic (s : Int) (l : List Int) (ed : Int) (a : Int) (hl : l.length ≤ 1000000000) : impl_FloorDyadic.f s l ed a = some (flres s l ed a) := by
  unfold impl_FloorDyadic.f
  rw [if_pos hl]
set_option maxHeartbeats 1000000 in
theorem lawFloorDyadic (s : Int) (l : List Int) (ed : Int) (a : Int) (hl : l.length ≤ maxLen) (ha : (Lit.int .i64 a).wf = true) : ∃ k, laws_FnExactFloorDyadic.f k s l ed a = some true := by
  refine Ev.rounds ?_
  unfold laws_FnExactFloorDyadic.f
  simp only [szDyadic s l ed 1048576 (by omega) (by omega) hl, Option.bind_some]
  by_cases h : (1048576 : Int) - l.length < 0
  · simp only [if_pos h]
    exact Ev.now true
  · simp only [if_neg h]
    have hn : l.length ≤ 1048576 := by omega
    have hr := flres_length s l ed a
    refine Ev.bind (toDyadic s l ed hn) ?_
    refine Ev.bind (specFloorDyadic s l ed a (by omega)) ?_
    refine Ev.bind (toDyadic s l ed hn) ?_
    simp only [implFloorDyadic s l ed a (by omega), Option.bind_some]
    generalize hR : flres s l ed a = R at hr ⊢
    obtain ⟨q, u, x, e⟩ := R
    simp only at hr ⊢
    refine Ev.bind (eqDyadic _ _ _ (by omega)) ?_
    simp only [if_true, bne_self_eq_false]
    refine Ev.step (fun k => by rw [laws_FnExactFloorDyadic.j0, if_neg (by simp)]) ?_
    refine Ev.bind (toDyadic s l ed hn) ?_
    refine Ev.bind (eqDyadic s l ed hn) ?_
    simp only [if_true]
    refine Ev.bind (markDyadic s l ed 1 (by omega) (by omega) (by omega)) ?_
    simp only [if_neg (show ¬ (1 : Int) + (l.length : Int) < 0 from by omega)]
    refine Ev.bind (eqDyadic _ _ _ (by omega)) ?_
    simp only [if_true, bne_self_eq_false]
    refine Ev.step (fun k => by rw [laws_FnExactFloorDyadic.j1, if_neg (by simp)]) ?_
    refine Ev.bind (markDyadic _ _ _ 1 (by omega) (by omega) (by omega)) ?_
    refine Ev.bind (heldDyadic _ _ _ 1 (by omega) (by omega) (by omega)) ?_
    simp only [if_neg (show ¬ (1 : Int) + (u.length : Int) < 0 from by omega), if_true]
    refine Ev.bind (toDyadic s l ed hn) ?_
    simp only [implFloorDyadic s l ed a (by omega), hR, Option.bind_some]
    refine Ev.bind (eqDyadic _ _ _ (by omega)) ?_
    simp only [if_true, bne_self_eq_false]
    refine Ev.step (fun k => by rw [laws_FnExactFloorDyadic.j2, if_neg (by simp)]) ?_
    refine Ev.bind (heldDyadic _ _ _ 1 (by omega) (by omega) (by omega)) ?_
    simp only [if_neg (show ¬ (1 : Int) + (u.length : Int) < 0 from by omega), if_true]
    exact Ev.now true
end Go.Proofs.YthddlechoibdkaaDoor.Pur
