/- The law FnExactShiftWhole, as a plain statement: it answers true at every sign, limbs and int64. -/
import Derived.Test.YtbmjakaoniegfaaDoorPur2
import Derived.Test.YtbmjakaoniegfaaDoorPur3
import Derived.Test.YtbmjakaoniegfaaDoorPur4
import Derived.Test.YtbmjakaoniegfaaDoorX4
import Derived.Test.YtbmjakaoniegfaaDoorX5
import Derived.Test.YtbmjakaoniegfaaDoorBnd6
namespace Go.Proofs.YtbmjakaoniegfaaDoor.Pur
open Go.RowKit Go.Proofs.YtbmjakaoniegfaaDoor Go.Proofs.YtbmjakaoniegfaaDoor.Big Go.Proofs.YtbmjakaoniegfaaDoor.X Go.Proofs.YtbmjakaoniegfaaDoorW.PrintWords Go.Proofs.YtbmjakaoniegfaaDoorW.PrintLast Go.Proofs.YtbmjakaoniegfaaDoor.Math
set_option linter.unusedVariables false
set_option linter.unusedSimpArgs false

theorem wfit_length (n : Int) : (wfit n).2.1.length ≤ 200 := by
  rw [wfit_cn]
  split
  · assumption
  · simp
theorem shiftres_length (s : Int) (l : List Int) (k : Int) : (shiftres s l k).2.1.length ≤ 200 := by
  unfold shiftres
  split
  · split
    · exact wfit_length _
    · simp
  · simp
theorem shv_len {s : Int} {l : List Int} (hw : isW s l = true) {k : Int} (h0 : -5000 ≤ k) (h1 : k ≤ 5000) : (limbs (shv (wv s l) k).natAbs).length ≤ 1000000000 := by
  have hb := wv_bound hw
  obtain ⟨j, hj⟩ : ∃ j, j = 200 := ⟨_, rfl⟩
  rw [← hj] at hb
  obtain ⟨u, hu⟩ : ∃ u, u = 209 := ⟨_, rfl⟩
  have hu2 : 5000 ≤ 24 * u := by omega
  refine Nat.le_trans (limbs_length_le (k := j + u) ?_) (by omega)
  have e : (16777216 : Nat) ^ (j + u) = 16777216 ^ j * 16777216 ^ u := Nat.pow_add ..
  have e2 : (16777216 : Nat) ^ u = 2 ^ (24 * u) := lpow_two u
  have hp : 0 < (16777216 : Nat) ^ u := Nat.pow_pos (by omega)
  rw [e]
  unfold shv
  by_cases hk : 0 ≤ k
  · obtain ⟨i, rfl⟩ := Int.eq_ofNat_of_zero_le hk
    rw [if_pos hk, Int.toNat_natCast, Int.natAbs_mul, Int.natAbs_pow]
    have hi : i ≤ 24 * u := Nat.le_trans (Int.ofNat_le.1 h1) hu2
    have h2 : (2 : Nat) ^ i ≤ 16777216 ^ u := by rw [e2]; exact Nat.pow_le_pow_right (by decide) hi
    exact Nat.mul_lt_mul_of_lt_of_le hb h2 hp
  · rw [if_neg hk]
    refine Nat.lt_of_le_of_lt (Int.natAbs_ediv_le_natAbs _ _) (Nat.lt_of_lt_of_le hb ?_)
    exact Nat.le_mul_of_pos_right _ hp
theorem specShiftWhole (s : Int) (l : List Int) (k : Int) (hl : l.length ≤ 1000000000) : Ev (fun f => spec_ShiftWhole.f f s l k) (shiftres s l k) := by
  unfold spec_ShiftWhole.f
  refine Ev.bind (l02Is s l hl) ?_
  unfold shiftres
  cases h : isW s l
  · exact Ev.now _
  · simp only [if_true, l01In, Option.bind_some]
    by_cases hk : -5000 ≤ k ∧ k ≤ 5000
    · rw [if_pos hk]
      simp only [decide_eq_true hk.1, decide_eq_true hk.2, Bool.and_self, if_true]
      refine Ev.bind (l02Shift h hk.1 hk.2) ?_
      exact Ev.bind (f := fun _ bt => some (bt.1, bt.2.1, bt.2.2)) (l02Fit _ (shv_len h hk.1 hk.2)) (Ev.now _)
    · rw [if_neg hk]
      have : (decide (-5000 ≤ k) && decide (k ≤ 5000)) = false := by simp; omega
      simp only [this, Bool.false_eq_true, if_false]
      exact Ev.now _
theorem implShiftWhole (s : Int) (l : List Int) (k : Int) (hl : l.length ≤ 1000000000) : impl_ShiftWhole.f s l k = some (shiftres s l k) := by
  unfold impl_ShiftWhole.f
  rw [if_pos hl]
set_option maxHeartbeats 1000000 in
theorem lawShiftWhole (s : Int) (l : List Int) (a : Int) (hl : l.length ≤ maxLen) (ha : (Lit.int .i64 a).wf = true) : ∃ k, laws_FnExactShiftWhole.f k s l a = some true := by
  refine Ev.rounds ?_
  unfold laws_FnExactShiftWhole.f
  simp only [szWhole s l 1048576 (by omega) (by omega) hl, Option.bind_some]
  by_cases h : (1048576 : Int) - l.length < 0
  · simp only [if_pos h]
    exact Ev.now true
  · simp only [if_neg h]
    have hn : l.length ≤ 1048576 := by omega
    have hr := shiftres_length s l a
    refine Ev.bind (toWhole s l hn) ?_
    refine Ev.bind (specShiftWhole s l a (by omega)) ?_
    refine Ev.bind (toWhole s l hn) ?_
    simp only [implShiftWhole s l a (by omega), Option.bind_some]
    generalize hR : shiftres s l a = R at hr ⊢
    obtain ⟨q, u, e⟩ := R
    simp only at hr ⊢
    refine Ev.bind (eqWhole _ _ (by omega)) ?_
    simp only [if_true, bne_self_eq_false]
    refine Ev.step (fun k => by rw [laws_FnExactShiftWhole.j0, if_neg (by simp)]) ?_
    refine Ev.bind (toWhole s l hn) ?_
    refine Ev.bind (eqWhole s l hn) ?_
    simp only [if_true]
    refine Ev.bind (markWhole s l 1 (by omega) (by omega) (by omega)) ?_
    simp only [if_neg (show ¬ (1 : Int) + (l.length : Int) < 0 from by omega)]
    refine Ev.bind (eqWhole _ _ (by omega)) ?_
    simp only [if_true, bne_self_eq_false]
    refine Ev.step (fun k => by rw [laws_FnExactShiftWhole.j1, if_neg (by simp)]) ?_
    refine Ev.bind (markWhole _ _ 1 (by omega) (by omega) (by omega)) ?_
    refine Ev.bind (heldWhole _ _ 1 (by omega) (by omega) (by omega)) ?_
    simp only [if_neg (show ¬ (1 : Int) + (u.length : Int) < 0 from by omega), if_true]
    refine Ev.bind (toWhole s l hn) ?_
    simp only [implShiftWhole s l a (by omega), hR, Option.bind_some]
    refine Ev.bind (eqWhole _ _ (by omega)) ?_
    simp only [if_true, bne_self_eq_false]
    refine Ev.step (fun k => by rw [laws_FnExactShiftWhole.j2, if_neg (by simp)]) ?_
    refine Ev.bind (heldWhole _ _ 1 (by omega) (by omega) (by omega)) ?_
    simp only [if_neg (show ¬ (1 : Int) + (u.length : Int) < 0 from by omega), if_true]
    exact Ev.now true
end Go.Proofs.YtbmjakaoniegfaaDoor.Pur
