/- The law FnExactPowerOfWhole, as a plain statement: it answers true at every sign, limbs and int64. -/
import Derived.Test.YtbmjakaoniegfaaDoorPur2
import Derived.Test.YtbmjakaoniegfaaDoorPur3
import Derived.Test.YtbmjakaoniegfaaDoorX2
import Derived.Test.YtbmjakaoniegfaaDoorX3
import Derived.Test.YtbmjakaoniegfaaDoorBnd5
namespace Go.Proofs.YtbmjakaoniegfaaDoor.Pur
open Go.RowKit Go.Proofs.YtbmjakaoniegfaaDoor Go.Proofs.YtbmjakaoniegfaaDoor.Big Go.Proofs.YtbmjakaoniegfaaDoor.X Go.Proofs.YtbmjakaoniegfaaDoorW.PrintWords Go.Proofs.YtbmjakaoniegfaaDoorW.PrintLast Go.Proofs.YtbmjakaoniegfaaDoor.Math
set_option linter.unusedVariables false
set_option linter.unusedSimpArgs false

theorem wfit_length (n : Int) : (wfit n).2.1.length ≤ 200 := by
  rw [wfit_cn]
  split
  · assumption
  · simp
theorem powf_length (n : Int) (j : Nat) : ∀ c, (powf n j c).2.1.length ≤ 200 := by
  induction j with
  | zero => intro c; exact wfit_length c
  | succ j ih =>
    intro c
    rw [powf]
    split
    · exact ih _
    · simp
theorem powres_length (s : Int) (l : List Int) (k : Int) : (powres s l k).2.1.length ≤ 200 := by
  unfold powres
  split
  · split
    · exact powf_length _ _ _
    · simp
  · simp
theorem cn_short {n : Int} (h : blen n ≤ 4800) : isW (cn n).1 (cn n).2 = true := cw_isW (cw_cn n) ((limbs_len_iff n 200).2 h)
theorem cn_bound {n : Int} (h : blen n ≤ 4800) : n.natAbs < 16777216 ^ 200 := by
  have := wv_bound (cn_short h)
  rwa [wv_cn] at this
theorem specPower_loop {s : Int} {l : List Int} (hw : isW s l = true) (j : Nat) : ∀ c, j ≤ 200 → blen c ≤ 4800 → Ev (fun k => spec_PowerOfWhole.l0 k (j : Int) s l (cn c).1 (cn c).2) (powf (wv s l) j c) := by
  induction j with
  | zero =>
    intro c hj hb
    rw [powf, wfit, if_pos hb]
    refine Ev.step (g := fun _ => some ((cn c).1, (cn c).2, (0 : Int))) (fun k => by simp [spec_PowerOfWhole.l0]) (Ev.now _)
  | succ j ih =>
    intro c hj hb
    have hw1 : wrap64 (((j + 1 : Nat) : Int) - 1) = (j : Int) := by rw [w64s (by omega) (by omega)]; omega
    have hp : ((j + 1 : Nat) : Int) > 0 := by omega
    have hm := l02Mul (cw_cn c) (isW_cw hw) (Nat.le_trans (isW_len (cn_short hb)) (by omega)) (Nat.le_trans (isW_len hw) (by omega))
    rw [wv_cn] at hm
    have hlen := limbs_len_mul (cn_bound hb) (wv_bound hw)
    refine Ev.step (fun k => by simp only [spec_PowerOfWhole.l0]; rw [if_pos hp, hw1]) ?_
    refine Ev.bind hm ?_
    refine Ev.bind (l02Is _ _ hlen) ?_
    rw [cw_isW_iff (cw_cn _), powf]
    by_cases h : blen (c * wv s l) ≤ 4800
    · rw [if_pos h, decide_eq_true (show (cn (c * wv s l)).2.length ≤ 200 from (limbs_len_iff _ 200).2 h)]
      simp only [if_true]
      exact ih _ (by omega) h
    · rw [if_neg h, decide_eq_false (show ¬ (cn (c * wv s l)).2.length ≤ 200 from fun g => h ((limbs_len_iff _ 200).1 g))]
      exact Ev.now _
theorem specPowerOfWhole (s : Int) (l : List Int) (k : Int) (hl : l.length ≤ 1000000000) : Ev (fun f => spec_PowerOfWhole.f f s l k) (powres s l k) := by
  unfold spec_PowerOfWhole.f
  refine Ev.bind (l02Is s l hl) ?_
  unfold powres
  cases h : isW s l
  · exact Ev.now _
  · simp only [if_true, l01In, Option.bind_some]
    by_cases hk : 0 ≤ k ∧ k ≤ 200
    · rw [if_pos hk]
      simp only [decide_eq_true hk.1, decide_eq_true hk.2, Bool.and_self, if_true]
      refine Ev.bind (l02Of (x := 1) (by omega) (by omega)) ?_
      obtain ⟨K, rfl⟩ := Int.eq_ofNat_of_zero_le hk.1
      rw [Int.toNat_natCast]
      exact specPower_loop h K 1 (by omega) (by decide)
    · rw [if_neg hk]
      have : (decide (0 ≤ k) && decide (k ≤ 200)) = false := by simp; omega
      simp only [this, Bool.false_eq_true, if_false]
      exact Ev.now _
theorem implPowerOfWhole (s : Int) (l : List Int) (k : Int) (hl : l.length ≤ 1000000000) : impl_PowerOfWhole.f s l k = some (powres s l k) := by
  unfold impl_PowerOfWhole.f
  rw [if_pos hl]
set_option maxHeartbeats 1000000 in
theorem lawPowerOfWhole (s : Int) (l : List Int) (a : Int) (hl : l.length ≤ maxLen) (ha : (Lit.int .i64 a).wf = true) : ∃ k, laws_FnExactPowerOfWhole.f k s l a = some true := by
  refine Ev.rounds ?_
  unfold laws_FnExactPowerOfWhole.f
  simp only [szWhole s l 1048576 (by omega) (by omega) hl, Option.bind_some]
  by_cases h : (1048576 : Int) - l.length < 0
  · simp only [if_pos h]
    exact Ev.now true
  · simp only [if_neg h]
    have hn : l.length ≤ 1048576 := by omega
    have hr := powres_length s l a
    refine Ev.bind (toWhole s l hn) ?_
    refine Ev.bind (specPowerOfWhole s l a (by omega)) ?_
    refine Ev.bind (toWhole s l hn) ?_
    simp only [implPowerOfWhole s l a (by omega), Option.bind_some]
    generalize hR : powres s l a = R at hr ⊢
    obtain ⟨q, u, e⟩ := R
    simp only at hr ⊢
    refine Ev.bind (eqWhole _ _ (by omega)) ?_
    simp only [if_true, bne_self_eq_false]
    refine Ev.step (fun k => by rw [laws_FnExactPowerOfWhole.j0, if_neg (by simp)]) ?_
    refine Ev.bind (toWhole s l hn) ?_
    refine Ev.bind (eqWhole s l hn) ?_
    simp only [if_true]
    refine Ev.bind (markWhole s l 1 (by omega) (by omega) (by omega)) ?_
    simp only [if_neg (show ¬ (1 : Int) + (l.length : Int) < 0 from by omega)]
    refine Ev.bind (eqWhole _ _ (by omega)) ?_
    simp only [if_true, bne_self_eq_false]
    refine Ev.step (fun k => by rw [laws_FnExactPowerOfWhole.j1, if_neg (by simp)]) ?_
    refine Ev.bind (markWhole _ _ 1 (by omega) (by omega) (by omega)) ?_
    refine Ev.bind (heldWhole _ _ 1 (by omega) (by omega) (by omega)) ?_
    simp only [if_neg (show ¬ (1 : Int) + (u.length : Int) < 0 from by omega), if_true]
    refine Ev.bind (toWhole s l hn) ?_
    simp only [implPowerOfWhole s l a (by omega), hR, Option.bind_some]
    refine Ev.bind (eqWhole _ _ (by omega)) ?_
    simp only [if_true, bne_self_eq_false]
    refine Ev.step (fun k => by rw [laws_FnExactPowerOfWhole.j2, if_neg (by simp)]) ?_
    refine Ev.bind (heldWhole _ _ 1 (by omega) (by omega) (by omega)) ?_
    simp only [if_neg (show ¬ (1 : Int) + (u.length : Int) < 0 from by omega), if_true]
    exact Ev.now true
end Go.Proofs.YtbmjakaoniegfaaDoor.Pur
