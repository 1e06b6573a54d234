/- The reference's sums, differences and products of whole numbers, as plain mathematics. Conditions: limbs in range, lengths to 10^6. -/
import Derived.Test.YtbmjakaoniegfaaDoorPur1
import Derived.Test.YtbmjakaoniegfaaDoorMathM
import Derived.Test.YtbmjakaoniegfaaDoorBigD
import Derived.Test.YtbmjakaoniegfaaDoorX3
namespace Go.Proofs.YtbmjakaoniegfaaDoor.Pur
open Go.RowKit Go.Proofs.YtbmjakaoniegfaaDoor Go.Proofs.YtbmjakaoniegfaaDoor.Big Go.Proofs.YtbmjakaoniegfaaDoor.X Go.Proofs.YtbmjakaoniegfaaDoorW.PrintWords Go.Proofs.YtbmjakaoniegfaaDoorW.PrintLast Go.Proofs.YtbmjakaoniegfaaDoor.Math
set_option linter.unusedVariables false
set_option linter.unusedSimpArgs false

theorem cn_zero : cn 0 = (0, []) := by simp [cn, sgn, limbs_zero]
theorem wv_bound {s : Int} {l : List Int} (h : isW s l = true) : (wv s l).natAbs < 16777216 ^ 200 := by
  have hc := isW_cw h
  have h1 := lv_lt hc.ok
  have h0 := lv_nonneg hc.ok
  have h2 := lpow_mono (isW_len h)
  have h3 := lpow_cast 200
  rw [hc.natAbs]
  generalize (16777216 : Nat) ^ 200 = p at h3 ⊢
  generalize (16777216 : Int) ^ 200 = q at h2 h3
  generalize (16777216 : Int) ^ l.length = r at h1 h2
  generalize lv l = v at h0 h1 ⊢
  omega
theorem limbs_len_of {n : Int} (h : n.natAbs < 2 * 16777216 ^ 200) : (limbs n.natAbs).length ≤ 1000000000 := by
  refine Nat.le_trans (limbs_length_le (k := 201) ?_) (by omega)
  have e : (16777216 : Nat) ^ 201 = 16777216 ^ 200 * 16777216 := Nat.pow_succ ..
  rw [e]
  generalize (16777216 : Nat) ^ 200 = p at h
  omega
theorem natAbs_sub_le (a b : Int) : (a - b).natAbs ≤ a.natAbs + b.natAbs := by omega
theorem nat_two {f : Int → Int → Int} {n k : Int} (hf : ∀ a b, (f a b).natAbs ≤ a.natAbs + b.natAbs) (h : n.natAbs < 16777216 ^ 200) (g : k.natAbs < 16777216 ^ 200) : (f n k).natAbs < 2 * 16777216 ^ 200 := by
  have := hf n k
  generalize (16777216 : Nat) ^ 200 = p at h g ⊢
  omega
theorem limbs_len_mul {n k : Int} (h : n.natAbs < 16777216 ^ 200) (g : k.natAbs < 16777216 ^ 200) : (limbs (n * k).natAbs).length ≤ 1000000000 := by
  obtain ⟨j, hj⟩ : ∃ j, j = 200 := ⟨_, rfl⟩
  rw [← hj] at h g
  refine Nat.le_trans (limbs_length_le (k := j + j) ?_) (by omega)
  rw [Nat.pow_add, Int.natAbs_mul]
  exact Nat.mul_lt_mul'' h g
theorem l02Make_cw {s : Int} {l : List Int} (h : CW s l) (hl : l.length ≤ 1000000000) : Ev (fun k => spec_l02Make.f k s l) (cn (wv s l)) := by
  by_cases e : l = []
  · have hs := h.z e
    subst e hs
    refine ⟨1, fun k hk => ?_⟩
    obtain ⟨k, rfl⟩ : ∃ m, k = m + 1 := ⟨k - 1, by omega⟩
    show spec_l02Make.f (k + 1) 0 [] = _
    unfold spec_l02Make.f
    simp only [spec_l02Make.l0, List.length_nil]
    rw [if_neg (by omega), if_pos (by omega), wv_zero, cn_zero]
  · rw [h.val]
    exact l02Make (h.nz e) h.ok hl
theorem lv_zero_getD {l : List Int} (ol : Okl l) (h : lv l = 0) : ∀ n, l.getD n 0 = 0 := by
  induction l with
  | nil => intro n; simp
  | cons x xs ih =>
    have h1 := ol.head
    have h2 := lv_nonneg ol.tail
    simp only [lv] at h
    intro n
    cases n with
    | zero => simp only [List.getD_cons_zero]; omega
    | succ n => rw [List.getD_cons_succ]; exact ih ol.tail (by omega) n
theorem l02Make_zero_loop {s : Int} {l : List Int} (hz : ∀ n, l.getD n 0 = 0) (hl : l.length ≤ 1000000000) (n : Nat) : ∀ k, n ≤ l.length → n < k → spec_l02Make.l0 k s l (n : Int) = some (0, []) := by
  induction n with
  | zero =>
    intro k h0 hk
    obtain ⟨k, rfl⟩ : ∃ m, k = m + 1 := ⟨k - 1, by omega⟩
    simp only [spec_l02Make.l0]
    rw [if_neg (by omega), if_pos (by omega)]
  | succ n ih =>
    intro k h0 hk
    obtain ⟨k, rfl⟩ : ∃ m, k = m + 1 := ⟨k - 1, by omega⟩
    simp only [spec_l02Make.l0]
    rw [if_pos (by omega), w64s (by omega) (by omega), show ((n + 1 : Nat) : Int) - 1 = (n : Int) from by omega, if_pos (by omega), if_pos (by omega), rd_cast, if_pos (hz n)]
    exact ih k (by omega) (by omega)
theorem l02Make_zero {s : Int} {l : List Int} (ol : Okl l) (h : lv l = 0) (hl : l.length ≤ 1000000000) : Ev (fun k => spec_l02Make.f k s l) (cn 0) := by
  rw [cn_zero]
  refine ⟨l.length + 1, fun k hk => ?_⟩
  show spec_l02Make.f k s l = _
  unfold spec_l02Make.f
  exact l02Make_zero_loop (lv_zero_getD ol h) hl l.length k (Nat.le_refl _) (by omega)
theorem wfit_cn (n : Int) : wfit n = if (limbs n.natAbs).length ≤ 200 then (sgn n, limbs n.natAbs, 0) else (0, [], 3) := by
  unfold wfit
  by_cases h : blen n ≤ 4800
  · rw [if_pos h, if_pos ((limbs_len_iff n 200).2 h)]
  · rw [if_neg h, if_neg (fun g => h ((limbs_len_iff n 200).1 g))]
theorem l02Fit (n : Int) (hl : (limbs n.natAbs).length ≤ 1000000000) : Ev (fun k => spec_l02Fit.f k (cn n).1 (cn n).2) (wfit n) := by
  unfold spec_l02Fit.f
  refine Ev.bind (l02Is _ _ hl) ?_
  rw [cw_isW_iff (cw_cn n), wfit_cn]
  by_cases h : (limbs n.natAbs).length ≤ 200
  · rw [if_pos h, decide_eq_true (show (cn n).2.length ≤ 200 from h)]
    exact Ev.now _
  · rw [if_neg h, decide_eq_false (show ¬ (cn n).2.length ≤ 200 from h)]
    exact Ev.now _
theorem tdm {t : Int} (h : 0 ≤ t) : Int.tmod t 16777216 = t % 16777216 ∧ Int.tdiv t 16777216 = t / 16777216 := ⟨Int.tmod_eq_emod_of_nonneg h, Int.tdiv_eq_ediv_of_nonneg h⟩
theorem getD_out {l : List Int} {k : Nat} (h : l.length ≤ k) : l.getD k 0 = 0 := by
  rw [List.getD_eq_getElem?_getD, List.getElem?_eq_none h]
  rfl
end Go.Proofs.YtbmjakaoniegfaaDoor.Pur
