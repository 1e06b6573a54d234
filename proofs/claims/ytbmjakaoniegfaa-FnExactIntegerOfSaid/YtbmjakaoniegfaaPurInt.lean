/- The law FnExactIntegerOf, as a plain statement: it answers true at every sign and limbs. -/
import Derived.Test.YtbmjakaoniegfaaPur1
import Derived.Test.YtbmjakaoniegfaaX6
namespace Go.Proofs.Ytbmjakaoniegfaa.Pur
open Go.RowKit Go.Proofs.Ytbmjakaoniegfaa Go.Proofs.Ytbmjakaoniegfaa.Big Go.Proofs.Ytbmjakaoniegfaa.X Go.Proofs.YtbmjakaoniegfaaW.PrintWords Go.Proofs.YtbmjakaoniegfaaW.PrintLast Go.Proofs.Ytbmjakaoniegfaa.Math
set_option linter.unusedVariables false
set_option linter.unusedSimpArgs false

theorem implIntegerOf (s : Int) (l : List Int) (hl : l.length ≤ 1000000000) : impl_IntegerOf.f s l = some (if isW s l then (if fits64 (wv s l) then (wv s l, 0) else (0, 3)) else (0, 1)) := by
  unfold impl_IntegerOf.f
  rw [if_pos hl]
theorem lv_drop_le {l : List Int} (ok : Okl l) (n : Nat) : lv (l.drop n) ≤ lv l := by
  induction n with
  | zero => exact Int.le_refl _
  | succ n ih =>
    rcases Nat.lt_or_ge n l.length with h | h
    · have h1 := lv_drop h
      have h2 := okl_getD ok n
      have h3 := lv_nonneg (okl_drop ok (n + 1))
      omega
    · rw [List.drop_of_length_le (by omega)]
      exact lv_nonneg ok
theorem integer_loop {s : Int} {l : List Int} (ok : Okl l) (hs : s = 0 ∨ s = 1 ∨ s = -1) (hl : l.length ≤ 1000000000) (h0 : -9223372036854775808 ≤ s * lv l) (h1 : s * lv l ≤ 9223372036854775807) (n : Nat) : ∀ k, n ≤ l.length → n < k →
    spec_IntegerOf.l0 k (s * lv (l.drop n)) ((n : Int) - 1) s l = some (s * lv l, 0) := by
  induction n with
  | zero =>
    intro k hn hk
    obtain ⟨k, rfl⟩ : ∃ m, k = m + 1 := ⟨k - 1, by omega⟩
    simp only [spec_IntegerOf.l0]
    rw [if_neg (by omega)]
    rfl
  | succ n ih =>
    intro k hn hk
    obtain ⟨k, rfl⟩ : ∃ m, k = m + 1 := ⟨k - 1, by omega⟩
    simp only [spec_IntegerOf.l0]
    have a := lv_drop (show n < l.length from by omega)
    have b := lv_drop_le ok n
    have c := okl_getD ok n
    have d := lv_nonneg (okl_drop ok (n + 1))
    have e : s * lv (l.drop (n + 1)) * 16777216 + s * l.getD n 0 = s * lv (l.drop n) := by
      rw [a, Int.mul_add, Int.mul_assoc, Int.mul_comm (lv (l.drop (n + 1))) 16777216]
      omega
    rw [show ((n + 1 : Nat) : Int) - 1 = (n : Int) from by omega, if_pos (by omega), if_pos (by omega), if_pos (by omega), rd_cast]
    rw [w64s (x := s * lv (l.drop (n + 1)) * 16777216) (by rcases hs with rfl | rfl | rfl <;> omega) (by rcases hs with rfl | rfl | rfl <;> omega)]
    rw [w64s (x := s * l.getD n 0) (by rcases hs with rfl | rfl | rfl <;> omega) (by rcases hs with rfl | rfl | rfl <;> omega), e]
    rw [w64s (x := s * lv (l.drop n)) (by rcases hs with rfl | rfl | rfl <;> omega) (by rcases hs with rfl | rfl | rfl <;> omega), w64s (by omega) (by omega)]
    exact ih k (by omega) (by omega)
theorem integer_end {s : Int} {l : List Int} (hw : CW s l) (hl : l.length ≤ 1000000000) (hf : fits64 (wv s l) = true) : Ev (fun k => spec_IntegerOf.j0 k false s l) (wv s l, 0) := by
  simp only [fits64, Bool.and_eq_true, decide_eq_true_eq] at hf
  rw [hw.val] at hf ⊢
  refine Ev.step (fun k => by rw [spec_IntegerOf.j0, if_neg (by simp), w64s (by omega) (by omega)]) ?_
  refine ⟨l.length + 1, fun k hk => ?_⟩
  have hs : s = 0 ∨ s = 1 ∨ s = -1 := by have := hw.sign; omega
  have := integer_loop hw.ok hs hl (by omega) (by omega) l.length k (Nat.le_refl _) (by omega)
  rw [List.drop_length, show s * lv [] = 0 from by simp [lv]] at this
  exact this
theorem sgn_neg_iff {n : Int} : sgn n < 0 ↔ n < 0 := by
  unfold sgn
  split
  · omega
  · split <;> omega
theorem sgn_pos_iff {n : Int} : sgn n > 0 ↔ n > 0 := by
  unfold sgn
  split
  · omega
  · split <;> omega
theorem specIntegerOf (s : Int) (l : List Int) (hl : l.length ≤ 1000000000) : Ev (fun k => spec_IntegerOf.f k s l) (if isW s l then (if fits64 (wv s l) then (wv s l, 0) else (0, 3)) else (0, 1)) := by
  unfold spec_IntegerOf.f
  refine Ev.bind (l02Is s l hl) ?_
  cases h : isW s l
  · exact Ev.now _
  · simp only [if_true]
    have hw := isW_cw h
    refine Ev.bind (l02Of (x := -9223372036854775808) (by omega) (by omega)) ?_
    refine Ev.bind (l02Of (x := 9223372036854775807) (by omega) (by omega)) ?_
    have len : ∀ z : Int, z.natAbs < 16777216 ^ 3 → (cn z).2.length ≤ 1000000000 := fun z hz => Nat.le_trans (limbs_length_le hz) (by omega)
    refine Ev.bind (l02Compare hw (cw_cn _) hl (len _ (by decide))) ?_
    rw [wv_cn]
    by_cases h1 : wv s l < -9223372036854775808
    · have e : fits64 (wv s l) = false := by simp [fits64]; omega
      simp only [if_pos (sgn_neg_iff.2 (show wv s l - -9223372036854775808 < 0 from by omega)), e]
      exact Ev.step (fun k => by rw [spec_IntegerOf.j0, if_pos rfl]; rfl) (Ev.now _)
    · have h1' : ¬ sgn (wv s l - -9223372036854775808) < 0 := fun e => h1 (by have := sgn_neg_iff.1 e; omega)
      simp only [if_neg h1']
      refine Ev.bind (l02Compare hw (cw_cn _) hl (len _ (by decide))) ?_
      rw [wv_cn]
      by_cases h2 : wv s l > 9223372036854775807
      · have e : fits64 (wv s l) = false := by simp [fits64]; omega
        simp only [decide_eq_true (sgn_pos_iff.2 (show wv s l - 9223372036854775807 > 0 from by omega)), e]
        exact Ev.step (fun k => by rw [spec_IntegerOf.j0, if_pos rfl]; rfl) (Ev.now _)
      · have h2' : ¬ sgn (wv s l - 9223372036854775807) > 0 := fun e => h2 (by have := sgn_pos_iff.1 e; omega)
        have e : fits64 (wv s l) = true := by simp [fits64]; omega
        simp only [decide_eq_false h2', e, if_true]
        exact integer_end hw hl e
theorem lawIntegerOf (s : Int) (l : List Int) (hl : l.length ≤ maxLen) : ∃ k, laws_FnExactIntegerOf.f k s l = some true := by
  refine Ev.rounds ?_
  unfold laws_FnExactIntegerOf.f
  simp only [szWhole s l 1048576 (by omega) (by omega) hl, Option.bind_some]
  by_cases h : (1048576 : Int) - l.length < 0
  · simp only [if_pos h]
    exact Ev.now true
  · simp only [if_neg h]
    have hn : l.length ≤ 1048576 := by omega
    refine Ev.bind (toWhole s l hn) ?_
    refine Ev.bind (specIntegerOf s l (by omega)) ?_
    refine Ev.bind (toWhole s l hn) ?_
    simp only [implIntegerOf s l (by omega), Option.bind_some, bne_self_eq_false, if_true]
    refine Ev.step (fun k => by rw [laws_FnExactIntegerOf.j0, if_neg (by simp)]) ?_
    refine Ev.bind (toWhole s l hn) ?_
    exact Ev.bind (f := fun _ t => if t = true then some true else some false) (eqWhole s l hn) (Ev.now _)
end Go.Proofs.Ytbmjakaoniegfaa.Pur
