/- Equal floats are the same to the laws' own test; walks of laws.float5, laws.same5 and laws.big. -/
import Derived.Test.YteefmpcmfkfmnaaFl1
namespace Go.Proofs.Yteefmpcmfkfmnaa
open Go Go.Proofs.Yteefmpcmfkfmnaa.Fl Ieee
set_option linter.unusedVariables false
set_option linter.unusedSimpArgs false
attribute [local go_sem] run_add run_sub run_mul run_quo run_cadd run_csub

theorem cmpI (x y : Int) : compare x y = .eq ↔ x = y := by
  show compareOfLessAndEq x y = .eq ↔ _
  unfold compareOfLessAndEq
  split
  · constructor
    · intro h; cases h
    · intro h; omega
  · split
    · simp_all
    · constructor
      · intro h; cases h
      · intro h; omega
theorem order_self {a : Nat} (h : isN a = false) : FloatKind.f64.format.order a a = some .eq := by
  show (double.read a).order (double.read a) = some .eq
  unfold isN at h
  cases ha : double.read a with
  | nan s t => rw [show rd64 a = _ from ha] at h; cases h
  | infinity s => cases s <;> rfl
  | number s m p =>
    show some (compare _ _) = _
    rw [(cmpI _ _).2 rfl]
theorem order_nan {a : Nat} (h : isN a = true) (b : Nat) : FloatKind.f64.format.order a b = none := by
  show (double.read a).order (double.read b) = none
  obtain ⟨s, t, hh⟩ := nan_cases h
  rw [show double.read a = _ from hh]; cases double.read b <;> rfl
theorem one_over {a : Nat} (h : FloatKind.f64.format.order a 0 = some .eq) : ∃ r, fb .quo 4607182418800017408 a = some r ∧ isN r = false := by
  have z : double.read 0 = .number false 0 double.leastPlace := by decide
  have u : double.read 4607182418800017408 = .number false 4503599627370496 (-52) := by decide
  have h' : (double.read a).order (double.read 0) = some .eq := h
  rw [z] at h'
  cases ha : double.read a with
  | nan s t => rw [ha] at h'; cases h'
  | infinity s => rw [ha] at h'; cases s <;> cases h'
  | number s m p =>
    rw [ha] at h'
    have hm : m = 0 := by
      simp only [Datum.order, Option.some.injEq] at h'
      have := (cmpI _ _).1 h'
      generalize (p - min p double.leastPlace).toNat = k at this
      generalize (double.leastPlace - min p double.leastPlace).toNat = k' at this
      have hs : m <<< k = 0 := by
        unfold signed at this
        generalize m <<< k = q at this
        rw [Nat.zero_shiftLeft] at this
        cases s <;> simp at this <;> omega
      rw [Nat.shiftLeft_eq] at hs
      have hp := Nat.two_pow_pos k
      rcases Nat.mul_eq_zero.1 hs with h | h
      · exact h
      · omega
    subst hm
    refine ⟨double.write (.infinity (false ^^ s)), ?_, write_isN rfl⟩
    show ((double.read 4607182418800017408).quotient (double.fractionBits + 2) (double.read a)).map double.write = _
    rw [u, ha]
    simp [Datum.quotient]
theorem fr_of {op : BinOp} {x y r : Nat} (h : fb op x y = some r) (w : World) : fr op x y w = r := by unfold fr; rw [h]; rfl
theorem fn_of {op : BinOp} {x y r : Nat} (h : fb op x y = some r) : fn op x y = 0 := by unfold fn; rw [h]; rfl
set_option maxRecDepth 100000 in
theorem float5_self (a : Nat) (w : World) : Calls Try.prog 10 #[.float .f64 a, .float .f64 a] w fun e w' => e = .returned (.bool true) ∧ ∃ n, w' = w.drewN n := by
  cases hn : isN a
  · have he := order_self hn
    by_cases hz : FloatKind.f64.format.order a 0 = some .eq
    · obtain ⟨r, hr, hnr⟩ := one_over hz
      have ho := order_self hnr
      have hf := fr_of hr
      go_enter Try.func10, Try.ntmps10
      go_wp2
      go_ret
      exact ⟨rfl, _, rfl⟩
    · have hz2 : (FloatKind.f64.format.order a 0 == some .eq) = false := by simpa using hz
      have hz3 : (FloatKind.f64.format.order a 0 != some .eq) = true := by simpa using hz
      clear hz
      go_enter Try.func10, Try.ntmps10
      go_wp2
      go_ret
      exact ⟨rfl, 0, rfl⟩
  · have he := order_nan hn a
    go_enter Try.func10, Try.ntmps10
    go_wp2
    go_ret
    exact ⟨rfl, 0, rfl⟩
set_option maxRecDepth 100000 in
theorem same5_self (a b : Nat) (w : World) : Calls Try.prog 17 #[.complex .f64 a b, .complex .f64 a b] w fun e w' => e = .returned (.bool true) ∧ ∃ n, w' = w.drewN n := by
  go_enter Try.func17, Try.ntmps17
  go_wp2_with fail
  refine (float5_self a w).mono ?_
  rintro e w1 ⟨rfl, n, rfl⟩
  go_wp2_with fail
  refine (float5_self b _).mono ?_
  rintro e w1 ⟨rfl, m, rfl⟩
  go_wp2
  go_ret
  exact ⟨rfl, _, rfl⟩
end Go.Proofs.Yteefmpcmfkfmnaa
