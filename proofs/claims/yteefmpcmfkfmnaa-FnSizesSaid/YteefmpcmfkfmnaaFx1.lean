/- Words of doubles by their fields: sign, exponent field, fraction field; plain mathematics. -/
import Derived.Test.YteefmpcmfkfmnaaFx0
import Derived.Laws.BitsAllLaws
namespace Go.Proofs.Yteefmpcmfkfmnaa.Fx
open Go Ieee Go.Proofs.Yteefmpcmfkfmnaa.Fl
set_option linter.unusedVariables false
set_option linter.unusedSimpArgs false

theorem isFin_iff (b : Nat) : isFin b = true ↔ b % 9223372036854775808 < 9218868437227405312 := by
  unfold isFin rd64 Format.read
  simp only [sw, ir, bn]
  by_cases h1 : b % 9223372036854775808 < 4503599627370496
  · rw [if_pos h1]
    exact ⟨fun _ => by omega, fun _ => rfl⟩
  · rw [if_neg h1]
    by_cases h2 : b % 9223372036854775808 < 9218868437227405312
    · rw [if_pos h2]
      exact ⟨fun _ => h2, fun _ => rfl⟩
    · rw [if_neg h2]
      by_cases h3 : b % 9223372036854775808 = 9218868437227405312
      · rw [if_pos h3]
        constructor
        · intro h; cases h
        · intro h; exact absurd h h2
      · rw [if_neg h3]
        constructor
        · intro h; cases h
        · intro h; exact absurd h h2
/-- The sign of a word. -/
def sg (b : Nat) : Bool := b / 9223372036854775808 % 2 == 1
theorem read_sub {b : Nat} (h : b % 9223372036854775808 < 4503599627370496) : double.read b = .number (sg b) (b % 9223372036854775808) (-1074) := by
  unfold Format.read
  simp only [sw, bn, ir, lp]
  rw [if_pos h]
  rfl
theorem read_norm {b : Nat} (h : ¬ b % 9223372036854775808 < 4503599627370496) (hf : isFin b = true) : double.read b = .number (sg b) (4503599627370496 + b % 4503599627370496) (-1074 + ((b % 9223372036854775808 / 4503599627370496 - 1 : Nat) : Int)) := by
  have h2 := (isFin_iff b).1 hf
  unfold Format.read
  simp only [sw, bn, ir, lp]
  rw [if_neg h, if_pos h2]
  congr 2
  omega
theorem abs_read {b : Nat} : sg (Op.Complex.abs b) = false ∧ Op.Complex.abs b % 9223372036854775808 = b % 9223372036854775808 := by
  have e : Op.Complex.abs b = b % 9223372036854775808 := rfl
  rw [e]
  constructor
  · unfold sg
    rw [show b % 9223372036854775808 / 9223372036854775808 % 2 = 0 from by omega]
    rfl
  · omega
theorem U_abs {b : Nat} (h : isFin b = true) : isFin (Op.Complex.abs b) = true ∧ U (Op.Complex.abs b) = ((U b).natAbs : Int) := by
  obtain ⟨h1, h2⟩ := abs_read (b := b)
  have hf : isFin (Op.Complex.abs b) = true := by rw [isFin_iff, h2]; exact (isFin_iff b).1 h
  refine ⟨hf, ?_⟩
  have e4 : Op.Complex.abs b % 4503599627370496 = b % 4503599627370496 := by show b % 9223372036854775808 % 4503599627370496 = _; omega
  by_cases hs : b % 9223372036854775808 < 4503599627370496
  · have r1 := read_sub (b := Op.Complex.abs b) (by rw [h2]; exact hs)
    have r2 := read_sub hs
    rw [h1, h2] at r1
    rw [U_of r1, U_of r2, signed_natAbs]
    unfold signed
    rw [Nat.shiftLeft_eq]
    rfl
  · have r1 := read_norm (b := Op.Complex.abs b) (by rw [h2]; exact hs) hf
    have r2 := read_norm hs h
    rw [h1, h2, e4] at r1
    rw [U_of r1, U_of r2, signed_natAbs]
    unfold signed
    rw [Nat.shiftLeft_eq]
    rfl
theorem U_max {b : Nat} (h : isFin b = true) {E : Nat} (hE : E = 2045) : (U b).natAbs ≤ 9007199254740991 * 2 ^ E := by
  obtain ⟨s, m, p, h1, h2, h3, h4, h5, h6⟩ := U_bound h
  rw [h6, signed_natAbs]
  have e4 : (2 : Nat) ^ 53 = 9007199254740992 := by decide
  exact Nat.mul_le_mul (by omega) (Nat.pow_le_pow_right (by omega) (by omega))
theorem max_read : double.read 9218868437227405311 = .number false 9007199254740991 971 := by decide
theorem max_U {E : Nat} (hE : E = 2045) : U 9218868437227405311 = ((9007199254740991 * 2 ^ E : Nat) : Int) := by
  rw [U_of max_read, show ((971 : Int) + 1074).toNat = E from by rw [hE]; rfl]
  unfold signed
  rw [Nat.shiftLeft_eq]
  exact if_neg (by decide)
theorem compare_int_gt {a b : Int} (h : a ≤ b) : compare a b ≠ .gt := by
  show compareOfLessAndEq a b ≠ .gt
  unfold compareOfLessAndEq
  by_cases h1 : a < b
  · rw [if_pos h1]; intro h; cases h
  · rw [if_neg h1, if_pos (by omega)]; intro h; cases h
theorem compare_int_lt {a b : Int} : compare a b = .lt ↔ a < b := by
  show compareOfLessAndEq a b = .lt ↔ _
  unfold compareOfLessAndEq
  by_cases h1 : a < b
  · rw [if_pos h1]; exact ⟨fun _ => h1, fun _ => rfl⟩
  · rw [if_neg h1]
    refine ⟨fun h => ?_, fun h => absurd h h1⟩
    split at h <;> cases h
theorem compare_int_eq {a b : Int} : compare a b = .eq ↔ a = b := by
  show compareOfLessAndEq a b = .eq ↔ _
  unfold compareOfLessAndEq
  by_cases h1 : a < b
  · rw [if_pos h1]
    exact ⟨fun h => (by cases h), fun h => by omega⟩
  · rw [if_neg h1]
    by_cases h2 : a = b
    · rw [if_pos h2]; exact ⟨fun _ => h2, fun _ => rfl⟩
    · rw [if_neg h2]; exact ⟨fun h => (by cases h), fun h => absurd h h2⟩
theorem notInf {b : Nat} (h : isFin b = true) : (FloatKind.f64.format.order (Op.Complex.abs b) 9218868437227405311 == some .gt) = false := by
  obtain ⟨h1, h2⟩ := U_abs h
  have hm : isFin 9218868437227405311 = true := fin_of max_read
  obtain ⟨E, hE⟩ : ∃ E, E = 2045 := ⟨_, rfl⟩
  show (double.order _ _ == _) = false
  rw [order_U h1 hm, h2, max_U hE]
  have := compare_int_gt (Int.ofNat_le.2 (U_max h hE))
  cases hc : compare (((U b).natAbs : Nat) : Int) ((9007199254740991 * 2 ^ E : Nat) : Int) <;> first | rfl | exact absurd hc this
theorem isN_fin {b : Nat} (h : isFin b = true) : isN b = false := by
  unfold isFin at h
  unfold isN
  cases hx : rd64 b <;> first | rfl | (rw [hx] at h; cases h)
theorem zero_read : double.read 0 = .number false 0 (-1074) := by decide
theorem zero_U : U 0 = 0 := by rw [U_of zero_read]; unfold signed; rw [Nat.zero_shiftLeft]; rfl
theorem zero_fin : isFin 0 = true := fin_of zero_read
theorem eq_zero_iff {b : Nat} (h : isFin b = true) : (FloatKind.f64.format.order b 0 == some .eq) = decide (U b = 0) := by
  show (double.order b 0 == some .eq) = _
  rw [order_U h zero_fin, zero_U]
  by_cases hz : U b = 0
  · rw [compare_int_eq.2 hz, decide_eq_true hz]; rfl
  · rw [decide_eq_false hz]
    cases hc : compare (U b) 0
    · rfl
    · exact absurd (compare_int_eq.1 hc) hz
    · rfl
theorem least_read : double.read 4503599627370496 = .number false 4503599627370496 (-1074) := by decide
theorem least_U : U 4503599627370496 = 4503599627370496 := by
  rw [U_of least_read]
  unfold signed
  rw [show ((-1074 : Int) + 1074).toNat = 0 from rfl, Nat.shiftLeft_zero]
  rfl
theorem least_fin : isFin 4503599627370496 = true := fin_of least_read
theorem U_sub {b : Nat} (hs : b % 9223372036854775808 < 4503599627370496) : (U b).natAbs = b % 9223372036854775808 := by
  rw [U_of (read_sub hs), signed_natAbs]
  rw [show ((-1074 : Int) + 1074).toNat = 0 from rfl, Nat.pow_zero, Nat.mul_one]
theorem U_norm {b : Nat} (hs : ¬ b % 9223372036854775808 < 4503599627370496) (hf : isFin b = true) : U b = signed (sg b) (4503599627370496 + b % 4503599627370496) (b % 9223372036854775808 / 4503599627370496 - 1) := by
  rw [U_of (read_norm hs hf)]
  congr 1
  omega
theorem below_least {b : Nat} (h : isFin b = true) : (FloatKind.f64.format.order (Op.Complex.abs b) 4503599627370496 == some .lt) = decide (b % 9223372036854775808 < 4503599627370496) := by
  obtain ⟨h1, h2⟩ := U_abs h
  show (double.order _ _ == _) = _
  rw [order_U h1 least_fin, h2, least_U]
  by_cases hs : b % 9223372036854775808 < 4503599627370496
  · rw [decide_eq_true hs, compare_int_lt.2 (by rw [U_sub hs]; omega)]; rfl
  · rw [decide_eq_false hs]
    have : ¬ (((U b).natAbs : Nat) : Int) < 4503599627370496 := by
      rw [U_norm hs h, signed_natAbs]
      have hp := Nat.two_pow_pos (b % 9223372036854775808 / 4503599627370496 - 1)
      have : 4503599627370496 * 1 ≤ (4503599627370496 + b % 4503599627370496) * 2 ^ (b % 9223372036854775808 / 4503599627370496 - 1) := Nat.mul_le_mul (by omega) hp
      omega
    cases hc : compare (((U b).natAbs : Nat) : Int) 4503599627370496
    · exact absurd (compare_int_lt.1 hc) this
    · rfl
    · rfl
/-- The exponent field. -/
theorem field_bits {y : Nat} (h : y < 2 ^ 64) : bits .and .u64 ((y : Int) / 4503599627370496) 2047 = ((y % 9223372036854775808 / 4503599627370496 : Nat) : Int) := by
  rw [u64_and _ _ (by omega) (by omega) (by omega) (by omega)]
  have e : ((y : Int) / 4503599627370496).toNat = y / 4503599627370496 := by omega
  rw [e]
  congr 1
  show y / 4503599627370496 &&& (2 ^ 11 - 1) = _
  rw [Nat.and_two_pow_sub_one_eq_mod]
  omega
theorem clear_nat {y : Nat} (h : y < 2 ^ 64) : y &&& (2 ^ 63 + (2 ^ 52 - 1)) = y / 9223372036854775808 * 9223372036854775808 + y % 4503599627370496 := by
  have e1 : 2 ^ 63 + (2 ^ 52 - 1) = 2 ^ 63 ||| (2 ^ 52 - 1) := by decide
  rw [e1, Nat.and_or_distrib_left, Nat.and_two_pow_sub_one_eq_mod]
  have e2 : y &&& 2 ^ 63 = 2 ^ 63 * (y / 9223372036854775808) := by
    apply Nat.eq_of_testBit_eq
    intro i
    rw [Nat.testBit_and, Nat.testBit_two_pow]
    have hb : y.testBit 63 = decide (y / 9223372036854775808 % 2 = 1) := by rw [Nat.testBit_eq_decide_div_mod_eq]
    rcases (show y / 9223372036854775808 = 0 ∨ y / 9223372036854775808 = 1 from by omega) with g | g
    · rw [g] at hb ⊢
      by_cases hi : 63 = i
      · subst hi; rw [hb]; simp
      · simp [hi]
    · rw [g] at hb ⊢
      rw [Nat.mul_one, Nat.testBit_two_pow]
      by_cases hi : 63 = i
      · subst hi; rw [hb]; simp
      · simp [hi]
  rw [e2, ← Nat.two_pow_add_eq_or_of_lt (show y % 2 ^ 52 < 2 ^ 63 from by omega)]
  omega
/-- The exponent field replaced. -/
theorem put_field {y : Nat} (h : y < 2 ^ 64) {c : Nat} (hc : c < 2048) : bits .or .u64 (bits .andNot .u64 (y : Int) 9218868437227405312) ((c * 4503599627370496 : Nat) : Int) = ((y / 9223372036854775808 * 9223372036854775808 + (c * 4503599627370496 + y % 4503599627370496) : Nat) : Int) := by
  rw [u64_andNot _ _ (by omega) (by omega) (by omega) (by omega)]
  rw [Int.toNat_natCast]
  have e : 18446744073709551615 - (9218868437227405312 : Int).toNat = 2 ^ 63 + (2 ^ 52 - 1) := by decide
  rw [e, clear_nat h]
  rw [u64_or _ _ (by omega) (by omega) (by omega) (by omega)]
  rw [Int.toNat_natCast, Int.toNat_natCast]
  congr 1
  have e1 : y / 9223372036854775808 * 9223372036854775808 + y % 4503599627370496 = 2 ^ 63 * (y / 9223372036854775808) ||| y % 4503599627370496 := by
    rw [← Nat.two_pow_add_eq_or_of_lt (show y % 4503599627370496 < 2 ^ 63 from by omega)]; omega
  have e2 : y % 4503599627370496 ||| c * 4503599627370496 = 2 ^ 52 * c + y % 4503599627370496 := by
    rw [Nat.or_comm, Nat.mul_comm c 4503599627370496, show (4503599627370496 : Nat) = 2 ^ 52 from by decide, ← Nat.two_pow_add_eq_or_of_lt (Nat.mod_lt _ (Nat.two_pow_pos 52))]
  rw [e1, Nat.or_assoc, e2, ← Nat.two_pow_add_eq_or_of_lt (show 2 ^ 52 * c + y % 4503599627370496 < 2 ^ 63 from by omega)]
  omega
end Go.Proofs.Yteefmpcmfkfmnaa.Fx
