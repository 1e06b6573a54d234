/- Words of doubles by their fields: sign, exponent field, fraction field; plain mathematics. -/
import Derived.Test.YtdjkcpmoigemdaaG0
import Derived.Laws.BitsAllLaws
namespace Go.Proofs.Ytdjkcpmoigemdaa.Fx
open Go Ieee Go.Proofs.Ytdjkcpmoigemdaa.Fl
set_option linter.unusedVariables false
set_option linter.unusedSimpArgs false
theorem isFin_iff (b : Nat) : isFin b = true ↔ b % 9223372036854775808 < 9218868437227405312 := by
 unfold isFin rd64 Format.read
 simp only [sw, ir, bn]
 by_cases h1 : b % 9223372036854775808 < 4503599627370496
 ·rw [if_pos h1]
  exact ⟨fun _ => by omega, fun _ => rfl⟩
 ·rw [if_neg h1]
  by_cases h2 : b % 9223372036854775808 < 9218868437227405312
  ·rw [if_pos h2]
   exact ⟨fun _ => h2, fun _ => rfl⟩
  ·rw [if_neg h2]
   by_cases h3 : b % 9223372036854775808 = 9218868437227405312
   ·rw [if_pos h3]
    constructor
    ·intro h; cases h
    ·intro h; exact absurd h h2
   ·rw [if_neg h3]
    constructor
    ·intro h; cases h
    ·intro h; exact absurd h h2
def sg (b : Nat) : Bool := b / 9223372036854775808 % 2 == 1
theorem read_sub {b : Nat} (h : b % 9223372036854775808 < 4503599627370496) : double.read b = .number (sg b) (b % 9223372036854775808) (-1074) := by
 unfold Format.read
 simp only [sw, bn, ir, lp]
 rw [if_pos h]
 rfl
theorem read_norm {b : Nat} (h : ¬ b % 9223372036854775808 < 4503599627370496) (hf : isFin b = true) : double.read b = .number (sg b) (4503599627370496 + b % 4503599627370496) (-1074 + ((b % 9223372036854775808 / 4503599627370496 - 1 : Nat) : Int)) := by
 have h2 := (isFin_iff b).1 hf
 unfold Format.read
 simp only [sw, bn, ir, lp]
 rw [if_neg h, if_pos h2]
 congr 2
 omega
theorem abs_read {b : Nat} : sg (Op.Complex.abs b) = false ∧ Op.Complex.abs b % 9223372036854775808 = b % 9223372036854775808 := by
 have e : Op.Complex.abs b = b % 9223372036854775808 := rfl
 rw [e]
 constructor
 ·unfold sg
  rw [show b % 9223372036854775808 / 9223372036854775808 % 2 = 0 from by omega]
  rfl
 ·omega
theorem U_abs {b : Nat} (h : isFin b = true) : isFin (Op.Complex.abs b) = true ∧ U (Op.Complex.abs b) = ((U b).natAbs : Int) := by
 obtain ⟨h1, h2⟩ := abs_read (b := b)
 have hf : isFin (Op.Complex.abs b) = true := by rw [isFin_iff, h2]; exact (isFin_iff b).1 h
 refine ⟨hf, ?_⟩
 have e4 : Op.Complex.abs b % 4503599627370496 = b % 4503599627370496 := by show b % 9223372036854775808 % 4503599627370496 = _; omega
 by_cases hs : b % 9223372036854775808 < 4503599627370496
 ·have r1 := read_sub (b := Op.Complex.abs b) (by rw [h2]; exact hs)
  have r2 := read_sub hs
  rw [h1, h2] at r1
  rw [U_of r1, U_of r2, signed_natAbs]
  unfold signed
  rw [Nat.shiftLeft_eq]
  rfl
 ·have r1 := read_norm (b := Op.Complex.abs b) (by rw [h2]; exact hs) hf
  have r2 := read_norm hs h
  rw [h1, h2, e4] at r1
  rw [U_of r1, U_of r2, signed_natAbs]
  unfold signed
  rw [Nat.shiftLeft_eq]
  rfl
theorem U_max {b : Nat} (h : isFin b = true) {E : Nat} (hE : E = 2045) : (U b).natAbs ≤ 9007199254740991 * 2 ^ E := by
 obtain ⟨s, m, p, h1, h2, h3, h4, h5, h6⟩ := U_bound h
 rw [h6, signed_natAbs]
 have e4 : (2 : Nat) ^ 53 = 9007199254740992 := by decide
 exact Nat.mul_le_mul (by omega) (Nat.pow_le_pow_right (by omega) (by omega))
theorem max_read : double.read 9218868437227405311 = .number false 9007199254740991 971 := by decide
theorem max_U {E : Nat} (hE : E = 2045) : U 9218868437227405311 = ((9007199254740991 * 2 ^ E : Nat) : Int) := by
 rw [U_of max_read, show ((971 : Int) + 1074).toNat = E from by rw [hE]; rfl]
 unfold signed
 rw [Nat.shiftLeft_eq]
 exact if_neg (by decide)
theorem compare_int_gt {a b : Int} (h : a ≤ b) : compare a b ≠ .gt := by
 show compareOfLessAndEq a b ≠ .gt
 unfold compareOfLessAndEq
 by_cases h1 : a < b
 ·rw [if_pos h1]; intro h; cases h
 ·rw [if_neg h1, if_pos (by omega)]; intro h; cases h
theorem compare_int_lt {a b : Int} : compare a b = .lt ↔ a < b := by
 show compareOfLessAndEq a b = .lt ↔ _
 unfold compareOfLessAndEq
 by_cases h1 : a < b
 ·rw [if_pos h1]; exact ⟨fun _ => h1, fun _ => rfl⟩
 ·rw [if_neg h1]
  refine ⟨fun h => ?_, fun h => absurd h h1⟩
  split at h <;> cases h
theorem compare_int_eq {a b : Int} : compare a b = .eq ↔ a = b := by
 show compareOfLessAndEq a b = .eq ↔ _
 unfold compareOfLessAndEq
 by_cases h1 : a < b
 ·rw [if_pos h1]
  exact ⟨fun h => (by cases h), fun h => by omega⟩
 ·rw [if_neg h1]
  by_cases h2 : a = b
  ·rw [if_pos h2]; exact ⟨fun _ => h2, fun _ => rfl⟩
  ·rw [if_neg h2]; exact ⟨fun h => (by cases h), fun h => absurd h h2⟩
theorem notInf {b : Nat} (h : isFin b = true) : (FloatKind.f64.format.order (Op.Complex.abs b) 9218868437227405311 == some .gt) = false := by
 obtain ⟨h1, h2⟩ := U_abs h
 have hm : isFin 9218868437227405311 = true := fin_of max_read
 obtain ⟨E, hE⟩ : ∃ E, E = 2045 := ⟨_, rfl⟩
 show (double.order _ _ == _) = false
 rw [order_U h1 hm, h2, max_U hE]
 have := compare_int_gt (Int.ofNat_le.2 (U_max h hE))
 cases hc : compare (((U b).natAbs : Nat) : Int) ((9007199254740991 * 2 ^ E : Nat) : Int) <;> first | rfl | exact absurd hc this
theorem isN_fin {b : Nat} (h : isFin b = true) : isN b = false := by
 unfold isFin at h
 unfold isN
 cases hx : rd64 b <;> first | rfl | (rw [hx] at h; cases h)
theorem zero_read : double.read 0 = .number false 0 (-1074) := by decide
theorem zero_U : U 0 = 0 := by rw [U_of zero_read]; unfold signed; rw [Nat.zero_shiftLeft]; rfl
theorem zero_fin : isFin 0 = true := fin_of zero_read
theorem eq_zero_iff {b : Nat} (h : isFin b = true) : (FloatKind.f64.format.order b 0 == some .eq) = decide (U b = 0) := by
 show (double.order b 0 == some .eq) = _
 rw [order_U h zero_fin, zero_U]
 by_cases hz : U b = 0
 ·rw [compare_int_eq.2 hz, decide_eq_true hz]; rfl
 ·rw [decide_eq_false hz]
  cases hc : compare (U b) 0
  ·rfl
  ·exact absurd (compare_int_eq.1 hc) hz
  ·rfl
theorem least_read : double.read 4503599627370496 = .number false 4503599627370496 (-1074) := by decide
theorem least_U : U 4503599627370496 = 4503599627370496 := by
 rw [U_of least_read]
 unfold signed
 rw [show ((-1074 : Int) + 1074).toNat = 0 from rfl, Nat.shiftLeft_zero]
 rfl
theorem least_fin : isFin 4503599627370496 = true := fin_of least_read
theorem U_sub {b : Nat} (hs : b % 9223372036854775808 < 4503599627370496) : (U b).natAbs = b % 9223372036854775808 := by
 rw [U_of (read_sub hs), signed_natAbs]
 rw [show ((-1074 : Int) + 1074).toNat = 0 from rfl, Nat.pow_zero, Nat.mul_one]
theorem U_norm {b : Nat} (hs : ¬ b % 9223372036854775808 < 4503599627370496) (hf : isFin b = true) : U b = signed (sg b) (4503599627370496 + b % 4503599627370496) (b % 9223372036854775808 / 4503599627370496 - 1) := by
 rw [U_of (read_norm hs hf)]
 congr 1
 omega
theorem below_least {b : Nat} (h : isFin b = true) : (FloatKind.f64.format.order (Op.Complex.abs b) 4503599627370496 == some .lt) = decide (b % 9223372036854775808 < 4503599627370496) := by
 obtain ⟨h1, h2⟩ := U_abs h
 show (double.order _ _ == _) = _
 rw [order_U h1 least_fin, h2, least_U]
 by_cases hs : b % 9223372036854775808 < 4503599627370496
 ·rw [decide_eq_true hs, compare_int_lt.2 (by rw [U_sub hs]; omega)]; rfl
 ·rw [decide_eq_false hs]
  have : ¬ (((U b).natAbs : Nat) : Int) < 4503599627370496 := by
   rw [U_norm hs h, signed_natAbs]
   have hp := Nat.two_pow_pos (b % 9223372036854775808 / 4503599627370496 - 1)
   have : 4503599627370496 * 1 ≤ (4503599627370496 + b % 4503599627370496) * 2 ^ (b % 9223372036854775808 / 4503599627370496 - 1) := Nat.mul_le_mul (by omega) hp
   omega
  cases hc : compare (((U b).natAbs : Nat) : Int) 4503599627370496
  ·exact absurd (compare_int_lt.1 hc) this
  ·rfl
  ·rfl
theorem field_bits {y : Nat} (h : y < 2 ^ 64) : bits .and .u64 ((y : Int) / 4503599627370496) 2047 = ((y % 9223372036854775808 / 4503599627370496 : Nat) : Int) := by
 rw [u64_and _ _ (by omega) (by omega) (by omega) (by omega)]
 have e : ((y : Int) / 4503599627370496).toNat = y / 4503599627370496 := by omega
 rw [e]
 congr 1
 show y / 4503599627370496 &&& (2 ^ 11 - 1) = _
 rw [Nat.and_two_pow_sub_one_eq_mod]
 omega
theorem clear_nat {y : Nat} (h : y < 2 ^ 64) : y &&& (2 ^ 63 + (2 ^ 52 - 1)) = y / 9223372036854775808 * 9223372036854775808 + y % 4503599627370496 := by
 have e1 : 2 ^ 63 + (2 ^ 52 - 1) = 2 ^ 63 ||| (2 ^ 52 - 1) := by decide
 rw [e1, Nat.and_or_distrib_left, Nat.and_two_pow_sub_one_eq_mod]
 have e2 : y &&& 2 ^ 63 = 2 ^ 63 * (y / 9223372036854775808) := by
  apply Nat.eq_of_testBit_eq
  intro i
  rw [Nat.testBit_and, Nat.testBit_two_pow]
  have hb : y.testBit 63 = decide (y / 9223372036854775808 % 2 = 1) := by rw [Nat.testBit_eq_decide_div_mod_eq]
  rcases (show y / 9223372036854775808 = 0 ∨ y / 9223372036854775808 = 1 from by omega) with g | g
  ·rw [g] at hb ⊢
   by_cases hi : 63 = i
   ·subst hi; rw [hb]; simp
   ·simp [hi]
  ·rw [g] at hb ⊢
   rw [Nat.mul_one, Nat.testBit_two_pow]
   by_cases hi : 63 = i
   ·subst hi; rw [hb]; simp
   ·simp [hi]
 rw [e2, ← Nat.two_pow_add_eq_or_of_lt (show y % 2 ^ 52 < 2 ^ 63 from by omega)]
 omega
theorem put_field {y : Nat} (h : y < 2 ^ 64) {c : Nat} (hc : c < 2048) : bits .or .u64 (bits .andNot .u64 (y : Int) 9218868437227405312) ((c * 4503599627370496 : Nat) : Int) = ((y / 9223372036854775808 * 9223372036854775808 + (c * 4503599627370496 + y % 4503599627370496) : Nat) : Int) := by
 rw [u64_andNot _ _ (by omega) (by omega) (by omega) (by omega)]
 rw [Int.toNat_natCast]
 have e : 18446744073709551615 - (9218868437227405312 : Int).toNat = 2 ^ 63 + (2 ^ 52 - 1) := by decide
 rw [e, clear_nat h]
 rw [u64_or _ _ (by omega) (by omega) (by omega) (by omega)]
 rw [Int.toNat_natCast, Int.toNat_natCast]
 congr 1
 have e1 : y / 9223372036854775808 * 9223372036854775808 + y % 4503599627370496 = 2 ^ 63 * (y / 9223372036854775808) ||| y % 4503599627370496 := by
  rw [← Nat.two_pow_add_eq_or_of_lt (show y % 4503599627370496 < 2 ^ 63 from by omega)]; omega
 have e2 : y % 4503599627370496 ||| c * 4503599627370496 = 2 ^ 52 * c + y % 4503599627370496 := by
  rw [Nat.or_comm, Nat.mul_comm c 4503599627370496, show (4503599627370496 : Nat) = 2 ^ 52 from by decide, ← Nat.two_pow_add_eq_or_of_lt (Nat.mod_lt _ (Nat.two_pow_pos 52))]
 rw [e1, Nat.or_assoc, e2, ← Nat.two_pow_add_eq_or_of_lt (show 2 ^ 52 * c + y % 4503599627370496 < 2 ^ 63 from by omega)]
 omega
end Go.Proofs.Ytdjkcpmoigemdaa.Fx
namespace Go.Proofs.Ytdjkcpmoigemdaa.Fx
open Go Ieee Go.Proofs.Ytdjkcpmoigemdaa.Fl
set_option linter.unusedVariables false
set_option linter.unusedSimpArgs false
def eo (X : Nat) : Nat := X.log2 - 52
def ko (X : Nat) : Nat := Toward.even.cut false X (eo X)
theorem cut_sign (s t : Bool) (n d : Nat) : Toward.even.cut s n d = Toward.even.cut t n d := rfl
theorem lastOf_unit (X : Nat) : lastOf X (-1074) = (eo X : Int) - 1074 := by
 unfold lastOf eo
 omega
def rungOf (X : Nat) : Nat := min (eo X * 4503599627370496 + ko X) 9218868437227405312
theorem nearest_unit (s : Bool) {X : Nat} (hX : X ≠ 0) : double.nearest s X (-1074) = double.word s (rungOf X) := by
 rw [nearest_def s hX, lastOf_unit]
 unfold rungOf ko
 rw [show ((eo X : Int) - 1074 + 1074).toNat = eo X from by omega, show ((-1074 : Int) - ((eo X : Int) - 1074)).toNat = 0 from by omega, show ((eo X : Int) - 1074 - -1074).toNat = eo X from by omega, Nat.shiftLeft_zero]
 rw [cut_sign s false]
theorem ko_spec {X : Nat} (hX : X ≠ 0) : ∃ c, c ≤ 1 ∧ ko X = X / 2 ^ eo X + c ∧ (X % 2 ^ eo X = 0 → c = 0) ∧ (eo X = 0 → c = 0) := by
 unfold ko Toward.cut
 simp only
 have h1 : min (eo X) (X.log2 + 2) = eo X := by unfold eo; omega
 rw [h1, Nat.one_shiftLeft]
 have hp := Nat.two_pow_pos (eo X)
 refine ⟨_, ?_, rfl, ?_, ?_⟩
 ·cases (decide (2 ^ eo X < 2 * (X % 2 ^ eo X)) || (2 ^ eo X == 2 * (X % 2 ^ eo X) && X / 2 ^ eo X % 2 == 1)) <;> decide
 ·intro h
  rw [h]
  generalize 2 ^ eo X = g at hp
  have e1 : decide (g < 2 * 0) = false := by simp
  have e2 : (g == 2 * 0) = false := by simp; omega
  rw [e1, e2]
  rfl
 ·intro h
  rw [h, Nat.pow_zero, Nat.mod_one]
  rfl
theorem eo_div {X : Nat} (hX : X ≠ 0) : X / 2 ^ eo X < 2 ^ 53 ∧ (0 < eo X → 2 ^ 52 ≤ X / 2 ^ eo X) := by
 have h1 := log2_le hX
 have h2 := log2_gt X
 have hp := Nat.two_pow_pos (eo X)
 constructor
 ·rw [Nat.div_lt_iff_lt_mul hp, ← Nat.pow_add]
  refine Nat.lt_of_lt_of_le h2 (Nat.pow_le_pow_right (by omega) ?_)
  unfold eo
  omega
 ·intro h
  rw [Nat.le_div_iff_mul_le hp, ← Nat.pow_add]
  have : 52 + eo X = X.log2 := by unfold eo at h ⊢; omega
  rw [this]
  exact h1
def vo (X : Nat) : Nat := ko X * 2 ^ eo X
theorem vo_ge {X m u : Nat} (hX : X ≠ 0) (hm : m < 2 ^ 53) (h : m * 2 ^ u ≤ X) : m * 2 ^ u ≤ vo X := by
 obtain ⟨c, hc, hk, h0, _⟩ := ko_spec hX
 obtain ⟨d1, d2⟩ := eo_div hX
 unfold vo
 have hp := Nat.two_pow_pos (eo X)
 by_cases hu : eo X ≤ u
 ·have e : m * 2 ^ u = m * 2 ^ (u - eo X) * 2 ^ eo X := by rw [Nat.mul_assoc, ← Nat.pow_add]; congr 2; omega
  rw [e] at h ⊢
  refine Nat.mul_le_mul_right _ ?_
  have := (Nat.le_div_iff_mul_le hp).2 h
  omega
 ·have d2 := d2 (by omega)
  have a1 : m * 2 ^ u ≤ 2 ^ 53 * 2 ^ u := Nat.mul_le_mul_right _ (Nat.le_of_lt hm)
  have a2 : 2 ^ 53 * 2 ^ u ≤ 2 ^ 52 * 2 ^ eo X := by
   rw [← Nat.pow_add, ← Nat.pow_add]
   exact Nat.pow_le_pow_right (by omega) (by omega)
  have a3 : 2 ^ 52 * 2 ^ eo X ≤ ko X * 2 ^ eo X := Nat.mul_le_mul_right _ (by omega)
  exact Nat.le_trans a1 (Nat.le_trans a2 a3)
theorem vo_le {X m u : Nat} (hX : X ≠ 0) (hm : m < 2 ^ 53) (h : X ≤ m * 2 ^ u) : vo X ≤ m * 2 ^ u := by
 obtain ⟨c, hc, hk, h0, _⟩ := ko_spec hX
 obtain ⟨d1, d2⟩ := eo_div hX
 unfold vo
 have hp := Nat.two_pow_pos (eo X)
 have hdm := Nat.div_add_mod X (2 ^ eo X)
 by_cases hu : eo X ≤ u
 ·have e : m * 2 ^ u = m * 2 ^ (u - eo X) * 2 ^ eo X := by rw [Nat.mul_assoc, ← Nat.pow_add]; congr 2; omega
  rw [e] at h ⊢
  refine Nat.mul_le_mul_right _ ?_
  generalize m * 2 ^ (u - eo X) = k at h ⊢
  rw [hk]
  generalize 2 ^ eo X = g at hp hdm h h0 ⊢
  by_cases hr : X % g = 0
  ·rw [h0 hr]
   have : X / g * g ≤ k * g := by rw [hr, Nat.add_zero, Nat.mul_comm] at hdm; omega
   have := Nat.le_of_mul_le_mul_right this hp
   omega
  ·have : X / g < k := by
    refine Nat.lt_of_not_le (fun hl => ?_)
    have := Nat.mul_le_mul_right g hl
    rw [Nat.mul_comm g] at hdm
    omega
   omega
 ·exfalso
  have d2 := d2 (by omega)
  have a1 : m * 2 ^ u < 2 ^ 53 * 2 ^ u := Nat.mul_lt_mul_of_pos_right hm (Nat.two_pow_pos u)
  have a2 : 2 ^ 53 * 2 ^ u ≤ 2 ^ 52 * 2 ^ eo X := by
   rw [← Nat.pow_add, ← Nat.pow_add]
   exact Nat.pow_le_pow_right (by omega) (by omega)
  have a3 := (Nat.le_div_iff_mul_le hp).1 d2
  omega
theorem ko_bound {X : Nat} (hX : X ≠ 0) : ko X ≤ 2 ^ 53 ∧ (0 < eo X → 2 ^ 52 ≤ ko X) := by
 obtain ⟨c, hc, hk, h0, _⟩ := ko_spec hX
 obtain ⟨d1, d2⟩ := eo_div hX
 refine ⟨by omega, fun h => ?_⟩
 have := d2 h
 omega
theorem nearest_fin (s : Bool) {X : Nat} (hX : X ≠ 0) :
  (isFin (double.nearest s X (-1074)) = true ∧ U (double.nearest s X (-1074)) = signed s (vo X) 0) ∨ double.read (double.nearest s X (-1074)) = .infinity s := by
 rw [nearest_unit s hX]
 obtain ⟨k1, k2⟩ := ko_bound hX
 have e53 : (2 : Nat) ^ 53 = 9007199254740992 := by decide
 have e52 : (2 : Nat) ^ 52 = 4503599627370496 := by decide
 rw [e53] at k1
 rw [e52] at k2
 have hv : vo X = ko X * 2 ^ eo X := rfl
 unfold rungOf
 generalize ko X = K at k1 k2 hv ⊢
 generalize eo X = e at k2 hv ⊢
 by_cases hr : e * 4503599627370496 + K < 9218868437227405312
 ·rw [Nat.min_eq_left (Nat.le_of_lt hr)]
  left
  by_cases h1 : K < 4503599627370496
  ·have e0 : e = 0 := by omega
   subst e0
   rw [Nat.zero_mul, Nat.zero_add]
   have := read_low s h1
   refine ⟨fin_of this, ?_⟩
   rw [U_of this, hv, Nat.pow_zero, Nat.mul_one]
   rfl
  ·by_cases h2 : K < 9007199254740992
   ·have := read_high s (e := e) (f := K - 4503599627370496) (by omega) (by omega)
    rw [show (e + 1) * 4503599627370496 + (K - 4503599627370496) = e * 4503599627370496 + K from by omega, show 4503599627370496 + (K - 4503599627370496) = K from by omega] at this
    refine ⟨fin_of this, ?_⟩
    rw [U_of this, hv, show (-1074 + (e : Int) + 1074).toNat = e from by omega, signed_shift, Nat.add_zero]
   ·have hK : K = 9007199254740992 := by omega
    have := read_high s (e := e + 1) (f := 0) (by omega) (by omega)
    rw [show (e + 1 + 1) * 4503599627370496 + 0 = e * 4503599627370496 + K from by omega] at this
    refine ⟨fin_of this, ?_⟩
    rw [U_of this, hv, hK, show (-1074 + ((e + 1 : Nat) : Int) + 1074).toNat = e + 1 from by omega, Nat.add_zero]
    have : signed s (9007199254740992 * 2 ^ e) 0 = signed s 9007199254740992 (e + 0) := signed_shift _ _ _ _
    rw [this, Nat.add_zero, show (9007199254740992 : Nat) = 4503599627370496 * 2 ^ 1 from by decide, signed_shift, Nat.add_comm]
    rfl
 ·rw [Nat.min_eq_right (by omega)]
  right
  obtain ⟨h1, h2⟩ := read_word s (r := 9218868437227405312) (by decide)
  unfold Format.read
  simp only [sw, bn, ir, lp]
  rw [h1, h2]
  cases s <;> rfl
theorem add_U {a b : Nat} (ha : isFin a = true) (hb : isFin b = true) : ∃ s, fb .add a b = some (double.nearest s (U a + U b).natAbs (-1074)) ∧ (U a + U b ≠ 0 → s = decide (U a + U b < 0)) := by
 obtain ⟨s, m, p, h1, h2, h3, h4, h5, h6⟩ := U_bound ha
 obtain ⟨t, n, q, g1, g2, g3, g4, g5, g6⟩ := U_bound hb
 have e1 : signed s m (p + 1074).toNat = signed s m (p - min p q).toNat * 2 ^ (min p q + 1074).toNat := by
  rw [show (p + 1074).toNat = (p - min p q).toNat + (min p q + 1074).toNat from by omega, signed_eq, signed_eq, Int.pow_add, Int.mul_assoc, Int.mul_assoc]
 have e2 : signed t n (q + 1074).toNat = signed t n (q - min p q).toNat * 2 ^ (min p q + 1074).toNat := by
  rw [show (q + 1074).toNat = (q - min p q).toNat + (min p q + 1074).toNat from by omega, signed_eq, signed_eq, Int.pow_add, Int.mul_assoc, Int.mul_assoc]
 have eb : fb .add a b = some (double.nearest (if signed s m (p - min p q).toNat + signed t n (q - min p q).toNat = 0 then s && t else decide (signed s m (p - min p q).toNat + signed t n (q - min p q).toNat < 0)) (signed s m (p - min p q).toNat + signed t n (q - min p q).toNat).natAbs (min p q)) := by
  show ((double.read a).sum (double.read b)).map double.write = _
  rw [h1, g1]
  rfl
 rw [h6, g6, e1, e2, ← Int.add_mul]
 rw [eb]
 generalize signed s m (p - min p q).toNat + signed t n (q - min p q).toNat = T
 have hk : min p q = -1074 + ((min p q + 1074).toNat : Int) := by omega
 have hK : (0 : Int) < 2 ^ (min p q + 1074).toNat := Int.pow_pos (by omega)
 have hn : (T * 2 ^ (min p q + 1074).toNat).natAbs = T.natAbs * 2 ^ (min p q + 1074).toNat := by
  rw [Int.natAbs_mul, Int.natAbs_pow]
  rfl
 rw [hn]
 have hs := fun z => nearest_shift z T.natAbs (min p q) (min p q + 1074).toNat
 have hp : min p q - ((min p q + 1074).toNat : Int) = -1074 := by omega
 rw [hp] at hs
 refine ⟨_, congrArg some (hs _).symm, fun h0 => ?_⟩
 generalize (2 : Int) ^ (min p q + 1074).toNat = K at hK h0 ⊢
 have hT : T ≠ 0 := by
  rintro rfl
  rw [Int.zero_mul] at h0
  exact h0 rfl
 rw [if_neg hT]
 by_cases hl : T < 0
 ·rw [decide_eq_true hl, decide_eq_true (Int.mul_neg_of_neg_of_pos hl hK)]
 ·have : 0 ≤ T * K := Int.mul_nonneg (by omega) (Int.le_of_lt hK)
  rw [decide_eq_false hl, decide_eq_false (by omega)]
end Go.Proofs.Ytdjkcpmoigemdaa.Fx
namespace Go.Proofs.Ytdjkcpmoigemdaa.Fx
open Go Ieee Go.Proofs.Ytdjkcpmoigemdaa.Fl
set_option linter.unusedVariables false
set_option linter.unusedSimpArgs false
theorem most_read : double.read 4845873199050653696 = .number false 4503599627370496 1 := by decide
theorem mneg_read : double.read 14069245235905429504 = .number true 4503599627370496 1 := by decide
theorem mneg_eq : Op.negFloat .f64 4845873199050653696 = 14069245235905429504 := by decide
def KK (E : Nat) : Nat := 4503599627370496 * 2 ^ E
theorem most_U {E : Nat} (hE : E = 1075) : U 4845873199050653696 = (KK E : Int) := by
 rw [U_of most_read, show ((1 : Int) + 1074).toNat = E from by rw [hE]; rfl]
 unfold signed KK
 rw [Nat.shiftLeft_eq]
 exact if_neg (by decide)
theorem mneg_U {E : Nat} (hE : E = 1075) : U 14069245235905429504 = -(KK E : Int) := by
 rw [U_of mneg_read, show ((1 : Int) + 1074).toNat = E from by rw [hE]; rfl]
 unfold signed KK
 rw [Nat.shiftLeft_eq]
 exact if_pos rfl
theorem cmp_cases (a b : Int) : (compare a b = .lt ∧ a < b) ∨ (compare a b = .eq ∧ a = b) ∨ (compare a b = .gt ∧ b < a) := by
 cases h : compare a b
 ·exact .inl ⟨rfl, compare_int_lt.1 h⟩
 ·exact .inr (.inl ⟨rfl, compare_int_eq.1 h⟩)
 ·refine .inr (.inr ⟨rfl, ?_⟩)
  have h1 : ¬ a < b := fun g => by rw [compare_int_lt.2 g] at h; cases h
  have h2 : ¬ a = b := fun g => by rw [compare_int_eq.2 g] at h; cases h
  omega
theorem cge {b : Nat} (hb : isFin b = true) {E : Nat} (hE : E = 1075) : (FloatKind.f64.format.order b 4845873199050653696 == some .gt || FloatKind.f64.format.order b 4845873199050653696 == some .eq) = decide ((KK E : Int) ≤ U b) := by
 show (double.order b 4845873199050653696 == some .gt || double.order b 4845873199050653696 == some .eq) = _
 rw [order_U hb (fin_of most_read), most_U hE]
 rcases cmp_cases (U b) (KK E : Int) with ⟨h, g⟩ | ⟨h, g⟩ | ⟨h, g⟩ <;> rw [h]
 ·rw [decide_eq_false (by omega)]; rfl
 ·rw [decide_eq_true (by omega)]; rfl
 ·rw [decide_eq_true (by omega)]; rfl
theorem cle {b : Nat} (hb : isFin b = true) {E : Nat} (hE : E = 1075) : (FloatKind.f64.format.order b 14069245235905429504 == some .lt || FloatKind.f64.format.order b 14069245235905429504 == some .eq) = decide (U b ≤ -(KK E : Int)) := by
 show (double.order b 14069245235905429504 == some .lt || double.order b 14069245235905429504 == some .eq) = _
 rw [order_U hb (fin_of mneg_read), mneg_U hE]
 rcases cmp_cases (U b) (-(KK E : Int)) with ⟨h, g⟩ | ⟨h, g⟩ | ⟨h, g⟩ <;> rw [h]
 ·rw [decide_eq_true (by omega)]; rfl
 ·rw [decide_eq_true (by omega)]; rfl
 ·rw [decide_eq_false (by omega)]; rfl
theorem cut_zero_div (s : Bool) (n d : Nat) : Toward.zero.cut s n d = n / 2 ^ d := by
 unfold Toward.cut
 simp only [Nat.shiftLeft_eq, Nat.one_mul, Bool.toNat_false, Nat.add_zero]
 by_cases h : d ≤ n.log2 + 2
 ·rw [Nat.min_eq_left h]
 ·rw [Nat.min_eq_right (by omega)]
  have h1 := log2_gt n
  rw [Nat.div_eq_of_lt (Nat.lt_of_lt_of_le h1 (Nat.pow_le_pow_right (by omega) (by omega))), Nat.div_eq_of_lt (Nat.lt_of_lt_of_le h1 (Nat.pow_le_pow_right (by omega) (by omega)))]
theorem signed0 (s : Bool) (m : Nat) : signed s m 0 = if s then -(m : Int) else (m : Int) := by
 unfold signed
 rw [Nat.shiftLeft_zero]
theorem foi_U {T : Int} (h : T.natAbs < 9007199254740992) {G : Nat} (hG : G = 1074) : isFin (floatOfInt .f64 T) = true ∧ U (floatOfInt .f64 T) = T * 2 ^ G := by
 have e53 : (2 : Nat) ^ 53 = 9007199254740992 := by decide
 have hu := U_nearest (decide (T < 0)) (m := T.natAbs) (p := 0) (by omega) (by omega) (fun hm => by have := log2_53 hm (by omega); omega)
 refine ⟨hu.1, ?_⟩
 show U (double.nearest (decide (T < 0)) T.natAbs 0) = _
 rw [hu.2, signed_eq, show ((0 : Int) + 1074).toNat = G from by rw [hG]; rfl]
 generalize (2 : Int) ^ G = q
 by_cases hT : T < 0
 ·rw [decide_eq_true hT, if_pos rfl, show ((T.natAbs : Nat) : Int) = -T from by omega, ← Int.mul_assoc]
  congr 1
  omega
 ·rw [decide_eq_false hT, if_neg (by decide), show ((T.natAbs : Nat) : Int) = T from by omega, Int.one_mul]
theorem trunc_spec {c : Nat} (hf : isFin c = true) {E G : Nat} (hE : E = 1075) (hG : G = 1074) (hc : (U c).natAbs < KK E) : ∃ T : Int, floatToIntVal .f64 c .i64 = some T ∧ T.natAbs < 9007199254740992 ∧
  (((FloatKind.f64.format.order (floatOfInt .f64 T) c != some .eq) = false ∧ U c = T * 2 ^ G) ∨ ((FloatKind.f64.format.order (floatOfInt .f64 T) c != some .eq) = true ∧ (¬ (2 : Int) ^ G ∣ U c) ∧ (U (c)).natAbs * 2 < KK E)) := by
 obtain ⟨s, m, p, h1, h2, h3, h4, h5, h6⟩ := U_bound hf
 have e53 : (2 : Nat) ^ 53 = 9007199254740992 := by decide
 have hKK : KK E = 9007199254740992 * 2 ^ G := by
  unfold KK
  rw [show E = G + 1 from by omega, Nat.pow_succ]
  generalize 2 ^ G = q
  omega
 have hi : ∀ n : Nat, (Datum.number s m p).integral .zero = .number s n 0 → n < 9007199254740992 → floatToIntVal .f64 c .i64 = some (signed s n 0) := by
  intro n hn hlt
  unfold floatToIntVal
  show (match (double.read c).toInt .zero with | some n => if IntKind.i64.min ≤ n ∧ n ≤ IntKind.i64.max then some n else none | none => none) = _
  rw [h1]
  unfold Datum.toInt
  rw [hn]
  have hr : IntKind.i64.min ≤ signed s n 0 ∧ signed s n 0 ≤ IntKind.i64.max := by
   have g1 : IntKind.i64.min = -9223372036854775808 := by decide
   have g2 : IntKind.i64.max = 9223372036854775807 := by decide
   rw [g1, g2, signed0]
   cases s <;> simp <;> omega
  simp only
  rw [if_pos hr]
 have hab : ∀ n : Nat, (signed s n 0).natAbs = n := fun n => by rw [signed_natAbs, Nat.pow_zero, Nat.mul_one]
 rw [h6, signed_natAbs, hKK] at hc
 by_cases hp : 0 ≤ p
 ·have hd : m * 2 ^ p.toNat < 9007199254740992 := by
   rw [show (p + 1074).toNat = p.toNat + G from by omega, Nat.pow_add, ← Nat.mul_assoc] at hc
   exact Nat.lt_of_mul_lt_mul_right hc
  have hint : (Datum.number s m p).integral .zero = .number s (m * 2 ^ p.toNat) 0 := by
   show Datum.number s (Toward.zero.cut s (m <<< p.toNat) (-p).toNat) 0 = _
   rw [cut_zero_div, show (-p).toNat = 0 from by omega, Nat.pow_zero, Nat.div_one, Nat.shiftLeft_eq]
  refine ⟨signed s (m * 2 ^ p.toNat) 0, hi _ hint hd, by rw [hab]; exact hd, .inl ?_⟩
  have hUc : U c = signed s (m * 2 ^ p.toNat) 0 * 2 ^ G := by
   rw [h6, signed_eq, signed_eq, show (p + 1074).toNat = p.toNat + G from by omega, Int.pow_add, Int.pow_zero, Int.mul_one, Int.mul_assoc]
   push_cast
   rw [Int.mul_assoc]
  refine ⟨?_, hUc⟩
  obtain ⟨g1, g2⟩ := foi_U (T := signed s (m * 2 ^ p.toNat) 0) (by rw [hab]; exact hd) hG
  show (double.order _ c != some .eq) = false
  rw [order_U g1 hf, g2, ← hUc, compare_int_eq.2 rfl]
  rfl
 ·obtain ⟨d, hd⟩ : ∃ d : Nat, d = (-p).toNat := ⟨_, rfl⟩
  have hmd : m / 2 ^ d < 9007199254740992 := Nat.lt_of_le_of_lt (Nat.div_le_self _ _) (by omega)
  have hint : (Datum.number s m p).integral .zero = .number s (m / 2 ^ d) 0 := by
   show Datum.number s (Toward.zero.cut s (m <<< p.toNat) (-p).toNat) 0 = _
   rw [cut_zero_div, ← hd, show p.toNat = 0 from by omega, Nat.shiftLeft_zero]
  refine ⟨signed s (m / 2 ^ d) 0, hi _ hint hmd, by rw [hab]; exact hmd, ?_⟩
  obtain ⟨g1, g2⟩ := foi_U (T := signed s (m / 2 ^ d) 0) (by rw [hab]; exact hmd) hG
  have hG2 : G = d + (p + 1074).toNat := by omega
  by_cases hdv : m % 2 ^ d = 0
  ·left
   have hm : m = m / 2 ^ d * 2 ^ d := by have := Nat.div_add_mod m (2 ^ d); rw [hdv, Nat.add_zero, Nat.mul_comm] at this; exact this.symm
   have hUc : U c = signed s (m / 2 ^ d) 0 * 2 ^ G := by
    rw [h6]
    rw (config := { occs := .pos [1] }) [hm]
    rw [signed_shift, signed_eq, signed_eq, hG2, Int.pow_zero, Int.mul_one, Int.mul_assoc]
   refine ⟨?_, hUc⟩
   show (double.order _ c != some .eq) = false
   rw [order_U g1 hf, g2, ← hUc, compare_int_eq.2 rfl]
   rfl
  ·right
   have hnd : ¬ (2 : Int) ^ G ∣ U c := by
    intro hdiv
    have h7 : ((2 ^ G : Nat) : Int) ∣ U c := by rw [pow_cast]; exact hdiv
    have h8 : 2 ^ G ∣ (U c).natAbs := by have := Int.natAbs_dvd_natAbs.2 h7; rwa [Int.natAbs_natCast] at this
    rw [h6, signed_natAbs, hG2, Nat.pow_add] at h8
    exact hdv (Nat.mod_eq_zero_of_dvd (Nat.dvd_of_mul_dvd_mul_right (Nat.two_pow_pos _) h8))
   refine ⟨?_, hnd, ?_⟩
   ·show (double.order _ c != some .eq) = true
    rw [order_U g1 hf, g2]
    have hne : ¬ signed s (m / 2 ^ d) 0 * 2 ^ G = U c := fun e => hnd ⟨_, by rw [← e, Int.mul_comm]⟩
    rcases cmp_cases (signed s (m / 2 ^ d) 0 * 2 ^ G) (U c) with ⟨h, g⟩ | ⟨h, g⟩ | ⟨h, g⟩
    ·rw [h]; rfl
    ·exact absurd g hne
    ·rw [h]; rfl
   ·rw [h6, signed_natAbs, hKK, Nat.mul_assoc, ← Nat.pow_succ]
    have h7 : m * 2 ^ ((p + 1074).toNat + 1) ≤ m * 2 ^ G := Nat.mul_le_mul_left _ (Nat.pow_le_pow_right (by omega) (by omega))
    exact Nat.lt_of_le_of_lt h7 (Nat.mul_lt_mul_of_pos_right (by omega) (Nat.two_pow_pos _))
end Go.Proofs.Ytdjkcpmoigemdaa.Fx
