/- Rounding to the nearest double keeps order with every number of the format; sums by their values. Plain facts; no conditions beyond those of each theorem. -/
import Derived.Test.YteefmpcmfkfmnaaFx1
namespace Go.Proofs.Yteefmpcmfkfmnaa.Fx
open Go Ieee Go.Proofs.Yteefmpcmfkfmnaa.Fl
set_option linter.unusedVariables false
set_option linter.unusedSimpArgs false

/-- How many last digits of a number of units are dropped. -/
def eo (X : Nat) : Nat := X.log2 - 52
/-- What is kept. -/
def ko (X : Nat) : Nat := Toward.even.cut false X (eo X)
theorem cut_sign (s t : Bool) (n d : Nat) : Toward.even.cut s n d = Toward.even.cut t n d := rfl
theorem lastOf_unit (X : Nat) : lastOf X (-1074) = (eo X : Int) - 1074 := by
  unfold lastOf eo
  omega
/-- The rung of a number of units. -/
def rungOf (X : Nat) : Nat := min (eo X * 4503599627370496 + ko X) 9218868437227405312
theorem nearest_unit (s : Bool) {X : Nat} (hX : X ≠ 0) : double.nearest s X (-1074) = double.word s (rungOf X) := by
  rw [nearest_def s hX, lastOf_unit]
  unfold rungOf ko
  rw [show ((eo X : Int) - 1074 + 1074).toNat = eo X from by omega, show ((-1074 : Int) - ((eo X : Int) - 1074)).toNat = 0 from by omega, show ((eo X : Int) - 1074 - -1074).toNat = eo X from by omega, Nat.shiftLeft_zero]
  rw [cut_sign s false]
theorem ko_spec {X : Nat} (hX : X ≠ 0) : ∃ c, c ≤ 1 ∧ ko X = X / 2 ^ eo X + c ∧ (X % 2 ^ eo X = 0 → c = 0) ∧ (eo X = 0 → c = 0) := by
  unfold ko Toward.cut
  simp only
  have h1 : min (eo X) (X.log2 + 2) = eo X := by unfold eo; omega
  rw [h1, Nat.one_shiftLeft]
  have hp := Nat.two_pow_pos (eo X)
  refine ⟨_, ?_, rfl, ?_, ?_⟩
  · cases (decide (2 ^ eo X < 2 * (X % 2 ^ eo X)) || (2 ^ eo X == 2 * (X % 2 ^ eo X) && X / 2 ^ eo X % 2 == 1)) <;> decide
  · intro h
    rw [h]
    generalize 2 ^ eo X = g at hp
    have e1 : decide (g < 2 * 0) = false := by simp
    have e2 : (g == 2 * 0) = false := by simp; omega
    rw [e1, e2]
    rfl
  · intro h
    rw [h, Nat.pow_zero, Nat.mod_one]
    rfl
theorem eo_div {X : Nat} (hX : X ≠ 0) : X / 2 ^ eo X < 2 ^ 53 ∧ (0 < eo X → 2 ^ 52 ≤ X / 2 ^ eo X) := by
  have h1 := log2_le hX
  have h2 := log2_gt X
  have hp := Nat.two_pow_pos (eo X)
  constructor
  · rw [Nat.div_lt_iff_lt_mul hp, ← Nat.pow_add]
    refine Nat.lt_of_lt_of_le h2 (Nat.pow_le_pow_right (by omega) ?_)
    unfold eo
    omega
  · intro h
    rw [Nat.le_div_iff_mul_le hp, ← Nat.pow_add]
    have : 52 + eo X = X.log2 := by unfold eo at h ⊢; omega
    rw [this]
    exact h1
/-- The rounded number of units. -/
def vo (X : Nat) : Nat := ko X * 2 ^ eo X
/-- What is in the format and not greater is not greater than what is rounded. -/
theorem vo_ge {X m u : Nat} (hX : X ≠ 0) (hm : m < 2 ^ 53) (h : m * 2 ^ u ≤ X) : m * 2 ^ u ≤ vo X := by
  obtain ⟨c, hc, hk, h0, _⟩ := ko_spec hX
  obtain ⟨d1, d2⟩ := eo_div hX
  unfold vo
  have hp := Nat.two_pow_pos (eo X)
  by_cases hu : eo X ≤ u
  · have e : m * 2 ^ u = m * 2 ^ (u - eo X) * 2 ^ eo X := by rw [Nat.mul_assoc, ← Nat.pow_add]; congr 2; omega
    rw [e] at h ⊢
    refine Nat.mul_le_mul_right _ ?_
    have := (Nat.le_div_iff_mul_le hp).2 h
    omega
  · have d2 := d2 (by omega)
    have a1 : m * 2 ^ u ≤ 2 ^ 53 * 2 ^ u := Nat.mul_le_mul_right _ (Nat.le_of_lt hm)
    have a2 : 2 ^ 53 * 2 ^ u ≤ 2 ^ 52 * 2 ^ eo X := by
      rw [← Nat.pow_add, ← Nat.pow_add]
      exact Nat.pow_le_pow_right (by omega) (by omega)
    have a3 : 2 ^ 52 * 2 ^ eo X ≤ ko X * 2 ^ eo X := Nat.mul_le_mul_right _ (by omega)
    exact Nat.le_trans a1 (Nat.le_trans a2 a3)
theorem vo_le {X m u : Nat} (hX : X ≠ 0) (hm : m < 2 ^ 53) (h : X ≤ m * 2 ^ u) : vo X ≤ m * 2 ^ u := by
  obtain ⟨c, hc, hk, h0, _⟩ := ko_spec hX
  obtain ⟨d1, d2⟩ := eo_div hX
  unfold vo
  have hp := Nat.two_pow_pos (eo X)
  have hdm := Nat.div_add_mod X (2 ^ eo X)
  by_cases hu : eo X ≤ u
  · have e : m * 2 ^ u = m * 2 ^ (u - eo X) * 2 ^ eo X := by rw [Nat.mul_assoc, ← Nat.pow_add]; congr 2; omega
    rw [e] at h ⊢
    refine Nat.mul_le_mul_right _ ?_
    generalize m * 2 ^ (u - eo X) = k at h ⊢
    rw [hk]
    generalize 2 ^ eo X = g at hp hdm h h0 ⊢
    by_cases hr : X % g = 0
    · rw [h0 hr]
      have : X / g * g ≤ k * g := by rw [hr, Nat.add_zero, Nat.mul_comm] at hdm; omega
      have := Nat.le_of_mul_le_mul_right this hp
      omega
    · have : X / g < k := by
        refine Nat.lt_of_not_le (fun hl => ?_)
        have := Nat.mul_le_mul_right g hl
        rw [Nat.mul_comm g] at hdm
        omega
      omega
  · exfalso
    have d2 := d2 (by omega)
    have a1 : m * 2 ^ u < 2 ^ 53 * 2 ^ u := Nat.mul_lt_mul_of_pos_right hm (Nat.two_pow_pos u)
    have a2 : 2 ^ 53 * 2 ^ u ≤ 2 ^ 52 * 2 ^ eo X := by
      rw [← Nat.pow_add, ← Nat.pow_add]
      exact Nat.pow_le_pow_right (by omega) (by omega)
    have a3 := (Nat.le_div_iff_mul_le hp).1 d2
    omega
theorem ko_bound {X : Nat} (hX : X ≠ 0) : ko X ≤ 2 ^ 53 ∧ (0 < eo X → 2 ^ 52 ≤ ko X) := by
  obtain ⟨c, hc, hk, h0, _⟩ := ko_spec hX
  obtain ⟨d1, d2⟩ := eo_div hX
  refine ⟨by omega, fun h => ?_⟩
  have := d2 h
  omega
/-- A rounded number that is finite is the rounded number of units; else it is infinite. -/
theorem nearest_fin (s : Bool) {X : Nat} (hX : X ≠ 0) :
    (isFin (double.nearest s X (-1074)) = true ∧ U (double.nearest s X (-1074)) = signed s (vo X) 0) ∨ double.read (double.nearest s X (-1074)) = .infinity s := by
  rw [nearest_unit s hX]
  obtain ⟨k1, k2⟩ := ko_bound hX
  have e53 : (2 : Nat) ^ 53 = 9007199254740992 := by decide
  have e52 : (2 : Nat) ^ 52 = 4503599627370496 := by decide
  rw [e53] at k1
  rw [e52] at k2
  have hv : vo X = ko X * 2 ^ eo X := rfl
  unfold rungOf
  generalize ko X = K at k1 k2 hv ⊢
  generalize eo X = e at k2 hv ⊢
  by_cases hr : e * 4503599627370496 + K < 9218868437227405312
  · rw [Nat.min_eq_left (Nat.le_of_lt hr)]
    left
    by_cases h1 : K < 4503599627370496
    · have e0 : e = 0 := by omega
      subst e0
      rw [Nat.zero_mul, Nat.zero_add]
      have := read_low s h1
      refine ⟨fin_of this, ?_⟩
      rw [U_of this, hv, Nat.pow_zero, Nat.mul_one]
      rfl
    · by_cases h2 : K < 9007199254740992
      · have := read_high s (e := e) (f := K - 4503599627370496) (by omega) (by omega)
        rw [show (e + 1) * 4503599627370496 + (K - 4503599627370496) = e * 4503599627370496 + K from by omega, show 4503599627370496 + (K - 4503599627370496) = K from by omega] at this
        refine ⟨fin_of this, ?_⟩
        rw [U_of this, hv, show (-1074 + (e : Int) + 1074).toNat = e from by omega, signed_shift, Nat.add_zero]
      · have hK : K = 9007199254740992 := by omega
        have := read_high s (e := e + 1) (f := 0) (by omega) (by omega)
        rw [show (e + 1 + 1) * 4503599627370496 + 0 = e * 4503599627370496 + K from by omega] at this
        refine ⟨fin_of this, ?_⟩
        rw [U_of this, hv, hK, show (-1074 + ((e + 1 : Nat) : Int) + 1074).toNat = e + 1 from by omega, Nat.add_zero]
        have : signed s (9007199254740992 * 2 ^ e) 0 = signed s 9007199254740992 (e + 0) := signed_shift _ _ _ _
        rw [this, Nat.add_zero, show (9007199254740992 : Nat) = 4503599627370496 * 2 ^ 1 from by decide, signed_shift, Nat.add_comm]
        rfl
  · rw [Nat.min_eq_right (by omega)]
    right
    obtain ⟨h1, h2⟩ := read_word s (r := 9218868437227405312) (by decide)
    unfold Format.read
    simp only [sw, bn, ir, lp]
    rw [h1, h2]
    cases s <;> rfl
/-- A sum of finite numbers is the rounded sum of their values. -/
theorem add_U {a b : Nat} (ha : isFin a = true) (hb : isFin b = true) : ∃ s, fb .add a b = some (double.nearest s (U a + U b).natAbs (-1074)) ∧ (U a + U b ≠ 0 → s = decide (U a + U b < 0)) := by
  obtain ⟨s, m, p, h1, h2, h3, h4, h5, h6⟩ := U_bound ha
  obtain ⟨t, n, q, g1, g2, g3, g4, g5, g6⟩ := U_bound hb
  have e1 : signed s m (p + 1074).toNat = signed s m (p - min p q).toNat * 2 ^ (min p q + 1074).toNat := by
    rw [show (p + 1074).toNat = (p - min p q).toNat + (min p q + 1074).toNat from by omega, signed_eq, signed_eq, Int.pow_add, Int.mul_assoc, Int.mul_assoc]
  have e2 : signed t n (q + 1074).toNat = signed t n (q - min p q).toNat * 2 ^ (min p q + 1074).toNat := by
    rw [show (q + 1074).toNat = (q - min p q).toNat + (min p q + 1074).toNat from by omega, signed_eq, signed_eq, Int.pow_add, Int.mul_assoc, Int.mul_assoc]
  have eb : fb .add a b = some (double.nearest (if signed s m (p - min p q).toNat + signed t n (q - min p q).toNat = 0 then s && t else decide (signed s m (p - min p q).toNat + signed t n (q - min p q).toNat < 0)) (signed s m (p - min p q).toNat + signed t n (q - min p q).toNat).natAbs (min p q)) := by
    show ((double.read a).sum (double.read b)).map double.write = _
    rw [h1, g1]
    rfl
  rw [h6, g6, e1, e2, ← Int.add_mul]
  rw [eb]
  generalize signed s m (p - min p q).toNat + signed t n (q - min p q).toNat = T
  have hk : min p q = -1074 + ((min p q + 1074).toNat : Int) := by omega
  have hK : (0 : Int) < 2 ^ (min p q + 1074).toNat := Int.pow_pos (by omega)
  have hn : (T * 2 ^ (min p q + 1074).toNat).natAbs = T.natAbs * 2 ^ (min p q + 1074).toNat := by
    rw [Int.natAbs_mul, Int.natAbs_pow]
    rfl
  rw [hn]
  have hs := fun z => nearest_shift z T.natAbs (min p q) (min p q + 1074).toNat
  have hp : min p q - ((min p q + 1074).toNat : Int) = -1074 := by omega
  rw [hp] at hs
  refine ⟨_, congrArg some (hs _).symm, fun h0 => ?_⟩
  generalize (2 : Int) ^ (min p q + 1074).toNat = K at hK h0 ⊢
  have hT : T ≠ 0 := by
    rintro rfl
    rw [Int.zero_mul] at h0
    exact h0 rfl
  rw [if_neg hT]
  by_cases hl : T < 0
  · rw [decide_eq_true hl, decide_eq_true (Int.mul_neg_of_neg_of_pos hl hK)]
  · have : 0 ≤ T * K := Int.mul_nonneg (by omega) (Int.le_of_lt hK)
    rw [decide_eq_false hl, decide_eq_false (by omega)]
end Go.Proofs.Yteefmpcmfkfmnaa.Fx
