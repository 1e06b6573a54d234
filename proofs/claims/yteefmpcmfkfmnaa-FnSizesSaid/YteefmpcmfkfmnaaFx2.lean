/- Floats cut to whole numbers, and the bound 2 ^ 53; plain mathematics. -/
import Derived.Test.YteefmpcmfkfmnaaFx1
namespace Go.Proofs.Yteefmpcmfkfmnaa.Fx
open Go Ieee Go.Proofs.Yteefmpcmfkfmnaa.Fl
set_option linter.unusedVariables false
set_option linter.unusedSimpArgs false

/-- 2 ^ 53 as a float, and its opposite. -/
theorem most_read : double.read 4845873199050653696 = .number false 4503599627370496 1 := by decide
theorem mneg_read : double.read 14069245235905429504 = .number true 4503599627370496 1 := by decide
theorem mneg_eq : Op.negFloat .f64 4845873199050653696 = 14069245235905429504 := by decide
def KK (E : Nat) : Nat := 4503599627370496 * 2 ^ E
theorem most_U {E : Nat} (hE : E = 1075) : U 4845873199050653696 = (KK E : Int) := by
  rw [U_of most_read, show ((1 : Int) + 1074).toNat = E from by rw [hE]; rfl]
  unfold signed KK
  rw [Nat.shiftLeft_eq]
  exact if_neg (by decide)
theorem mneg_U {E : Nat} (hE : E = 1075) : U 14069245235905429504 = -(KK E : Int) := by
  rw [U_of mneg_read, show ((1 : Int) + 1074).toNat = E from by rw [hE]; rfl]
  unfold signed KK
  rw [Nat.shiftLeft_eq]
  exact if_pos rfl
theorem cmp_cases (a b : Int) : (compare a b = .lt ∧ a < b) ∨ (compare a b = .eq ∧ a = b) ∨ (compare a b = .gt ∧ b < a) := by
  cases h : compare a b
  · exact .inl ⟨rfl, compare_int_lt.1 h⟩
  · exact .inr (.inl ⟨rfl, compare_int_eq.1 h⟩)
  · refine .inr (.inr ⟨rfl, ?_⟩)
    have h1 : ¬ a < b := fun g => by rw [compare_int_lt.2 g] at h; cases h
    have h2 : ¬ a = b := fun g => by rw [compare_int_eq.2 g] at h; cases h
    omega
theorem cge {b : Nat} (hb : isFin b = true) {E : Nat} (hE : E = 1075) : (FloatKind.f64.format.order b 4845873199050653696 == some .gt || FloatKind.f64.format.order b 4845873199050653696 == some .eq) = decide ((KK E : Int) ≤ U b) := by
  show (double.order b 4845873199050653696 == some .gt || double.order b 4845873199050653696 == some .eq) = _
  rw [order_U hb (fin_of most_read), most_U hE]
  rcases cmp_cases (U b) (KK E : Int) with ⟨h, g⟩ | ⟨h, g⟩ | ⟨h, g⟩ <;> rw [h]
  · rw [decide_eq_false (by omega)]; rfl
  · rw [decide_eq_true (by omega)]; rfl
  · rw [decide_eq_true (by omega)]; rfl
theorem cle {b : Nat} (hb : isFin b = true) {E : Nat} (hE : E = 1075) : (FloatKind.f64.format.order b 14069245235905429504 == some .lt || FloatKind.f64.format.order b 14069245235905429504 == some .eq) = decide (U b ≤ -(KK E : Int)) := by
  show (double.order b 14069245235905429504 == some .lt || double.order b 14069245235905429504 == some .eq) = _
  rw [order_U hb (fin_of mneg_read), mneg_U hE]
  rcases cmp_cases (U b) (-(KK E : Int)) with ⟨h, g⟩ | ⟨h, g⟩ | ⟨h, g⟩ <;> rw [h]
  · rw [decide_eq_true (by omega)]; rfl
  · rw [decide_eq_true (by omega)]; rfl
  · rw [decide_eq_false (by omega)]; rfl
theorem cut_zero_div (s : Bool) (n d : Nat) : Toward.zero.cut s n d = n / 2 ^ d := by
  unfold Toward.cut
  simp only [Nat.shiftLeft_eq, Nat.one_mul, Bool.toNat_false, Nat.add_zero]
  by_cases h : d ≤ n.log2 + 2
  · rw [Nat.min_eq_left h]
  · rw [Nat.min_eq_right (by omega)]
    have h1 := log2_gt n
    rw [Nat.div_eq_of_lt (Nat.lt_of_lt_of_le h1 (Nat.pow_le_pow_right (by omega) (by omega))), Nat.div_eq_of_lt (Nat.lt_of_lt_of_le h1 (Nat.pow_le_pow_right (by omega) (by omega)))]
theorem signed0 (s : Bool) (m : Nat) : signed s m 0 = if s then -(m : Int) else (m : Int) := by
  unfold signed
  rw [Nat.shiftLeft_zero]
theorem foi_U {T : Int} (h : T.natAbs < 9007199254740992) {G : Nat} (hG : G = 1074) : isFin (floatOfInt .f64 T) = true ∧ U (floatOfInt .f64 T) = T * 2 ^ G := by
  have e53 : (2 : Nat) ^ 53 = 9007199254740992 := by decide
  have hu := U_nearest (decide (T < 0)) (m := T.natAbs) (p := 0) (by omega) (by omega) (fun hm => by have := log2_53 hm (by omega); omega)
  refine ⟨hu.1, ?_⟩
  show U (double.nearest (decide (T < 0)) T.natAbs 0) = _
  rw [hu.2, signed_eq, show ((0 : Int) + 1074).toNat = G from by rw [hG]; rfl]
  generalize (2 : Int) ^ G = q
  by_cases hT : T < 0
  · rw [decide_eq_true hT, if_pos rfl, show ((T.natAbs : Nat) : Int) = -T from by omega, ← Int.mul_assoc]
    congr 1
    omega
  · rw [decide_eq_false hT, if_neg (by decide), show ((T.natAbs : Nat) : Int) = T from by omega, Int.one_mul]
/-- What cutting a number below 2 ^ 53 tells. -/
theorem trunc_spec {c : Nat} (hf : isFin c = true) {E G : Nat} (hE : E = 1075) (hG : G = 1074) (hc : (U c).natAbs < KK E) : ∃ T : Int, floatToIntVal .f64 c .i64 = some T ∧ T.natAbs < 9007199254740992 ∧
    (((FloatKind.f64.format.order (floatOfInt .f64 T) c != some .eq) = false ∧ U c = T * 2 ^ G) ∨ ((FloatKind.f64.format.order (floatOfInt .f64 T) c != some .eq) = true ∧ (¬ (2 : Int) ^ G ∣ U c) ∧ (U (c)).natAbs * 2 < KK E)) := by
  obtain ⟨s, m, p, h1, h2, h3, h4, h5, h6⟩ := U_bound hf
  have e53 : (2 : Nat) ^ 53 = 9007199254740992 := by decide
  have hKK : KK E = 9007199254740992 * 2 ^ G := by
    unfold KK
    rw [show E = G + 1 from by omega, Nat.pow_succ]
    generalize 2 ^ G = q
    omega
  have hi : ∀ n : Nat, (Datum.number s m p).integral .zero = .number s n 0 → n < 9007199254740992 → floatToIntVal .f64 c .i64 = some (signed s n 0) := by
    intro n hn hlt
    unfold floatToIntVal
    show (match (double.read c).toInt .zero with | some n => if IntKind.i64.min ≤ n ∧ n ≤ IntKind.i64.max then some n else none | none => none) = _
    rw [h1]
    unfold Datum.toInt
    rw [hn]
    have hr : IntKind.i64.min ≤ signed s n 0 ∧ signed s n 0 ≤ IntKind.i64.max := by
      have g1 : IntKind.i64.min = -9223372036854775808 := by decide
      have g2 : IntKind.i64.max = 9223372036854775807 := by decide
      rw [g1, g2, signed0]
      cases s <;> simp <;> omega
    simp only
    rw [if_pos hr]
  have hab : ∀ n : Nat, (signed s n 0).natAbs = n := fun n => by rw [signed_natAbs, Nat.pow_zero, Nat.mul_one]
  rw [h6, signed_natAbs, hKK] at hc
  by_cases hp : 0 ≤ p
  · have hd : m * 2 ^ p.toNat < 9007199254740992 := by
      rw [show (p + 1074).toNat = p.toNat + G from by omega, Nat.pow_add, ← Nat.mul_assoc] at hc
      exact Nat.lt_of_mul_lt_mul_right hc
    have hint : (Datum.number s m p).integral .zero = .number s (m * 2 ^ p.toNat) 0 := by
      show Datum.number s (Toward.zero.cut s (m <<< p.toNat) (-p).toNat) 0 = _
      rw [cut_zero_div, show (-p).toNat = 0 from by omega, Nat.pow_zero, Nat.div_one, Nat.shiftLeft_eq]
    refine ⟨signed s (m * 2 ^ p.toNat) 0, hi _ hint hd, by rw [hab]; exact hd, .inl ?_⟩
    have hUc : U c = signed s (m * 2 ^ p.toNat) 0 * 2 ^ G := by
      rw [h6, signed_eq, signed_eq, show (p + 1074).toNat = p.toNat + G from by omega, Int.pow_add, Int.pow_zero, Int.mul_one, Int.mul_assoc]
      push_cast
      rw [Int.mul_assoc]
    refine ⟨?_, hUc⟩
    obtain ⟨g1, g2⟩ := foi_U (T := signed s (m * 2 ^ p.toNat) 0) (by rw [hab]; exact hd) hG
    show (double.order _ c != some .eq) = false
    rw [order_U g1 hf, g2, ← hUc, compare_int_eq.2 rfl]
    rfl
  · obtain ⟨d, hd⟩ : ∃ d : Nat, d = (-p).toNat := ⟨_, rfl⟩
    have hmd : m / 2 ^ d < 9007199254740992 := Nat.lt_of_le_of_lt (Nat.div_le_self _ _) (by omega)
    have hint : (Datum.number s m p).integral .zero = .number s (m / 2 ^ d) 0 := by
      show Datum.number s (Toward.zero.cut s (m <<< p.toNat) (-p).toNat) 0 = _
      rw [cut_zero_div, ← hd, show p.toNat = 0 from by omega, Nat.shiftLeft_zero]
    refine ⟨signed s (m / 2 ^ d) 0, hi _ hint hmd, by rw [hab]; exact hmd, ?_⟩
    obtain ⟨g1, g2⟩ := foi_U (T := signed s (m / 2 ^ d) 0) (by rw [hab]; exact hmd) hG
    have hG2 : G = d + (p + 1074).toNat := by omega
    by_cases hdv : m % 2 ^ d = 0
    · left
      have hm : m = m / 2 ^ d * 2 ^ d := by have := Nat.div_add_mod m (2 ^ d); rw [hdv, Nat.add_zero, Nat.mul_comm] at this; exact this.symm
      have hUc : U c = signed s (m / 2 ^ d) 0 * 2 ^ G := by
        rw [h6]
        rw (config := { occs := .pos [1] }) [hm]
        rw [signed_shift, signed_eq, signed_eq, hG2, Int.pow_zero, Int.mul_one, Int.mul_assoc]
      refine ⟨?_, hUc⟩
      show (double.order _ c != some .eq) = false
      rw [order_U g1 hf, g2, ← hUc, compare_int_eq.2 rfl]
      rfl
    · right
      have hnd : ¬ (2 : Int) ^ G ∣ U c := by
        intro hdiv
        have h7 : ((2 ^ G : Nat) : Int) ∣ U c := by rw [pow_cast]; exact hdiv
        have h8 : 2 ^ G ∣ (U c).natAbs := by have := Int.natAbs_dvd_natAbs.2 h7; rwa [Int.natAbs_natCast] at this
        rw [h6, signed_natAbs, hG2, Nat.pow_add] at h8
        exact hdv (Nat.mod_eq_zero_of_dvd (Nat.dvd_of_mul_dvd_mul_right (Nat.two_pow_pos _) h8))
      refine ⟨?_, hnd, ?_⟩
      · show (double.order _ c != some .eq) = true
        rw [order_U g1 hf, g2]
        have hne : ¬ signed s (m / 2 ^ d) 0 * 2 ^ G = U c := fun e => hnd ⟨_, by rw [← e, Int.mul_comm]⟩
        rcases cmp_cases (signed s (m / 2 ^ d) 0 * 2 ^ G) (U c) with ⟨h, g⟩ | ⟨h, g⟩ | ⟨h, g⟩
        · rw [h]; rfl
        · exact absurd g hne
        · rw [h]; rfl
      · rw [h6, signed_natAbs, hKK, Nat.mul_assoc, ← Nat.pow_succ]
        have h7 : m * 2 ^ ((p + 1074).toNat + 1) ≤ m * 2 ^ G := Nat.mul_le_mul_left _ (Nat.pow_le_pow_right (by omega) (by omega))
        exact Nat.lt_of_le_of_lt h7 (Nat.mul_lt_mul_of_pos_right (by omega) (Nat.two_pow_pos _))
end Go.Proofs.Yteefmpcmfkfmnaa.Fx
