/- Plain laws of wide numbers: sums and products commute, a difference is the sum with the opposite, a number divided by itself has the real part 1. -/
import Derived.Test.YtdohdokdeiedmaaFl3
namespace Go.Proofs.Ytdohdokdeiedmaa
open Go Go.Proofs.Ytdohdokdeiedmaa.Fl Ieee
set_option linter.unusedVariables false
set_option linter.unusedSimpArgs false

theorem sum_comm (d e : Datum) : d.sum e = e.sum d := by
  cases d with
  | nan s t => cases e <;> rfl
  | infinity s =>
    cases e with
    | nan => rfl
    | infinity t => cases s <;> cases t <;> rfl
    | number => rfl
  | number s m i =>
    cases e with
    | nan => rfl
    | infinity t => rfl
    | number t n j =>
      simp only [Datum.sum, Option.some.injEq, Datum.number.injEq]
      rw [Int.min_comm i j, Int.add_comm (signed s m _)]
      refine ⟨?_, rfl, rfl⟩
      rw [Bool.and_comm]
theorem product_comm (d e : Datum) : d.product e = e.product d := by
  cases d with
  | nan s t => cases e <;> rfl
  | infinity s =>
    cases e with
    | nan => rfl
    | infinity t => cases s <;> cases t <;> rfl
    | number => rfl
  | number s m i =>
    cases e with
    | nan => rfl
    | infinity t => rfl
    | number t n j =>
      simp only [Datum.product, Option.some.injEq, Datum.number.injEq]
      exact ⟨Bool.xor_comm _ _, Nat.mul_comm _ _, Int.add_comm _ _⟩
theorem fb_add_comm (x y : Nat) : fb .add x y = fb .add y x := congrArg (Option.map double.write) (sum_comm _ _)
theorem fb_mul_comm (x y : Nat) : fb .mul x y = fb .mul y x := congrArg (Option.map double.write) (product_comm _ _)
theorem fop_add_comm (x y : Option Nat) : fop .add x y = fop .add y x := by
  cases x <;> cases y <;> simp [fop, fb_add_comm]
theorem fop_mul_comm (x y : Option Nat) : fop .mul x y = fop .mul y x := by
  cases x <;> cases y <;> simp [fop, fb_mul_comm]
theorem addO_comm (a b c d : Nat) : addO a b c d = addO c d a b := by
  unfold addO
  rw [fop_add_comm (can a), fop_add_comm (can b)]
theorem mulO_comm (a b c d : Nat) : mulO a b c d = mulO c d a b := by
  unfold mulO
  rw [fop_mul_comm (can a) (can c), fop_mul_comm (can b) (can d), fop_mul_comm (can a) (can d), fop_mul_comm (can b) (can c), fop_add_comm]
theorem wide2_comm {f : Nat → Nat → Nat → Nat → Option Nat × Option Nat} (hf : ∀ a b c d, f a b c d = f c d a b) (a b c d : Nat) : wide2 f a b c d = wide2 f c d a b := by
  unfold wide2
  rw [hf]
  cases isFin a && isFin b <;> cases isFin c && isFin d <;> rfl
theorem xor_low {y : Nat} (h : y < 2 ^ 63) : y ^^^ 2 ^ 63 = 2 ^ 63 + y := by
  apply Nat.eq_of_testBit_eq
  intro i
  rw [Nat.testBit_xor, Nat.testBit_two_pow]
  rcases Nat.lt_trichotomy i 63 with g | g | g
  · rw [Nat.testBit_two_pow_add_gt g]
    simp [show ¬ 63 = i from by omega]
  · subst g
    rw [Nat.testBit_two_pow_add_eq]
    simp
  · have h1 : y.testBit i = false := Nat.testBit_lt_two_pow (Nat.lt_of_lt_of_le h (Nat.pow_le_pow_right (by omega) (by omega)))
    have h2 : (2 ^ 63 + y).testBit i = false := Nat.testBit_lt_two_pow (Nat.lt_of_lt_of_le (show 2 ^ 63 + y < 2 ^ 64 from by omega) (Nat.pow_le_pow_right (by omega) (by omega)))
    rw [h1, h2]
    simp [show ¬ 63 = i from by omega]
theorem neg_eq {y : Nat} (h : y < 2 ^ 64) : Op.negFloat .f64 y = if y < 2 ^ 63 then 2 ^ 63 + y else y - 2 ^ 63 := by
  show y ^^^ 2 ^ 63 = _
  split
  · rename_i g; exact xor_low g
  · obtain ⟨z, rfl⟩ : ∃ z, y = 2 ^ 63 + z := ⟨y - 2 ^ 63, by omega⟩
    rw [← xor_low (show z < 2 ^ 63 from by omega), Nat.xor_assoc, Nat.xor_self, Nat.xor_zero, xor_low (show z < 2 ^ 63 from by omega)]
    omega
theorem read_neg {y : Nat} (h : y < 2 ^ 64) : double.read (Op.negFloat .f64 y) = (double.read y).opposite := by
  have e1 : Op.negFloat .f64 y % 9223372036854775808 = y % 9223372036854775808 := by
    rw [neg_eq h]; split <;> omega
  have e2 : (Op.negFloat .f64 y / 9223372036854775808 % 2 == 1) = !(y / 9223372036854775808 % 2 == 1) := by
    rw [neg_eq h]
    split
    · rw [show (2 ^ 63 + y) / 9223372036854775808 % 2 = 1 from by omega, show y / 9223372036854775808 % 2 = 0 from by omega]; rfl
    · rw [show (y - 2 ^ 63) / 9223372036854775808 % 2 = 0 from by omega, show y / 9223372036854775808 % 2 = 1 from by omega]; rfl
  unfold Format.read
  simp only [sw, e1, e2]
  split
  · rfl
  · split
    · rfl
    · split
      · rfl
      · rfl
theorem isN_neg {y : Nat} (h : y < 2 ^ 64) : isN (Op.negFloat .f64 y) = isN y := by
  unfold isN
  rw [show rd64 (Op.negFloat .f64 y) = _ from read_neg h]
  show _ = (double.read y).isNaN
  cases double.read y <;> rfl
theorem isFin_neg {y : Nat} (h : y < 2 ^ 64) : isFin (Op.negFloat .f64 y) = isFin y := by
  unfold isFin
  rw [show rd64 (Op.negFloat .f64 y) = _ from read_neg h, show rd64 y = double.read y from rfl]
  cases double.read y <;> rfl
theorem fop_neg (x : Option Nat) {y : Nat} (h : y < 2 ^ 64) : fop .add x (can (Op.negFloat .f64 y)) = fop .sub x (can y) := by
  unfold fop can
  rw [isN_neg h]
  cases x with
  | none => rfl
  | some a =>
    cases isN y
    · show fb .add a _ = fb .sub a y
      show ((double.read a).sum (double.read (Op.negFloat .f64 y))).map double.write = ((double.read a).sum (double.read y).opposite).map double.write
      rw [read_neg h]
    · rfl
theorem sub_neg (a b : Nat) {c d : Nat} (hc : c < 2 ^ 64) (hd : d < 2 ^ 64) : wide2 addO a b (Op.negFloat .f64 c) (Op.negFloat .f64 d) = wide2 subO a b c d := by
  unfold wide2 addO subO
  rw [isFin_neg hc, isFin_neg hd, fop_neg _ hc, fop_neg _ hd]
theorem quo_self {o : Option Nat} {r : Nat} (h : fop .quo o o = some r) : r = 4607182418800017408 := by
  cases o with
  | none => cases h
  | some n =>
    have h' : ((double.read n).quotient (double.fractionBits + 2) (double.read n)).map double.write = some r := h
    cases hn : double.read n with
    | nan s t => rw [hn] at h'; cases h'
    | infinity s => rw [hn] at h'; cases h'
    | number s m p =>
      rw [hn] at h'
      simp only [Datum.quotient] at h'
      by_cases hm : m = 0
      · rw [if_pos hm, if_pos hm] at h'; cases h'
      · rw [if_neg hm] at h'
        have e0 : double.fractionBits + 2 + m.log2 - m.log2 = 54 := by
          show 54 + m.log2 - m.log2 = 54
          omega
        rw [e0] at h'
        have e1 : m <<< 54 / m = 2 ^ 54 := by rw [Nat.shiftLeft_eq]; exact Nat.mul_div_cancel_left _ (by omega)
        have e2 : m <<< 54 % m = 0 := by rw [Nat.shiftLeft_eq]; exact Nat.mul_mod_right _ _
        have e3 : p - p - ((54 : Nat) : Int) - 1 = -55 := by omega
        have e4 : (s ^^ s) = false := by cases s <;> rfl
        rw [e1, e2, e3, e4] at h'
        have h2 : double.write (.number false (2 * 2 ^ 54 + (0 != 0).toNat) (-55)) = r := by simpa using h'
        rw [← h2]
        decide
theorem fitO_zero {o p : Option Nat} {r i : Nat} (h : fitO o p = (r, i, 0)) : o = some r ∧ p = some i ∧ isFin r = true ∧ isFin i = true := by
  unfold fitO at h
  cases o with
  | none => simp at h
  | some x =>
    cases p with
    | none => simp at h
    | some y =>
      simp only [fit] at h
      split at h
      · rename_i g
        simp only [Prod.mk.injEq] at h
        obtain ⟨rfl, rfl, -⟩ := h
        simp only [Bool.and_eq_true] at g
        exact ⟨rfl, rfl, g.1, g.2⟩
      · simp at h
theorem isFin_isN {x : Nat} (h : isFin x = true) : isN x = false := by
  unfold isFin at h
  unfold isN
  cases hx : rd64 x <;> first | rfl | (rw [hx] at h; cases h)
theorem wide2_zero {f : Nat → Nat → Nat → Nat → Option Nat × Option Nat} {a b c d : Nat} (h : (wide2 f a b c d).2.2 = 0) : isN (wide2 f a b c d).1 = false ∧ isN (wide2 f a b c d).2.1 = false := by
  unfold wide2 at h ⊢
  cases h1 : isFin a && isFin b
  · rw [h1] at h; simp at h
  · cases h2 : isFin c && isFin d
    · rw [h1, h2] at h; simp at h
    · rw [h1, h2] at h
      simp only [if_true] at h ⊢
      obtain ⟨r, i, k, e⟩ : ∃ r i k, fitO (f a b c d).1 (f a b c d).2 = (r, i, k) := ⟨_, _, _, rfl⟩
      rw [e] at h ⊢
      simp only at h
      subst h
      obtain ⟨-, -, g1, g2⟩ := fitO_zero e
      exact ⟨isFin_isN g1, isFin_isN g2⟩
theorem div_self {a b : Nat} (h : (divW a b a b).2.2 = 0) : (divW a b a b).1 = 4607182418800017408 := by
  unfold divW at h ⊢
  cases h1 : isFin a && isFin b
  · rw [h1] at h; simp at h
  · rw [h1] at h
    simp only [if_true] at h ⊢
    cases hz : isZ a b
    · rw [hz] at h
      simp only [Bool.false_eq_true, if_false] at h ⊢
      obtain ⟨r, i, k, e⟩ : ∃ r i k, fitO (quoO a b a b).1 (quoO a b a b).2 = (r, i, k) := ⟨_, _, _, rfl⟩
      rw [e] at h ⊢
      simp only at h
      subst h
      obtain ⟨g, -, -, -⟩ := fitO_zero e
      show r = _
      unfold quoO at g
      cases hg : absGe a b
      · rw [hg] at g
        simp only [Bool.false_eq_true, if_false] at g
        rw [fop_mul_comm (can a) (fop .quo (can a) (can b)), fop_add_comm _ (can b)] at g
        exact quo_self g
      · rw [hg] at g
        simp only [if_true] at g
        rw [fop_mul_comm (can b) (fop .quo (can b) (can a))] at g
        exact quo_self g
    · rw [hz] at h; simp at h
end Go.Proofs.Ytdohdokdeiedmaa
