/- Plain laws of doubles: sums and products commute, opposites. No conditions beyond those of each theorem. -/
import Derived.Test.YtdjkcpmoigemdaaG0
namespace Go.Proofs.Ytdjkcpmoigemdaa
open Go Go.Proofs.Ytdjkcpmoigemdaa.Fl Ieee
set_option linter.unusedVariables false
set_option linter.unusedSimpArgs false
theorem sum_comm (d e : Datum) : d.sum e = e.sum d := by
 cases d with
 | nan s t => cases e <;> rfl
 | infinity s =>
  cases e with
  | nan => rfl
  | infinity t => cases s <;> cases t <;> rfl
  | number => rfl
 | number s m i =>
  cases e with
  | nan => rfl
  | infinity t => rfl
  | number t n j =>
   simp only [Datum.sum, Option.some.injEq, Datum.number.injEq]
   rw [Int.min_comm i j, Int.add_comm (signed s m _)]
   refine ⟨?_, rfl, rfl⟩
   rw [Bool.and_comm]
theorem product_comm (d e : Datum) : d.product e = e.product d := by
 cases d with
 | nan s t => cases e <;> rfl
 | infinity s =>
  cases e with
  | nan => rfl
  | infinity t => cases s <;> cases t <;> rfl
  | number => rfl
 | number s m i =>
  cases e with
  | nan => rfl
  | infinity t => rfl
  | number t n j =>
   simp only [Datum.product, Option.some.injEq, Datum.number.injEq]
   exact ⟨Bool.xor_comm _ _, Nat.mul_comm _ _, Int.add_comm _ _⟩
theorem fb_add_comm (x y : Nat) : fb .add x y = fb .add y x := congrArg (Option.map double.write) (sum_comm _ _)
theorem fb_mul_comm (x y : Nat) : fb .mul x y = fb .mul y x := congrArg (Option.map double.write) (product_comm _ _)
theorem fop_add_comm (x y : Option Nat) : fop .add x y = fop .add y x := by
 cases x <;> cases y <;> simp [fop, fb_add_comm]
theorem fop_mul_comm (x y : Option Nat) : fop .mul x y = fop .mul y x := by
 cases x <;> cases y <;> simp [fop, fb_mul_comm]
theorem xor_low {y : Nat} (h : y < 2 ^ 63) : y ^^^ 2 ^ 63 = 2 ^ 63 + y := by
 apply Nat.eq_of_testBit_eq
 intro i
 rw [Nat.testBit_xor, Nat.testBit_two_pow]
 rcases Nat.lt_trichotomy i 63 with g | g | g
 ·rw [Nat.testBit_two_pow_add_gt g]
  simp [show ¬ 63 = i from by omega]
 ·subst g
  rw [Nat.testBit_two_pow_add_eq]
  simp
 ·have h1 : y.testBit i = false := Nat.testBit_lt_two_pow (Nat.lt_of_lt_of_le h (Nat.pow_le_pow_right (by omega) (by omega)))
  have h2 : (2 ^ 63 + y).testBit i = false := Nat.testBit_lt_two_pow (Nat.lt_of_lt_of_le (show 2 ^ 63 + y < 2 ^ 64 from by omega) (Nat.pow_le_pow_right (by omega) (by omega)))
  rw [h1, h2]
  simp [show ¬ 63 = i from by omega]
theorem neg_eq {y : Nat} (h : y < 2 ^ 64) : Op.negFloat .f64 y = if y < 2 ^ 63 then 2 ^ 63 + y else y - 2 ^ 63 := by
 show y ^^^ 2 ^ 63 = _
 split
 ·rename_i g; exact xor_low g
 ·obtain ⟨z, rfl⟩ : ∃ z, y = 2 ^ 63 + z := ⟨y - 2 ^ 63, by omega⟩
  rw [← xor_low (show z < 2 ^ 63 from by omega), Nat.xor_assoc, Nat.xor_self, Nat.xor_zero, xor_low (show z < 2 ^ 63 from by omega)]
  omega
theorem read_neg {y : Nat} (h : y < 2 ^ 64) : double.read (Op.negFloat .f64 y) = (double.read y).opposite := by
 have e1 : Op.negFloat .f64 y % 9223372036854775808 = y % 9223372036854775808 := by
  rw [neg_eq h]; split <;> omega
 have e2 : (Op.negFloat .f64 y / 9223372036854775808 % 2 == 1) = !(y / 9223372036854775808 % 2 == 1) := by
  rw [neg_eq h]
  split
  ·rw [show (2 ^ 63 + y) / 9223372036854775808 % 2 = 1 from by omega, show y / 9223372036854775808 % 2 = 0 from by omega]; rfl
  ·rw [show (y - 2 ^ 63) / 9223372036854775808 % 2 = 0 from by omega, show y / 9223372036854775808 % 2 = 1 from by omega]; rfl
 unfold Format.read
 simp only [sw, e1, e2]
 split
 ·rfl
 ·split
  ·rfl
  ·split
   ·rfl
   ·rfl
theorem isN_neg {y : Nat} (h : y < 2 ^ 64) : isN (Op.negFloat .f64 y) = isN y := by
 unfold isN
 rw [show rd64 (Op.negFloat .f64 y) = _ from read_neg h]
 show _ = (double.read y).isNaN
 cases double.read y <;> rfl
theorem isFin_neg {y : Nat} (h : y < 2 ^ 64) : isFin (Op.negFloat .f64 y) = isFin y := by
 unfold isFin
 rw [show rd64 (Op.negFloat .f64 y) = _ from read_neg h, show rd64 y = double.read y from rfl]
 cases double.read y <;> rfl
theorem fop_neg (x : Option Nat) {y : Nat} (h : y < 2 ^ 64) : fop .add x (can (Op.negFloat .f64 y)) = fop .sub x (can y) := by
 unfold fop can
 rw [isN_neg h]
 cases x with
 | none => rfl
 | some a =>
  cases isN y
  ·show fb .add a _ = fb .sub a y
   show ((double.read a).sum (double.read (Op.negFloat .f64 y))).map double.write = ((double.read a).sum (double.read y).opposite).map double.write
   rw [read_neg h]
  ·rfl
end Go.Proofs.Ytdjkcpmoigemdaa
