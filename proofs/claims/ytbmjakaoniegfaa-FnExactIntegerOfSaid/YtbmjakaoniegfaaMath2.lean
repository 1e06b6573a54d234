/- How long numbers are, in bits and digits; limbs to the base 2^24. Plain Lean; no program. -/
import Derived.Test.YtbmjakaoniegfaaMath1
import Derived.Lib.BitFns
namespace Go.Proofs.Ytbmjakaoniegfaa.Math
open Go
set_option linter.unusedVariables false
set_option linter.unusedSimpArgs false

/-- How many bits the size of a number has. -/
def blen (n : Int) : Nat := if n.natAbs = 0 then 0 else n.natAbs.log2 + 1
theorem log2_unique {a k : Nat} (h1 : 2 ^ k ≤ a) (h2 : a < 2 ^ (k + 1)) : a.log2 = k := by
  have hp := Nat.pow_pos (a := 2) (n := k) (by omega)
  have ha : a ≠ 0 := by omega
  have l1 := (Nat.le_log2 ha).2 h1
  have l2 := (Nat.log2_lt ha).2 h2
  omega
theorem blen_unique {n : Int} {k : Nat} (h1 : 2 ^ k ≤ n.natAbs) (h2 : n.natAbs < 2 ^ (k + 1)) : blen n = k + 1 := by
  have hp := Nat.pow_pos (a := 2) (n := k) (by omega)
  rw [blen, if_neg (by omega), log2_unique h1 h2]
theorem blen_zero : blen 0 = 0 := rfl
theorem blen_spec {n : Int} (h : n ≠ 0) : 2 ^ (blen n - 1) ≤ n.natAbs ∧ n.natAbs < 2 ^ (blen n) ∧ 1 ≤ blen n := by
  have ha : n.natAbs ≠ 0 := by omega
  rw [blen, if_neg ha, Nat.add_sub_cancel]
  exact ⟨(Nat.le_log2 ha).1 (Nat.le_refl _), (Nat.log2_lt ha).1 (Nat.lt_succ_self _), by omega⟩
theorem blen_le {n : Int} {k : Nat} : blen n ≤ k ↔ n.natAbs < 2 ^ k := by
  by_cases h : n = 0
  · subst h
    simp [blen, Nat.pow_pos]
  · have ha : n.natAbs ≠ 0 := by omega
    rw [blen, if_neg ha, ← Nat.log2_lt ha]
    omega
theorem blen_neg (n : Int) : blen (-n) = blen n := by rw [blen, blen, Int.natAbs_neg]
theorem bitLenAux_log2 : ∀ (f x : Nat), x < 2 ^ f → Lib.bitLenAux f x = if x = 0 then 0 else x.log2 + 1
  | 0, x, h => by
    have : x = 0 := by simpa using h
    subst this
    rfl
  | f + 1, x, h => by
    rw [Lib.bitLenAux]
    by_cases hx : x = 0
    · rw [if_pos hx, if_pos hx]
    · rw [if_neg hx, if_neg hx, bitLenAux_log2 f (x / 2) (by rw [Nat.pow_succ] at h; omega)]
      by_cases h2 : 2 ≤ x
      · rw [if_neg (by omega)]
        conv => rhs; rw [Nat.log2_def, if_pos h2]
        omega
      · have : x = 1 := by omega
        subst this
        rfl
theorem bitLen_log2 {x : Nat} (h : x < 2 ^ 64) : Lib.bitLen x = if x = 0 then 0 else x.log2 + 1 := bitLenAux_log2 64 x h
theorem cast_pow32 (n : Nat) : ((2 ^ (32 * n) : Nat) : Int) = 4294967296 ^ n := by
  rw [Nat.pow_mul, Int.natCast_pow]
  rfl
/-- The length of digits, by the highest one's. -/
theorem blen_digits {ys : List Int} {y : Int} (h : Okd (ys ++ [y])) (hy : y ≠ 0) : blen (val (ys ++ [y])) = 32 * ys.length + Lib.bitLen y.toNat := by
  have h1 := h.right.head
  have h2 := val_nonneg h.left
  have h3 := val_lt h.left
  have hyn : y.toNat ≠ 0 := by omega
  have hyl : y.toNat < 2 ^ 64 := by
    have : (2 : Nat) ^ 64 = 18446744073709551616 := by decide
    omega
  rw [bitLen_log2 hyl, if_neg hyn]
  have l1 := (Nat.le_log2 hyn).1 (Nat.le_refl _)
  have l2 := (Nat.log2_lt hyn).1 (Nat.lt_succ_self _)
  rw [val_append]
  simp only [val, Int.mul_zero, Int.add_zero]
  have e : (val ys + 4294967296 ^ ys.length * y).natAbs = (val ys).toNat + 2 ^ (32 * ys.length) * y.toNat := by
    have : ((2 ^ (32 * ys.length) * y.toNat : Nat) : Int) = 4294967296 ^ ys.length * y := by
      rw [Int.natCast_mul, cast_pow32, Int.toNat_of_nonneg h1.1]
    have h0 : 0 ≤ (4294967296 : Int) ^ ys.length * y := Int.mul_nonneg (Int.le_of_lt (pow_pos' _)) h1.1
    omega
  have hv : (val ys).toNat < 2 ^ (32 * ys.length) := by
    have := cast_pow32 ys.length
    omega
  have hk : 32 * ys.length + (y.toNat.log2 + 1) = (32 * ys.length + y.toNat.log2) + 1 := by omega
  rw [hk]
  refine blen_unique ?_ ?_
  · rw [e, Nat.pow_add]
    have := Nat.mul_le_mul_left (2 ^ (32 * ys.length)) l1
    omega
  · rw [e, show 32 * ys.length + y.toNat.log2 + 1 = 32 * ys.length + (y.toNat.log2 + 1) from by omega, Nat.pow_add]
    have := Nat.mul_le_mul_left (2 ^ (32 * ys.length)) (show y.toNat + 1 ≤ 2 ^ (y.toNat.log2 + 1) from l2)
    rw [Nat.mul_add, Nat.mul_one] at this
    omega
/-- Tight digits are as many as their value needs. -/
theorem tight_length {xs : List Int} (h : Okd xs) (ht : Tight xs) {k : Nat} (hv : val xs < 4294967296 ^ k) : xs.length ≤ k := by
  by_cases e : xs = []
  · subst e
    simp
  · have h1 := val_ge h ht e
    rcases Nat.lt_or_ge k xs.length with hl | hl
    · have := pow_mono (show k ≤ xs.length - 1 from by omega)
      omega
    · exact hl

/-- The value of limbs to the base 2^24. -/
def lv : List Int → Int
  | [] => 0
  | x :: xs => x + 16777216 * lv xs
def Okl (xs : List Int) : Prop := ∀ x ∈ xs, 0 ≤ x ∧ x < 16777216
theorem Okl.head {x : Int} {xs : List Int} (h : Okl (x :: xs)) : 0 ≤ x ∧ x < 16777216 := h x List.mem_cons_self
theorem Okl.tail {x : Int} {xs : List Int} (h : Okl (x :: xs)) : Okl xs := fun y hy => h y (List.mem_cons_of_mem _ hy)
theorem lv_nonneg {xs : List Int} (h : Okl xs) : 0 ≤ lv xs := by
  induction xs with
  | nil => simp [lv]
  | cons x xs ih =>
    have h1 := h.head
    have h2 := ih h.tail
    simp only [lv]
    omega
theorem lv_lt {xs : List Int} (h : Okl xs) : lv xs < 16777216 ^ xs.length := by
  induction xs with
  | nil => simp [lv]
  | cons x xs ih =>
    have h1 := h.head
    have h2 := ih h.tail
    simp only [lv, List.length_cons, Int.pow_succ]
    omega
theorem lpow_le (n : Nat) : (16777216 : Int) ^ n ≤ 4294967296 ^ n := by
  induction n with
  | zero => simp
  | succ n ih =>
    rw [Int.pow_succ, Int.pow_succ]
    have h : (0 : Int) < 16777216 ^ n := Int.pow_pos (by omega)
    omega
theorem okl_drop {xs : List Int} (h : Okl xs) (k : Nat) : Okl (xs.drop k) := fun x hx => h x (List.mem_of_mem_drop hx)
theorem lv_drop {xs : List Int} {k : Nat} (h : k < xs.length) : lv (xs.drop k) = xs.getD k 0 + 16777216 * lv (xs.drop (k + 1)) := by
  rw [List.drop_eq_getElem_cons h]
  simp only [lv]
  congr 1
  rw [List.getD_eq_getElem?_getD, List.getElem?_eq_getElem h]
  rfl
/-- The value of a sign and limbs. -/
def wv (s : Int) (ls : List Int) : Int := if s < 0 then -lv ls else lv ls
end Go.Proofs.Ytbmjakaoniegfaa.Math
