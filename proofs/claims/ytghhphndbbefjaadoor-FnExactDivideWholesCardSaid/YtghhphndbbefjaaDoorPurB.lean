/- The reference's sums, differences and products of whole numbers, as plain mathematics. Conditions: limbs in range, lengths to 10^6. -/
import Derived.Test.YtghhphndbbefjaaDoorG18
import Derived.Test.YtghhphndbbefjaaDoorMathM
import Derived.Test.YtghhphndbbefjaaDoorBigD
import Derived.Test.YtghhphndbbefjaaDoorBndB
import Derived.Laws.Bits128
import Derived.Test.YtghhphndbbefjaaDoorG15
/- The reference's bits, trailing zeros and shifts of whole numbers, as plain mathematics. Conditions: limbs in range, lengths to 10^6, shifts to 10^5. -/
namespace Go.Proofs.YtghhphndbbefjaaDoor.Pur
open Go.RowKit Go.Proofs.YtghhphndbbefjaaDoor Go.Proofs.YtghhphndbbefjaaDoor.Big Go.Proofs.YtghhphndbbefjaaDoor.X Go.Proofs.YtghhphndbbefjaaDoorW.PrintWords Go.Proofs.YtghhphndbbefjaaDoorW.PrintLast Go.Proofs.YtghhphndbbefjaaDoor.Math
set_option linter.unusedVariables false
set_option linter.unusedSimpArgs false
theorem cn_zero : cn 0 = (0, []) := by simp [cn, sgn, limbs_zero]
theorem lv_zero_getD {l : List Int} (ol : Okl l) (h : lv l = 0) : ∀ n, l.getD n 0 = 0 := by
 induction l with
 | nil => intro n; simp
 | cons x xs ih =>
  have h1 := ol.head
  have h2 := lv_nonneg ol.tail
  simp only [lv] at h
  intro n
  cases n with
  | zero => simp only [List.getD_cons_zero]; omega
  | succ n => rw [List.getD_cons_succ]; exact ih ol.tail (by omega) n
theorem l02Make_zero_loop {s : Int} {l : List Int} (hz : ∀ n, l.getD n 0 = 0) (hl : l.length ≤ 1000000000) (n : Nat) : ∀ k, n ≤ l.length → n < k → spec_l02Make.l0 k s l (n : Int) = some (0, []) := by
 induction n with
 | zero =>
  intro k h0 hk
  obtain ⟨k, rfl⟩ : ∃ m, k = m + 1 := ⟨k - 1, by omega⟩
  simp only [spec_l02Make.l0]
  rw [if_neg (by omega), if_pos (by omega)]
 | succ n ih =>
  intro k h0 hk
  obtain ⟨k, rfl⟩ : ∃ m, k = m + 1 := ⟨k - 1, by omega⟩
  simp only [spec_l02Make.l0]
  rw [if_pos (by omega), w64s (by omega) (by omega), show ((n + 1 : Nat) : Int) - 1 = (n : Int) from by omega, if_pos (by omega), if_pos (by omega), rd_cast, if_pos (hz n)]
  exact ih k (by omega) (by omega)
theorem l02Make_zero {s : Int} {l : List Int} (ol : Okl l) (h : lv l = 0) (hl : l.length ≤ 1000000000) : Ev (fun k => spec_l02Make.f k s l) (cn 0) := by
 rw [cn_zero]
 refine ⟨l.length + 1, fun k hk => ?_⟩
 show spec_l02Make.f k s l = _
 unfold spec_l02Make.f
 exact l02Make_zero_loop (lv_zero_getD ol h) hl l.length k (Nat.le_refl _) (by omega)
theorem tdm {t : Int} (h : 0 ≤ t) : Int.tmod t 16777216 = t % 16777216 ∧ Int.tdiv t 16777216 = t / 16777216 := ⟨Int.tmod_eq_emod_of_nonneg h, Int.tdiv_eq_ediv_of_nonneg h⟩
theorem getD_out {l : List Int} {k : Nat} (h : l.length ≤ k) : l.getD k 0 = 0 := by
 rw [List.getD_eq_getElem?_getD, List.getElem?_eq_none h]
 rfl
end Go.Proofs.YtghhphndbbefjaaDoor.Pur
namespace Go.Proofs.YtghhphndbbefjaaDoor.Pur
open Go.RowKit Go.Proofs.YtghhphndbbefjaaDoor Go.Proofs.YtghhphndbbefjaaDoor.Big Go.Proofs.YtghhphndbbefjaaDoor.X Go.Proofs.YtghhphndbbefjaaDoorW.PrintWords Go.Proofs.YtghhphndbbefjaaDoorW.PrintLast Go.Proofs.YtghhphndbbefjaaDoorW.PrintMore Go.Proofs.YtghhphndbbefjaaDoor.Math
set_option linter.unusedVariables false
set_option linter.unusedSimpArgs false
theorem and_one (n : Int) : Go.bits .and .i64 n 1 = n % 2 := by
 have h127 : (BitVec.ofInt 64 1).toNat = 2 ^ 1 - 1 := by decide
 have key : (BitVec.ofInt 64 n &&& BitVec.ofInt 64 1).toNat = (n % ((2 ^ 64 : Nat) : Int)).toNat % 2 ^ 1 := by
  rw [BitVec.toNat_and, BitVec.toNat_ofInt, h127, Nat.and_two_pow_sub_one_eq_mod]
 show IntKind.i64.wrap ((BitVec.ofInt 64 n &&& BitVec.ofInt 64 1).toNat : Nat) = n % 2
 rw [key, IntKind.wrap_i64]
 omega
theorem shr_small (x : Int) {r : Nat} (hr : r < 64) : shr .i64 x (r : Int) = x / 2 ^ r := by
 unfold shr
 rw [Int.toNat_natCast, show min r (IntKind.bits .i64) = r from Nat.min_eq_left (Nat.le_of_lt hr)]
theorem shl_small {x : Int} {r : Nat} (hr : r ≤ 24) (h0 : 0 ≤ x) (h1 : x < 16777216) : shl .i64 x (r : Int) = x * 2 ^ r ∧ 0 ≤ x * 2 ^ r ∧ x * 2 ^ r ≤ 281474976710656 := by
 have hp := two_pow_pos r
 have hq : (2 : Int) ^ r ≤ 16777216 := two_pow_le (s := 24) hr
 have h2 : 0 ≤ x * 2 ^ r := Int.mul_nonneg h0 (Int.le_of_lt hp)
 have h3 : x * 2 ^ r ≤ 16777215 * 16777216 := Int.mul_le_mul (by omega) hq (Int.le_of_lt hp) (by omega)
 unfold shl
 rw [Int.toNat_natCast, show min r (IntKind.bits .i64) = r from Nat.min_eq_left (Nat.le_trans hr (by decide))]
 generalize x * 2 ^ r = p at h2 h3 ⊢
 refine ⟨?_, h2, by omega⟩
 rw [IntKind.wrap_i64]
 omega
theorem qr {k : Nat} (hk : k ≤ 1000000) : Int.tdiv (k : Int) 24 = ((k / 24 : Nat) : Int) ∧ Int.tmod (k : Int) 24 = ((k % 24 : Nat) : Int) ∧ wrap64 ((k / 24 : Nat) : Int) = ((k / 24 : Nat) : Int) ∧ IntKind.u64.wrap ((k % 24 : Nat) : Int) = ((k % 24 : Nat) : Int) := by
 refine ⟨?_, ?_, w64s (by omega) (by omega), ?_⟩
 ·rw [Int.tdiv_eq_ediv_of_nonneg (by omega)]
  omega
 ·rw [Int.tmod_eq_emod_of_nonneg (by omega)]
  omega
 ·rw [wrapU]
  omega
theorem lpow_two_int (n : Nat) : (16777216 : Int) ^ n = 2 ^ (24 * n) := by
 rw [Int.pow_mul]
 rfl
theorem lv_small {l : List Int} (ol : Okl l) {k : Nat} (h : l.length ≤ k / 24) : lv l / 2 ^ k = 0 := by
 refine Int.ediv_eq_zero_of_lt (lv_nonneg ol) (Int.lt_of_lt_of_le (lv_lt ol) ?_)
 rw [lpow_two_int]
 exact two_pow_le (by omega)
theorem l02Bit (s : Int) {l : List Int} (ol : Okl l) (hl : l.length ≤ 1000000) {k : Nat} (hk : k ≤ 1000000) : spec_l02Bit.f s l (k : Int) = some ((lv l / 2 ^ k) % 2) := by
 obtain ⟨q1, q2, q3, q4⟩ := qr hk
 unfold spec_l02Bit.f
 rw [q1, q2, q3, q4]
 by_cases hq : k / 24 < l.length
 ·have hlt : ((k / 24 : Nat) : Int) < (l.length : Int) := Int.ofNat_lt.2 hq
  rw [if_neg (Int.not_le.2 hlt), if_pos (Int.natCast_nonneg _), if_pos hlt, if_pos (Int.natCast_nonneg _), rd_cast, shr_small _ (by omega), and_one, limb_bit ol (k / 24) (r := k % 24) (by omega) hq, show 24 * (k / 24) + k % 24 = k from by omega]
 ·rw [if_pos (show ((k / 24 : Nat) : Int) ≥ (l.length : Int) from Int.ofNat_le.2 (by omega)), lv_small ol (by omega)]
  rfl
theorem l02Make_any {s : Int} {l : List Int} (hs : -1 ≤ s ∧ s ≤ 1) (hz : s = 0 → lv l = 0) (ol : Okl l) (hl : l.length ≤ 1000000000) : Ev (fun k => spec_l02Make.f k s l) (cn (s * lv l)) := by
 by_cases e : s = 0
 ·have := hz e
  rw [this, Int.mul_zero]
  exact l02Make_zero ol this hl
 ·exact l02Make (by omega) ol hl
end Go.Proofs.YtghhphndbbefjaaDoor.Pur
