/- The tests for finite floats and the absolute value, walked. -/
import Derived.Test.YteefmpcmfkfmnaaProg
import Derived.Test.YteefmpcmfkfmnaaFl0
import Derived.Laws.Externs
import Derived.Laws.BitsAllLaws
import Derived.BigRegion
namespace Go.Proofs.Yteefmpcmfkfmnaa
open Go Go.Proofs.Yteefmpcmfkfmnaa.Fl
set_option linter.unusedVariables false
set_option linter.unusedSimpArgs false
attribute [local go_sem] run_add run_sub run_mul run_quo

theorem isReal_calls (x : Nat) (w : World) : Calls Try.prog 29 #[.float .f64 x] w fun e w' => e = .returned (.bool (isFin x)) ∧ ∃ n, w' = w.drewN n := by
  have hf := fin_test x w
  go_enter Try.func29, Try.ntmps29
  go_wp2
  go_ret
  exact ⟨rfl, _, rfl⟩
theorem l01Real_calls (x : Nat) (w : World) : Calls Try.prog 54 #[.float .f64 x] w fun e w' => e = .returned (.bool (isFin x)) ∧ ∃ n, w' = w.drewN n := by
  have hf := fin_test x w
  go_enter Try.func54, Try.ntmps54
  go_wp2
  go_ret
  exact ⟨rfl, _, rfl⟩
theorem run_bits (x : Nat) (w : World) : (callFunc 60 #[.float .f64 x]).run Try.prog w = .ok (.value (.int .u64 x)) w := by
  rw [run_callFunc_extern (e := Extern.MathFloatBits.float64bits) Try.func60 (by kernel_rfl) (by kernel_rfl) (by kernel_rfl) (by kernel_rfl)]
  rfl
theorem run_frombits (x : Int) (w : World) : (callFunc 59 #[.int .u64 x]).run Try.prog w = .ok (.value (.float .f64 x.toNat)) w := by
  rw [run_callFunc_extern (e := Extern.MathFloatBits.float64frombits) Try.func59 (by kernel_rfl) (by kernel_rfl) (by kernel_rfl) (by kernel_rfl)]
  rfl
theorem abs_bits {x : Nat} (h : x < 2 ^ 64) : (bits .andNot .u64 (x : Int) 9223372036854775808).toNat = Op.Complex.abs x := by
  rw [u64_andNot x 9223372036854775808 (by omega) (by omega) (by omega) (by omega)]
  rw [Int.toNat_natCast, Int.toNat_natCast]
  show x &&& (2 ^ 63 - 1) = x % 2 ^ 63
  rw [Nat.and_two_pow_sub_one_eq_mod]
attribute [local go_sem] run_bits run_frombits
set_option maxRecDepth 100000 in
theorem abs_calls (x : Nat) (h : x < 2 ^ 64) (w : World) : Calls Try.prog 53 #[.float .f64 x] w fun e w' => e = .returned (.float .f64 (Op.Complex.abs x)) ∧ w' = w := by
  have hx := abs_bits h
  go_enter Try.func53, Try.ntmps53
  go_wp2
  go_ret
  exact ⟨by simp [hx], rfl⟩
end Go.Proofs.Yteefmpcmfkfmnaa
