/- The contract of impl.IsWhole in plain words: it tells whether a sign and limbs are a whole number. Condition: at most 1000000000 limbs. -/
import Derived.Test.YtlkomiiijhphnaaDoorG21
import Derived.Test.YtlkomiiijhphnaaDoorMathM
namespace Go.Proofs.YtlkomiiijhphnaaDoor
open Go.RowKit Go.Proofs.YtlkomiiijhphnaaDoorW.PrintWords Go.Proofs.YtlkomiiijhphnaaDoorW.PrintLast Go.Proofs.YtlkomiiijhphnaaDoor.Math
set_option linter.unusedVariables false
set_option linter.unusedSimpArgs false
theorem A_between (x : Int) : A.impl_between.f x 0 16777215 = some (limbOk x) := by
 unfold A.impl_between.f limbOk
 by_cases h : 0 ≤ x
 ·rw [if_pos h]
  simp [h]
 ·rw [if_neg h]
  simp [h]
theorem A_isWhole (s : Int) (l : List Int) (hl : l.length ≤ 1000000000) (d : Nat) : ∀ (k i : Nat), i ≤ l.length → l.length - i = d → d < k →
  A.impl_IsWhole.l0 k (l.length : Int) l (l.length : Int) (i : Int) s l = some ((l.drop i).all limbOk && tailOk s l) := by
 induction d with
 | zero =>
  intro k i h0 h1 hk
  obtain ⟨k, rfl⟩ : ∃ m, k = m + 1 := ⟨k - 1, by omega⟩
  obtain rfl : i = l.length := by omega
  simp only [A.impl_IsWhole.l0]
  rw [if_neg (by omega), List.drop_of_length_le (Nat.le_refl _), List.all_nil, Bool.true_and]
  unfold tailOk
  by_cases e : l = []
  ·subst e
   simp
  ·have hp : 0 < l.length := List.length_pos_iff.2 e
   rw [if_neg (by omega), if_neg e]
   by_cases h2 : l.length ≤ 200
   ·rw [if_pos (by omega), w64s (by omega) (by omega), if_pos (by omega), if_pos (by omega)]
    rw [show (l.length : Int) - 1 = ((l.length - 1 : Nat) : Int) from by omega, rd_cast]
    generalize l.getD (l.length - 1) 0 = g
    by_cases h3 : g = 0
    ·rw [if_pos h3]
     simp [h3, h2]
    ·rw [if_neg h3]
     by_cases h4 : s = 1
     ·rw [if_pos h4]
      simp [h4, h2, h3]
     ·rw [if_neg h4]
      have e1 : (g != 0) = true := by simpa using h3
      have e2 : (s == 1) = false := by simpa using h4
      rw [e1, e2]
      simp [h2]
   ·rw [if_neg (by omega)]
    simp [h2]
 | succ d ih =>
  intro k i h0 h1 hk
  obtain ⟨k, rfl⟩ : ∃ m, k = m + 1 := ⟨k - 1, by omega⟩
  simp only [A.impl_IsWhole.l0]
  rw [if_pos (by omega), if_pos (by omega), if_pos (by omega), rd_cast, A_between, all_drop l i (by omega)]
  simp only [Option.bind_some]
  by_cases hb : limbOk (l.getD i 0) = true
  ·rw [if_pos hb, w64s (by omega) (by omega), show (i : Int) + 1 = ((i + 1 : Nat) : Int) from by omega, ih k (i + 1) (by omega) (by omega) (by omega), hb, Bool.true_and]
  ·rw [if_neg hb]
   simp only [Bool.not_eq_true] at hb
   rw [hb, Bool.false_and, Bool.false_and]
def impl_IsWhole.f (a0_0 : Int) (l0_1 : List Int) : Option Bool := if l0_1.length ≤ 1000000000 then some (isW a0_0 l0_1) else none
theorem impl_IsWhole.calls (a0_0 : Int) (A0_1 : Option Addr) (c0_1 : Nat) (l0_1 : List Int) (r : Bool) (w : World) (hr0_1 : Kd.C (Kd.int .i64) w A0_1 l0_1.length l0_1) (hc0_1 : l0_1.length ≤ c0_1) (h : impl_IsWhole.f a0_0 l0_1 = some r) :
  Calls Tryd.prog 10 #[.agg #[.int .i64 a0_0, .slice A0_1 l0_1.length c0_1]] w fun e w' => e = .returned (.bool r) ∧ Below w.heap.size w w' := by
 unfold impl_IsWhole.f at h
 split at h
 ·rename_i hl
  refine A.impl_IsWhole.calls (l0_1.length + 1) a0_0 A0_1 c0_1 l0_1 r w hr0_1 hc0_1 ?_
  rw [← h]
  have := A_isWhole a0_0 l0_1 hl l0_1.length (l0_1.length + 1) 0 (Nat.zero_le _) (Nat.sub_zero _) (by omega)
  simpa [A.impl_IsWhole.f, isW] using this
 ·cases h
end Go.Proofs.YtlkomiiijhphnaaDoor
