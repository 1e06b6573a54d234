/- The walks of the wide quotients: impl.divide, and '/' of the language; at every argument whose parts are words. -/
import Derived.Test.YtdohdokdeiedmaaFl1
import Derived.Laws.Externs
import Derived.Laws.BitsAllLaws
namespace Go.Proofs.Ytdohdokdeiedmaa
open Go Go.Proofs.Ytdohdokdeiedmaa.Fl
set_option linter.unusedVariables false
set_option linter.unusedSimpArgs false
attribute [local go_sem] run_add run_sub run_mul run_quo run_cadd run_csub

theorem run_bits (x : Nat) (w : World) : (callFunc 128 #[.float .f64 x]).run Try.prog w = .ok (.value (.int .u64 x)) w := by
  rw [run_callFunc_extern (e := Extern.MathFloatBits.float64bits) Try.func128 (by kernel_rfl) (by kernel_rfl) (by kernel_rfl) (by kernel_rfl)]
  rfl
theorem run_frombits (x : Int) (w : World) : (callFunc 127 #[.int .u64 x]).run Try.prog w = .ok (.value (.float .f64 x.toNat)) w := by
  rw [run_callFunc_extern (e := Extern.MathFloatBits.float64frombits) Try.func127 (by kernel_rfl) (by kernel_rfl) (by kernel_rfl) (by kernel_rfl)]
  rfl
theorem abs_bits {x : Nat} (h : x < 2 ^ 64) : (bits .andNot .u64 (x : Int) 9223372036854775808).toNat = Op.Complex.abs x := by
  rw [u64_andNot x 9223372036854775808 (by omega) (by omega) (by omega) (by omega)]
  rw [Int.toNat_natCast, Int.toNat_natCast]
  show x &&& (2 ^ 63 - 1) = x % 2 ^ 63
  rw [Nat.and_two_pow_sub_one_eq_mod]
attribute [local go_sem] run_bits run_frombits
set_option maxRecDepth 100000 in
theorem abs_calls (x : Nat) (h : x < 2 ^ 64) (w : World) : Calls Try.prog 123 #[.float .f64 x] w fun e w' => e = .returned (.float .f64 (Op.Complex.abs x)) ∧ w' = w := by
  have hx := abs_bits h
  go_enter Try.func123, Try.ntmps123
  go_wp2
  go_ret
  exact ⟨by simp [hx], rfl⟩
/-- The quotient's parts, but for a NaN's bits. -/
def quoO (a b c d : Nat) : Option Nat × Option Nat :=
  if absGe c d then
    (fop .quo (fop .add (can a) (fop .mul (can b) (fop .quo (can d) (can c)))) (fop .add (can c) (fop .mul (fop .quo (can d) (can c)) (can d))),
     fop .quo (fop .sub (can b) (fop .mul (can a) (fop .quo (can d) (can c)))) (fop .add (can c) (fop .mul (fop .quo (can d) (can c)) (can d))))
  else
    (fop .quo (fop .add (fop .mul (can a) (fop .quo (can c) (can d))) (can b)) (fop .add (can d) (fop .mul (fop .quo (can c) (can d)) (can c))),
     fop .quo (fop .sub (fop .mul (can b) (fop .quo (can c) (can d))) (can a)) (fop .add (can d) (fop .mul (fop .quo (can c) (can d)) (can c))))
def isZ (c d : Nat) : Bool := (FloatKind.f64.format.order c 0 == some .eq) && (FloatKind.f64.format.order d 0 == some .eq)
set_option maxRecDepth 100000 in
theorem divide_calls (a b c d : Nat) (hc : c < 2 ^ 64) (hd : d < 2 ^ 64) (w : World) : Calls Try.prog 80 #[.complex .f64 a b, .complex .f64 c d] w fun e w' => Qt w (Cx (quoO a b c d)) e w' := by
  unfold quoO
  cases hg : absGe c d
  all_goals
    have hg2 := hg
    unfold absGe at hg2
    go_enter Try.func80, Try.ntmps80
    go_wp2_with fail
    refine (abs_calls c hc w).mono ?_
    rintro e w1 ⟨rfl, rfl⟩
    go_wp2_with fail
    refine (abs_calls d hd _).mono ?_
    rintro e w1 ⟨rfl, rfl⟩
    go_wp2
    go_ret
    exact ⟨⟨_, rfl, _, _, rfl, by simp [can_fr], by simp [can_fr]⟩, _, rfl⟩
theorem isFin_inf {x : Nat} (h : isFin x = true) : Op.Complex.isInf x = false := by
  unfold isFin at h
  show (Ieee.double.read x).isInfinity = false
  cases hx : Ieee.double.read x <;> first | rfl | (rw [show rd64 x = _ from hx] at h; cases h)
theorem run_cmp (op : BinOp) {P : Program} (x y : Nat) (w : World) (h : op = .eql) : (Op.Complex.cmp op .f64 x y).run P w = .ok (FloatKind.f64.format.order x y == some .eq) w := by
  subst h
  simp [Op.Complex.cmp, Op.floatCmp, asBool]
/-- '/' at finite numbers, the divisor other than 0. -/
theorem run_cquo {P : Program} (t : TypeId) (a b c d : Nat) (w : World) (ha : isFin a = true) (hb : isFin b = true) (hc : isFin c = true) (hd : isFin d = true) (hz : isZ c d = false) :
    ∃ e f n, (binOp .quo t (.complex .f64 a b) (.complex .f64 c d)).run P w = .ok (.complex .f64 e f) (w.drewN n) ∧ can e = (quoO a b c d).1 ∧ can f = (quoO a b c d).2 := by
  have ia := isFin_inf ha; have ib := isFin_inf hb; have ic := isFin_inf hc; have id_ := isFin_inf hd
  have hz' := hz
  unfold isZ at hz'
  have key : ∃ e f n, (Op.Complex.quotient a b c d).run P w = .ok (e, f) (w.drewN n) ∧ can e = (quoO a b c d).1 ∧ can f = (quoO a b c d).2 := by
    unfold quoO Op.Complex.quotient
    cases hg : absGe c d
    all_goals
      simp only [Sem.run_bind, run_ccmp_geq, hg, Result.andThen_ok, Bool.false_eq_true, if_false, if_true, Op.Complex.mul, Op.Complex.sub, Op.Complex.add, Op.Complex.quo, run_carith4 (op := .mul) rfl, run_carith4 (op := .sub) rfl, run_carith4 (op := .add) rfl, run_carith4 (op := .quo) rfl, run_cmp _ _ _ _ rfl, Sem.run_pure, hz', ia, ib, ic, id_, Bool.false_and, Bool.or_self, ite_self, World.drewN_drewN]
      exact ⟨_, _, _, rfl, by simp only [can_fr], by simp only [can_fr]⟩
  obtain ⟨e, f, n, hq, h1, h2⟩ := key
  exact ⟨e, f, n, by simp [binOp, Op.complexOp, Op.Complex.conv, hq], h1, h2⟩
def divW (a b c d : Nat) : Nat × Nat × Int :=
  if isFin a && isFin b then (if isFin c && isFin d then (if isZ c d then (0, 0, 5) else fitO (quoO a b c d).1 (quoO a b c d).2) else (0, 0, 1)) else (0, 0, 1)
set_option maxRecDepth 100000 in
theorem DivideWide_calls (a b c d : Nat) (hc : c < 2 ^ 64) (hd : d < 2 ^ 64) (w : World) : Calls Try.prog 19 #[.complex .f64 a b, .complex .f64 c d] w fun e w' => e = .returned (parts (divW a b c d)) ∧ ∃ n, w' = w.drewN n := by
  unfold divW
  cases h1 : (isFin a && isFin b)
  · go_enter Try.func19, Try.ntmps19
    go_wp2_with fail
    refine (isFinite_calls a b w).mono ?_
    rintro e w1 ⟨rfl, n, rfl⟩
    rw [h1]
    go_wp2
    go_ret2
    exact ⟨rfl, _, rfl⟩
  · cases h2 : (isFin c && isFin d)
    · go_enter Try.func19, Try.ntmps19
      go_wp2_with fail
      refine (isFinite_calls a b w).mono ?_
      rintro e w1 ⟨rfl, n, rfl⟩
      rw [h1]
      go_wp2_with fail
      refine (isFinite_calls c d _).mono ?_
      rintro e w1 ⟨rfl, n, rfl⟩
      rw [h2]
      go_wp2
      go_ret2
      exact ⟨rfl, _, rfl⟩
    · cases hz : isZ c d
      all_goals
        have hz' := hz
        unfold isZ at hz'
        go_enter Try.func19, Try.ntmps19
        go_wp2_with fail
        refine (isFinite_calls a b w).mono ?_
        rintro e w1 ⟨rfl, n, rfl⟩
        rw [h1]
        go_wp2_with fail
        refine (isFinite_calls c d _).mono ?_
        rintro e w1 ⟨rfl, m, rfl⟩
        rw [h2]
      · go_wp2_with fail
        refine (divide_calls a b c d hc hd _).mono ?_
        rintro e w1 ⟨⟨v, rfl, r, i, rfl, hr, hi⟩, n, rfl⟩
        go_wp2_with fail
        refine (wideOr_calls r i _).mono ?_
        rintro e w1 ⟨rfl, n, rfl⟩
        rw [fit_can hr hi]
        unfold parts
        go_wp2
        go_ret2
        exact ⟨rfl, _, rfl⟩
      · go_wp2
        go_ret2
        exact ⟨rfl, _, rfl⟩
set_option maxRecDepth 100000 in
theorem specDivideWide_calls (a b c d : Nat) (hc : c < 2 ^ 64) (hd : d < 2 ^ 64) (w : World) : Calls Try.prog 20 #[.complex .f64 a b, .complex .f64 c d] w fun e w' => e = .returned (parts (divW a b c d)) ∧ ∃ n, w' = w.drewN n := by
  unfold divW
  cases h1 : (isFin a && isFin b)
  · go_enter Try.func20, Try.ntmps20
    go_wp2_with fail
    refine (l01Finite_calls a b w).mono ?_
    rintro e w1 ⟨rfl, n, rfl⟩
    rw [h1]
    go_wp2
    go_ret2
    exact ⟨rfl, _, rfl⟩
  · cases h2 : (isFin c && isFin d)
    · go_enter Try.func20, Try.ntmps20
      go_wp2_with fail
      refine (l01Finite_calls a b w).mono ?_
      rintro e w1 ⟨rfl, n, rfl⟩
      rw [h1]
      go_wp2_with fail
      refine (l01Finite_calls c d _).mono ?_
      rintro e w1 ⟨rfl, n, rfl⟩
      rw [h2]
      go_wp2
      go_ret2
      exact ⟨rfl, _, rfl⟩
    · cases hz : isZ c d
      all_goals
        have hz' := hz
        unfold isZ at hz'
        go_enter Try.func20, Try.ntmps20
        go_wp2_with fail
        refine (l01Finite_calls a b w).mono ?_
        rintro e w1 ⟨rfl, n, rfl⟩
        rw [h1]
        go_wp2_with fail
        refine (l01Finite_calls c d _).mono ?_
        rintro e w1 ⟨rfl, m, rfl⟩
        rw [h2]
      · simp only [Bool.and_eq_true] at h1 h2
        have hq := fun t w => run_cquo (P := Try.prog) t a b c d w h1.1 h1.2 h2.1 h2.2 hz
        go_wp2_with fail
        obtain ⟨r, i, k, hq, hr, hi⟩ := hq 24 ((w.drewN n).drewN m)
        rw [World.drewN_drewN] at hq
        rw [hq]
        go_wp2_with fail
        refine (l01Fit_calls r i _).mono ?_
        rintro e w1 ⟨rfl, n, rfl⟩
        rw [fit_can hr hi]
        unfold parts
        go_wp2
        go_ret2
        exact ⟨rfl, _, rfl⟩
      · go_wp2
        go_ret2
        exact ⟨rfl, _, rfl⟩
end Go.Proofs.Ytdohdokdeiedmaa
