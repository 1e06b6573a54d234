/- The walks of the wide arithmetic: what each function of impl and spec answers at every argument, NaNs included. -/
import Derived.Test.YteefmpcmfkfmnaaProg
import Derived.Test.YteefmpcmfkfmnaaFa
import Derived.BigRegion
namespace Go.Proofs.Yteefmpcmfkfmnaa
open Go Go.Proofs.Yteefmpcmfkfmnaa.Fl
set_option linter.unusedVariables false
set_option linter.unusedSimpArgs false
attribute [local go_sem] run_add run_sub run_mul run_quo run_cadd run_csub

/-- A number of two parts that is finite, or the limit's code. -/
def fit (r i : Nat) : Nat × Nat × Int := if isFin r && isFin i then (r, i, 0) else (0, 0, 3)
def fitO (r i : Option Nat) : Nat × Nat × Int := match r, i with
  | some x, some y => fit x y
  | _, _ => (0, 0, 3)
theorem isFin_nan {b : Nat} (h : can b = none) : isFin b = false := by
  unfold can at h
  split at h
  · rename_i hn
    obtain ⟨s, t, hh⟩ := nan_cases hn
    unfold isFin; rw [hh]
  · cases h
theorem fit_can {r i : Nat} {o p : Option Nat} (hr : can r = o) (hi : can i = p) : fit r i = fitO o p := by
  subst hr; subst hi
  unfold fitO
  cases h1 : can r with
  | none => simp [fit, isFin_nan h1]
  | some x =>
    cases h2 : can i with
    | none => simp [fit, isFin_nan h2]
    | some y => rw [can_some h1, can_some h2]
/-- What comes of an operation on two wide numbers: (parts, code). -/
def wide2 (f : Nat → Nat → Nat → Nat → Option Nat × Option Nat) (a b c d : Nat) : Nat × Nat × Int :=
  if isFin a && isFin b then (if isFin c && isFin d then fitO (f a b c d).1 (f a b c d).2 else (0, 0, 1)) else (0, 0, 1)
def addO (a b c d : Nat) : Option Nat × Option Nat := (fop .add (can a) (can c), fop .add (can b) (can d))
def subO (a b c d : Nat) : Option Nat × Option Nat := (fop .sub (can a) (can c), fop .sub (can b) (can d))
def mulO (a b c d : Nat) : Option Nat × Option Nat := (fop .sub (fop .mul (can a) (can c)) (fop .mul (can b) (can d)), fop .add (fop .mul (can a) (can d)) (fop .mul (can b) (can c)))
/-- What a function that only draws leaves. -/
def Qt (w : World) (R : Value → Prop) : Ending → World → Prop := fun e w' => (∃ v, e = .returned v ∧ R v) ∧ ∃ n, w' = w.drewN n
theorem Qt.mk {w : World} {R : Value → Prop} {v : Value} {n : Nat} (h : R v) : Qt w R (.returned v) (w.drewN n) := ⟨⟨v, rfl, h⟩, n, rfl⟩
def parts (p : Nat × Nat × Int) : Value := .tuple #[.complex .f64 p.1 p.2.1, .int .i64 p.2.2]
/-- A wide number with these parts. -/
def Cx (f : Option Nat × Option Nat) (v : Value) : Prop := ∃ r i, v = .complex .f64 r i ∧ can r = f.1 ∧ can i = f.2

theorem isFinite_calls (a b : Nat) (w : World) : Calls Try.prog 28 #[.complex .f64 a b] w fun e w' => e = .returned (.bool (isFin a && isFin b)) ∧ ∃ n, w' = w.drewN n := by
  cases ha : isFin a
  · go_enter Try.func28, Try.ntmps28
    go_wp2_with fail
    refine (isReal_calls a w).mono ?_
    rintro e w1 ⟨rfl, n, rfl⟩
    rw [ha]
    go_wp2
    go_ret
    exact ⟨rfl, _, rfl⟩
  · go_enter Try.func28, Try.ntmps28
    go_wp2_with fail
    refine (isReal_calls a w).mono ?_
    rintro e w1 ⟨rfl, n, rfl⟩
    rw [ha]
    go_wp2_with fail
    refine (isReal_calls b _).mono ?_
    rintro e w1 ⟨rfl, m, rfl⟩
    go_wp2
    go_ret
    exact ⟨by simp, _, rfl⟩
theorem l01Finite_calls (a b : Nat) (w : World) : Calls Try.prog 30 #[.complex .f64 a b] w fun e w' => e = .returned (.bool (isFin a && isFin b)) ∧ ∃ n, w' = w.drewN n := by
  cases ha : isFin a
  · go_enter Try.func30, Try.ntmps30
    go_wp2_with fail
    refine (l01Real_calls a w).mono ?_
    rintro e w1 ⟨rfl, n, rfl⟩
    rw [ha]
    go_wp2
    go_ret
    exact ⟨rfl, _, rfl⟩
  · go_enter Try.func30, Try.ntmps30
    go_wp2_with fail
    refine (l01Real_calls a w).mono ?_
    rintro e w1 ⟨rfl, n, rfl⟩
    rw [ha]
    go_wp2_with fail
    refine (l01Real_calls b _).mono ?_
    rintro e w1 ⟨rfl, m, rfl⟩
    go_wp2
    go_ret
    exact ⟨by simp, _, rfl⟩
theorem wideOr_calls (a b : Nat) (w : World) : Calls Try.prog 36 #[.complex .f64 a b] w fun e w' => e = .returned (parts (fit a b)) ∧ ∃ n, w' = w.drewN n := by
  unfold fit
  cases hf : (isFin a && isFin b)
  all_goals
    go_enter Try.func36, Try.ntmps36
    go_wp2_with fail
    refine (isFinite_calls a b w).mono ?_
    rintro e w1 ⟨rfl, n, rfl⟩
    rw [hf]
    go_wp2
    go_ret2
    exact ⟨rfl, _, rfl⟩
theorem l01Fit_calls (a b : Nat) (w : World) : Calls Try.prog 46 #[.complex .f64 a b] w fun e w' => e = .returned (parts (fit a b)) ∧ ∃ n, w' = w.drewN n := by
  unfold fit
  cases hf : (isFin a && isFin b)
  all_goals
    go_enter Try.func46, Try.ntmps46
    go_wp2_with fail
    refine (l01Finite_calls a b w).mono ?_
    rintro e w1 ⟨rfl, n, rfl⟩
    rw [hf]
    go_wp2
    go_ret2
    exact ⟨rfl, _, rfl⟩
theorem add_calls (a b c d : Nat) (w : World) : Calls Try.prog 49 #[.complex .f64 a b, .complex .f64 c d] w fun e w' => Qt w (Cx (addO a b c d)) e w' := by
  go_enter Try.func49, Try.ntmps49
  go_wp2
  go_ret
  exact ⟨⟨_, rfl, _, _, rfl, can_fr _ _ _ _, can_fr _ _ _ _⟩, _, rfl⟩
theorem multiply_calls (a b c d : Nat) (w : World) : Calls Try.prog 37 #[.complex .f64 a b, .complex .f64 c d] w fun e w' => Qt w (Cx (mulO a b c d)) e w' := by
  go_enter Try.func37, Try.ntmps37
  go_wp2
  go_ret
  exact ⟨⟨_, rfl, _, _, rfl, by simp only [can_fr, mulO], by simp only [can_fr, mulO]⟩, _, rfl⟩
theorem l01Times_calls (a b c d : Nat) (w : World) : Calls Try.prog 42 #[.complex .f64 a b, .complex .f64 c d] w fun e w' => Qt w (Cx (mulO a b c d)) e w' := by
  go_enter Try.func42, Try.ntmps42
  go_wp2
  go_ret
  exact ⟨⟨_, rfl, _, _, rfl, by simp only [can_fr, mulO], by simp only [can_fr, mulO]⟩, _, rfl⟩
theorem MultiplyWide_calls (a b c d : Nat) (w : World) : Calls Try.prog 12 #[.complex .f64 a b, .complex .f64 c d] w fun e w' => e = .returned (parts (wide2 mulO a b c d)) ∧ ∃ n, w' = w.drewN n := by
  unfold wide2
  cases h1 : (isFin a && isFin b)
  · go_enter Try.func12, Try.ntmps12
    go_wp2_with fail
    refine (isFinite_calls a b w).mono ?_
    rintro e w1 ⟨rfl, n, rfl⟩
    rw [h1]
    go_wp2
    go_ret2
    exact ⟨rfl, _, rfl⟩
  · cases h2 : (isFin c && isFin d)
    all_goals
      go_enter Try.func12, Try.ntmps12
      go_wp2_with fail
      refine (isFinite_calls a b w).mono ?_
      rintro e w1 ⟨rfl, n, rfl⟩
      rw [h1]
      go_wp2_with fail
      refine (isFinite_calls c d _).mono ?_
      rintro e w1 ⟨rfl, n, rfl⟩
      rw [h2]
    · go_wp2
      go_ret2
      exact ⟨rfl, _, rfl⟩
    · go_wp2_with fail
      refine (multiply_calls a b c d _).mono ?_
      rintro e w1 ⟨⟨v, rfl, r, i, rfl, hr, hi⟩, n, rfl⟩
      go_wp2_with fail
      refine (wideOr_calls r i _).mono ?_
      rintro e w1 ⟨rfl, n, rfl⟩
      rw [fit_can hr hi]
      unfold parts
      go_wp2
      go_ret2
      exact ⟨rfl, _, rfl⟩
end Go.Proofs.Yteefmpcmfkfmnaa
