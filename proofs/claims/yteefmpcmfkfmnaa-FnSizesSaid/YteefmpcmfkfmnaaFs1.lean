/- Sizes, larger parts and conjugates of both sides, walked. No conditions beyond those of each theorem. -/
import Derived.Test.YteefmpcmfkfmnaaFm2
import Derived.Test.YteefmpcmfkfmnaaFl6
namespace Go.Proofs.Yteefmpcmfkfmnaa
open Go Ieee Go.RowKit Go.Proofs.Yteefmpcmfkfmnaa.Fl Go.Proofs.Yteefmpcmfkfmnaa.Fx Go.Proofs.Yteefmpcmfkfmnaa.P Go.Proofs.YteefmpcmfkfmnaaW.PrintWords Go.Proofs.YteefmpcmfkfmnaaW.PrintLast Go.Proofs.YteefmpcmfkfmnaaW.PrintMore
set_option linter.unusedVariables false
set_option linter.unusedSimpArgs false
attribute [local go_sem] run_add run_sub run_mul run_quo run_cadd run_csub run_neg run_cneg max_two

/-- The size of a wide number: the rounded sum of the absolute values. -/
def sz (a b : Nat) : Nat := (fb .add (Op.Complex.abs a) (Op.Complex.abs b)).getD 0
theorem sz_some {a b : Nat} (ha : isFin a = true) (hb : isFin b = true) : fb .add (Op.Complex.abs a) (Op.Complex.abs b) = some (sz a b) := by
  obtain ⟨s, e, _⟩ := add_U (U_abs ha).1 (U_abs hb).1
  unfold sz
  rw [e]
  rfl
def sizeR (a b : Nat) : Nat × Int := if isFin a && isFin b then (if isFin (sz a b) then (sz a b, 0) else (0, 3)) else (0, 1)
def partR (a b : Nat) : Nat × Int := if isFin a && isFin b then (lgr (Op.Complex.abs a) (Op.Complex.abs b), 0) else (0, 1)
def fparts (p : Nat × Int) : Value := .tuple #[.float .f64 p.1, .int .i64 p.2]
def conjR (a b : Nat) : Nat × Nat × Int := if isFin a && isFin b then (a, Op.negFloat .f64 b, 0) else (0, 0, 1)
theorem l01Abs_calls (x : Nat) (hx : x < 2 ^ 64) (h : isFin x = true) (w : World) : Calls Try.prog 55 #[.float .f64 x] w fun e w' => e = .returned (.float .f64 (Op.Complex.abs x)) ∧ w' = w := by
  obtain ⟨h1, h2, h3⟩ := abs_cases hx h
  have l := lt_zero h
  have z := eq_zero_iff h
  by_cases c1 : U x < 0
  · rw [decide_eq_true c1] at l
    have e := h1 c1
    clear h1 h2 h3 z
    have E := Aside0.mk e; clear e
    go_enter Try.func55, Try.ntmps55
    go_wp2
    go_ret
    exact ⟨by rw [E.out]; rfl, rfl⟩
  · rw [decide_eq_false c1] at l
    by_cases c2 : U x = 0
    · rw [decide_eq_true c2] at z
      have E := Aside0.mk (h2 c2)
      clear h1 h2 h3
      go_enter Try.func55, Try.ntmps55
      go_wp2
      go_ret
      exact ⟨by rw [E.out]; rfl, rfl⟩
    · rw [decide_eq_false c2] at z
      have E := Aside0.mk (h3 (by omega))
      clear h1 h2 h3
      go_enter Try.func55, Try.ntmps55
      go_wp2
      go_ret
      exact ⟨by rw [E.out]; rfl, rfl⟩
theorem l01Size_calls (a b : Nat) (la : a < 2 ^ 64) (lb : b < 2 ^ 64) (ha : isFin a = true) (hb : isFin b = true) (w : World) : Calls Try.prog 32 #[.complex .f64 a b] w fun e w' => e = .returned (.float .f64 (sz a b)) ∧ ∃ n, w' = w.drewN n := by
  have hf := fr_of' (sz_some ha hb)
  go_enter Try.func32, Try.ntmps32
  go_wp2_with fail
  refine (l01Abs_calls a la ha w).mono ?_
  rintro e w1 ⟨rfl, rfl⟩
  go_wp2_with fail
  refine (l01Abs_calls b lb hb _).mono ?_
  rintro e w1 ⟨rfl, rfl⟩
  go_wp2
  go_ret
  exact ⟨rfl, _, rfl⟩
theorem l01FitFloat_calls (x : Nat) (w : World) : Calls Try.prog 31 #[.float .f64 x] w fun e w' => e = .returned (fparts (if isFin x then (x, 0) else (0, 3))) ∧ ∃ n, w' = w.drewN n := by
  cases hf : isFin x
  all_goals
    go_enter Try.func31, Try.ntmps31
    go_wp2_with fail
    refine (l01Real_calls x w).mono ?_
    rintro e w1 ⟨rfl, n, rfl⟩
    rw [hf]
    go_wp2
    go_ret2
    exact ⟨rfl, _, rfl⟩
theorem specSizeOf_calls (a b : Nat) (la : a < 2 ^ 64) (lb : b < 2 ^ 64) (w : World) : Calls Try.prog 7 #[.complex .f64 a b] w fun e w' => e = .returned (fparts (sizeR a b)) ∧ ∃ n, w' = w.drewN n := by
  unfold sizeR
  cases hf : (isFin a && isFin b)
  · go_enter Try.func7, Try.ntmps7
    go_wp2_with fail
    refine (l01Finite_calls a b w).mono ?_
    rintro e w1 ⟨rfl, n, rfl⟩
    rw [hf]
    go_wp2
    go_ret2
    exact ⟨rfl, _, rfl⟩
  · have h2 := Bool.and_eq_true_iff.1 hf
    rw [if_pos rfl]
    obtain ⟨r, hr⟩ : ∃ r, (if isFin (sz a b) then (sz a b, (0 : Int)) else (0, 3)) = r := ⟨_, rfl⟩
    rw [hr]
    have HR := Aside0.mk hr; clear hr
    obtain ⟨r1, r2⟩ := r
    go_enter Try.func7, Try.ntmps7
    go_wp2_with fail
    refine (l01Finite_calls a b w).mono ?_
    rintro e w1 ⟨rfl, n, rfl⟩
    rw [hf]
    go_wp2_with fail
    refine (l01Size_calls a b la lb h2.1 h2.2 _).mono ?_
    rintro e w1 ⟨rfl, m, rfl⟩
    go_wp2_with fail
    refine (l01FitFloat_calls _ _).mono ?_
    rintro e w1 ⟨rfl, k, rfl⟩
    rw [HR.out]
    unfold fparts
    go_wp2
    go_ret2
    exact ⟨rfl, _, rfl⟩
theorem sizeOf_calls (a b : Nat) (la : a < 2 ^ 64) (lb : b < 2 ^ 64) (w : World) : Calls Try.prog 27 #[.complex .f64 a b] w fun e w' => (∃ v, e = .returned (.float .f64 v) ∧ (isFin a = true → isFin b = true → v = sz a b)) ∧ ∃ n, w' = w.drewN n := by
  go_enter Try.func27, Try.ntmps27
  go_wp2_with fail
  refine (abs_calls a la w).mono ?_
  rintro e w1 ⟨rfl, rfl⟩
  go_wp2_with fail
  refine (abs_calls b lb _).mono ?_
  rintro e w1 ⟨rfl, rfl⟩
  go_wp2
  go_ret
  exact ⟨⟨_, rfl, fun ha hb => fr_of' (sz_some ha hb) _⟩, _, rfl⟩
theorem SizeOf_calls (a b : Nat) (la : a < 2 ^ 64) (lb : b < 2 ^ 64) (w : World) : Calls Try.prog 6 #[.complex .f64 a b] w fun e w' => e = .returned (fparts (sizeR a b)) ∧ ∃ n, w' = w.drewN n := by
  unfold sizeR
  cases hf : (isFin a && isFin b)
  · go_enter Try.func6, Try.ntmps6
    go_wp2_with fail
    refine (sizeOf_calls a b la lb w).mono ?_
    rintro e w1 ⟨⟨v, rfl, hv⟩, n, rfl⟩
    clear hv
    go_wp2_with fail
    refine (isFinite_calls a b _).mono ?_
    rintro e w1 ⟨rfl, m, rfl⟩
    rw [hf]
    go_wp2
    go_ret2
    exact ⟨rfl, _, rfl⟩
  · have h2 := Bool.and_eq_true_iff.1 hf
    rw [if_pos rfl]
    cases hs : isFin (sz a b)
    all_goals
      go_enter Try.func6, Try.ntmps6
      go_wp2_with fail
      refine (sizeOf_calls a b la lb w).mono ?_
      rintro e w1 ⟨⟨v, rfl, hv⟩, n, rfl⟩
      obtain rfl := hv h2.1 h2.2
      clear hv
      go_wp2_with fail
      refine (isFinite_calls a b _).mono ?_
      rintro e w1 ⟨rfl, m, rfl⟩
      rw [hf]
      go_wp2_with fail
      refine (isReal_calls _ _).mono ?_
      rintro e w1 ⟨rfl, k, rfl⟩
      rw [hs]
      go_wp2
      go_ret2
      exact ⟨rfl, _, rfl⟩
theorem l01Larger_calls (a b : Nat) (la : a < 2 ^ 64) (lb : b < 2 ^ 64) (ha : isFin a = true) (hb : isFin b = true) (w : World) : Calls Try.prog 34 #[.complex .f64 a b] w fun e w' => e = .returned (.float .f64 (lgr (Op.Complex.abs a) (Op.Complex.abs b))) ∧ ∃ n, w' = w.drewN n := by
  unfold lgr
  by_cases h : FloatKind.f64.format.order (Op.Complex.abs b) (Op.Complex.abs a) = some .gt
  · rw [if_pos h]
    have hb' : (FloatKind.f64.format.order (Op.Complex.abs b) (Op.Complex.abs a) == some .gt) = true := by simpa using h
    clear h
    go_enter Try.func34, Try.ntmps34
    go_wp2_with fail
    refine (l01Abs_calls a la ha w).mono ?_
    rintro e w1 ⟨rfl, rfl⟩
    go_wp2_with fail
    refine (l01Abs_calls b lb hb _).mono ?_
    rintro e w1 ⟨rfl, rfl⟩
    go_wp2
    go_ret
    exact ⟨rfl, 0, rfl⟩
  · rw [if_neg h]
    have hb' : (FloatKind.f64.format.order (Op.Complex.abs b) (Op.Complex.abs a) == some .gt) = false := by simpa using h
    clear h
    go_enter Try.func34, Try.ntmps34
    go_wp2_with fail
    refine (l01Abs_calls a la ha w).mono ?_
    rintro e w1 ⟨rfl, rfl⟩
    go_wp2_with fail
    refine (l01Abs_calls b lb hb _).mono ?_
    rintro e w1 ⟨rfl, rfl⟩
    go_wp2
    go_ret
    exact ⟨rfl, 0, rfl⟩
theorem specLargerPart_calls (a b : Nat) (la : a < 2 ^ 64) (lb : b < 2 ^ 64) (w : World) : Calls Try.prog 9 #[.complex .f64 a b] w fun e w' => e = .returned (fparts (partR a b)) ∧ ∃ n, w' = w.drewN n := by
  unfold partR
  cases hf : (isFin a && isFin b)
  · go_enter Try.func9, Try.ntmps9
    go_wp2_with fail
    refine (l01Finite_calls a b w).mono ?_
    rintro e w1 ⟨rfl, n, rfl⟩
    rw [hf]
    go_wp2
    go_ret2
    exact ⟨rfl, _, rfl⟩
  · have h2 := Bool.and_eq_true_iff.1 hf
    go_enter Try.func9, Try.ntmps9
    go_wp2_with fail
    refine (l01Finite_calls a b w).mono ?_
    rintro e w1 ⟨rfl, n, rfl⟩
    rw [hf]
    go_wp2_with fail
    refine (l01Larger_calls a b la lb h2.1 h2.2 _).mono ?_
    rintro e w1 ⟨rfl, m, rfl⟩
    go_wp2
    go_ret2
    exact ⟨rfl, _, rfl⟩
theorem max_lgr {a b : Nat} (ha : isFin a = true) (hb : isFin b = true) (h0 : (FloatKind.f64.decode a).neg = false) : Builtin.max2 (.float .f64 a) (.float .f64 b) = pure (.float .f64 (lgr a b)) := by
  unfold Builtin.max2 lgr
  have g := gt_U ha hb
  have g' := gt_U hb ha
  cases ho : FloatKind.f64.format.order a b with
  | none =>
    exfalso
    have : double.order a b = none := ho
    rw [order_U ha hb] at this
    cases this
  | some o =>
    cases o with
    | lt => simp only [ho]; rw [if_pos (g.1.2 (g'.2.1.1 ho))]
    | gt => simp only [ho]; rw [if_neg (fun h => by have := g.1.1 h; have := g'.1.1 ho; omega)]
    | eq => simp only [ho, h0]; rw [if_neg (show ¬ (false = true) from by decide), if_neg (fun h => by have := g.1.1 h; have := g'.2.2.1 ho; omega)]
theorem abs_dec (a : Nat) : (FloatKind.f64.decode (Op.Complex.abs a)).neg = false := by
  have h := (abs_read (b := a)).1
  unfold sg at h
  show (double.read (Op.Complex.abs a)).neg = false
  unfold Format.read
  simp only [sw, h]
  split
  · rfl
  · split
    · rfl
    · split <;> rfl
theorem largerPart_calls (a b : Nat) (la : a < 2 ^ 64) (lb : b < 2 ^ 64) (ha : isFin a = true) (hb : isFin b = true) (w : World) : Calls Try.prog 33 #[.complex .f64 a b] w fun e w' => e = .returned (.float .f64 (lgr (Op.Complex.abs a) (Op.Complex.abs b))) ∧ ∃ n, w' = w.drewN n := by
  have hm := max_lgr (U_abs ha).1 (U_abs hb).1 (abs_dec a)
  go_enter Try.func33, Try.ntmps33
  go_wp2_with fail
  refine (abs_calls a la w).mono ?_
  rintro e w1 ⟨rfl, rfl⟩
  go_wp2_with fail
  refine (abs_calls b lb _).mono ?_
  rintro e w1 ⟨rfl, rfl⟩
  go_wp2
  go_ret
  exact ⟨rfl, 0, rfl⟩
theorem LargerPart_calls (a b : Nat) (la : a < 2 ^ 64) (lb : b < 2 ^ 64) (w : World) : Calls Try.prog 8 #[.complex .f64 a b] w fun e w' => e = .returned (fparts (partR a b)) ∧ ∃ n, w' = w.drewN n := by
  unfold partR
  cases hf : (isFin a && isFin b)
  · go_enter Try.func8, Try.ntmps8
    go_wp2_with fail
    refine (isFinite_calls a b w).mono ?_
    rintro e w1 ⟨rfl, n, rfl⟩
    rw [hf]
    go_wp2
    go_ret2
    exact ⟨rfl, _, rfl⟩
  · have h2 := Bool.and_eq_true_iff.1 hf
    go_enter Try.func8, Try.ntmps8
    go_wp2_with fail
    refine (isFinite_calls a b w).mono ?_
    rintro e w1 ⟨rfl, n, rfl⟩
    rw [hf]
    go_wp2_with fail
    refine (largerPart_calls a b la lb h2.1 h2.2 _).mono ?_
    rintro e w1 ⟨rfl, m, rfl⟩
    go_wp2
    go_ret2
    exact ⟨rfl, _, rfl⟩
theorem ConjugateOf_calls (a b : Nat) (w : World) : Calls Try.prog 13 #[.complex .f64 a b] w fun e w' => e = .returned (parts (conjR a b)) ∧ ∃ n, w' = w.drewN n := by
  unfold conjR
  cases hf : (isFin a && isFin b)
  all_goals
    go_enter Try.func13, Try.ntmps13
    go_wp2_with fail
    refine (isFinite_calls a b w).mono ?_
    rintro e w1 ⟨rfl, n, rfl⟩
    rw [hf]
    go_wp2
    go_ret2
    exact ⟨rfl, _, rfl⟩
end Go.Proofs.Yteefmpcmfkfmnaa
