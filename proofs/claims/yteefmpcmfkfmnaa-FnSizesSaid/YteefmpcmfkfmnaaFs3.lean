/- Scaling of wide numbers on both sides, to the end; rows of wide numbers that are read. No conditions beyond those of each theorem. -/
import Derived.Test.YteefmpcmfkfmnaaFs2
namespace Go.Proofs.Yteefmpcmfkfmnaa
open Go Ieee Go.RowKit Go.Proofs.Yteefmpcmfkfmnaa.Fl Go.Proofs.Yteefmpcmfkfmnaa.Fx Go.Proofs.Yteefmpcmfkfmnaa.P Go.Proofs.YteefmpcmfkfmnaaW.PrintWords Go.Proofs.YteefmpcmfkfmnaaW.PrintLast Go.Proofs.YteefmpcmfkfmnaaW.PrintMore
set_option linter.unusedVariables false
set_option linter.unusedSimpArgs false
attribute [local go_sem] run_add run_sub run_mul run_quo run_cadd run_csub run_neg run_cneg

set_option maxRecDepth 100000 in
set_option maxHeartbeats 1000000 in
theorem sscale_up (x : Nat) (k : Int) (h0 : 0 ≤ k) (h1 : k ≤ 2200) (w : World) : Calls Try.prog 47 #[.float .f64 x, .int .i64 k] w fun e w' => Qt w (fun v => ∃ y, v = .float .f64 y ∧ can y = rep dbl k.toNat (can x)) e w' := by
  obtain ⟨R, hR⟩ : ∃ R, rep dbl k.toNat (can x) = R := ⟨_, rfl⟩
  rw [hR]
  have HR := Aside0.mk hR; clear hR
  have HK := Aside0.mk (And.intro h0 h1)
  clear h0 h1
  go_enter Try.func47, Try.ntmps47
  go_wp2_with fail
  go_loopg [0, 1] k.toNat (fun g v u w' => ∃ (r m : Nat) (j : Int), v = .float .f64 r ∧ u = .int .i64 j ∧ Aside0 ((g : Int) = j ∧ j ≤ 2200 ∧ rep dbl g (can r) = R) ∧ w' = w.drewN m)
  case atStart => exact ⟨x, 0, k, rfl, rfl, ⟨by have := HK.out; omega, by have := HK.out; omega, HR.out⟩, rfl⟩
  case round =>
    obtain ⟨r, m, j, rfl, rfl, hj, rfl⟩ := hrel
    cases gk with
    | succ d =>
      have hj0 := hj.out
      have hl' : decide (j > 0) = true := decide_eq_true (by omega)
      clear hj0
      go_wp2_with fail
      go_roundg d
      case measure => omega
      case rel =>
        have hll := hj.out
        have e : wrap64 (j - 1) = j - 1 := w64 (by omega) (by omega)
        refine ⟨_, _, j - 1, rfl, by rw [e], ⟨by omega, by omega, ?_⟩, rfl⟩
        rw [can_fr, two_can]; exact hll.2.2
    | zero =>
      have hj0 := hj.out
      obtain rfl : j = 0 := by omega
      have HH := Aside0.mk (show can r = R from hj0.2.2)
      clear hj0 hj
      go_wp2_with fail
      go_loopg [0, 1] 0 (fun g v u w' => ∃ (r m : Nat), v = .float .f64 r ∧ u = .int .i64 0 ∧ Aside0 (can r = R) ∧ w' = w.drewN m)
      case atStart => exact ⟨r, _, rfl, rfl, HH, rfl⟩
      case round =>
        obtain ⟨r, m, rfl, rfl, hr, rfl⟩ := hrel
        go_wp2
        go_ret
        exact ⟨⟨_, rfl, _, rfl, hr.out⟩, _, rfl⟩
set_option maxRecDepth 100000 in
set_option maxHeartbeats 1000000 in
theorem sscale_down (x : Nat) (k : Int) (h0 : k < 0) (h1 : -2200 ≤ k) (w : World) : Calls Try.prog 47 #[.float .f64 x, .int .i64 k] w fun e w' => Qt w (fun v => ∃ y, v = .float .f64 y ∧ can y = rep hlq (-k).toNat (can x)) e w' := by
  obtain ⟨R, hR⟩ : ∃ R, rep hlq (-k).toNat (can x) = R := ⟨_, rfl⟩
  rw [hR]
  have hp : decide (k > 0) = false := decide_eq_false (by omega)
  have HR := Aside0.mk hR; clear hR
  have HK := Aside0.mk (And.intro h0 h1)
  clear h0 h1
  go_enter Try.func47, Try.ntmps47
  go_wp2_with fail
  go_loopg [0, 1] 0 (fun g v u w' => v = .float .f64 x ∧ u = .int .i64 k ∧ w' = w.drewN 0)
  case atStart => exact ⟨rfl, rfl, rfl⟩
  case round =>
    obtain ⟨rfl, rfl, rfl⟩ := hrel
    go_wp2_with fail
    go_loopg [0, 1] (-k).toNat (fun g v u w' => ∃ (r m : Nat) (j : Int), v = .float .f64 r ∧ u = .int .i64 j ∧ Aside0 ((g : Int) = -j ∧ -2200 ≤ j ∧ rep hlq g (can r) = R) ∧ w' = w.drewN m)
    case atStart => exact ⟨x, 0, k, rfl, rfl, ⟨by have := HK.out; omega, by have := HK.out; omega, HR.out⟩, rfl⟩
    case round =>
      obtain ⟨r, m, j, rfl, rfl, hj, rfl⟩ := hrel
      cases gk with
      | succ d =>
        have hj0 := hj.out
        have hl' : decide (j < 0) = true := decide_eq_true (by omega)
        clear hj0
        go_wp2_with fail
        go_roundg d
        case measure => omega
        case rel =>
          have hll := hj.out
          have e : wrap64 (j + 1) = j + 1 := w64 (by omega) (by omega)
          refine ⟨_, _, j + 1, rfl, by rw [e], ⟨by omega, by omega, ?_⟩, rfl⟩
          rw [can_fr, two_can]; exact hll.2.2
      | zero =>
        have hj0 := hj.out
        obtain rfl : j = 0 := by omega
        have HH := Aside0.mk (show can r = R from hj0.2.2)
        clear hj0 hj
        go_wp2
        go_ret
        exact ⟨⟨_, rfl, _, rfl, HH.out⟩, _, rfl⟩
theorem sscale_calls (x : Nat) (hx : isN x = false) (k : Int) (h0 : -2200 ≤ k) (h1 : k ≤ 2200) (w : World) : Calls Try.prog 47 #[.float .f64 x, .int .i64 k] w fun e w' => Qt w (fun v => ∃ y, v = .float .f64 y ∧ can y = scK k (can x)) e w' := by
  unfold scK
  by_cases hk : k < 0
  · rw [if_pos hk, rep_hlq _ _ (fun y hy => by rw [← can_some hy]; exact hx)]
    exact sscale_down x k hk h0 w
  · rw [if_neg hk]
    exact sscale_up x k (by omega) h1 w
set_option maxRecDepth 100000 in
theorem ScaleWide_calls (a b : Nat) (k : Int) (w : World) : Calls Try.prog 20 #[.complex .f64 a b, .int .i64 k] w fun e w' => e = .returned (parts (scaleW a b k)) ∧ ∃ n, w' = w.drewN n := by
  unfold scaleW
  cases hf : (isFin a && isFin b)
  · go_enter Try.func20, Try.ntmps20
    go_wp2_with fail
    refine (isFinite_calls a b w).mono ?_
    rintro e w1 ⟨rfl, n, rfl⟩
    rw [hf]
    go_wp2
    go_ret2
    exact ⟨rfl, _, rfl⟩
  rw [if_pos rfl]
  by_cases hk : -2200 ≤ k ∧ k ≤ 2200
  · rw [if_pos hk]
    obtain ⟨r1, r2, r3, hR⟩ : ∃ r1 r2 r3, fitO (scK k (can a)) (scK k (can b)) = (r1, r2, r3) := ⟨_, _, _, rfl⟩
    rw [hR]
    have HR := Aside0.mk hR; clear hR
    have HK := Aside0.mk hk
    have hd := decide_eq_true hk
    clear hk
    go_enter Try.func20, Try.ntmps20
    go_wp2_with fail
    refine (isFinite_calls a b w).mono ?_
    rintro e w1 ⟨rfl, n, rfl⟩
    rw [hf]
    go_wp2_with fail
    refine (between_calls _ _ _ _).mono ?_
    rintro e w1 ⟨rfl, m, rfl⟩
    rw [hd]
    go_wp2_with fail
    refine (scale_calls' a b k HK.out.1 HK.out.2 _).mono ?_
    rintro e w1 ⟨⟨v, rfl, r, i, rfl, hr, hi⟩, n', rfl⟩
    have e2 := (fit_can hr hi).trans HR.out
    clear hr hi
    have E2 := Aside0.mk e2; clear e2
    go_wp2_with fail
    refine (wideOr_calls r i _).mono ?_
    rintro e w1 ⟨rfl, n'', rfl⟩
    rw [E2.out]
    unfold parts
    go_wp2
    go_ret2
    exact ⟨rfl, _, rfl⟩
  · rw [if_neg hk]
    have hd := decide_eq_false hk
    clear hk
    go_enter Try.func20, Try.ntmps20
    go_wp2_with fail
    refine (isFinite_calls a b w).mono ?_
    rintro e w1 ⟨rfl, n, rfl⟩
    rw [hf]
    go_wp2_with fail
    refine (between_calls _ _ _ _).mono ?_
    rintro e w1 ⟨rfl, m, rfl⟩
    rw [hd]
    go_wp2
    go_ret2
    exact ⟨rfl, _, rfl⟩
set_option maxRecDepth 100000 in
theorem specScaleWide_calls (a b : Nat) (k : Int) (w : World) : Calls Try.prog 21 #[.complex .f64 a b, .int .i64 k] w fun e w' => e = .returned (parts (scaleW a b k)) ∧ ∃ n, w' = w.drewN n := by
  unfold scaleW
  cases hf : (isFin a && isFin b)
  · go_enter Try.func21, Try.ntmps21
    go_wp2_with fail
    refine (l01Finite_calls a b w).mono ?_
    rintro e w1 ⟨rfl, n, rfl⟩
    rw [hf]
    go_wp2
    go_ret2
    exact ⟨rfl, _, rfl⟩
  rw [if_pos rfl]
  have h2 := Bool.and_eq_true_iff.1 hf
  by_cases hk : -2200 ≤ k ∧ k ≤ 2200
  · rw [if_pos hk]
    obtain ⟨r1, r2, r3, hR⟩ : ∃ r1 r2 r3, fitO (scK k (can a)) (scK k (can b)) = (r1, r2, r3) := ⟨_, _, _, rfl⟩
    rw [hR]
    have HR := Aside0.mk hR; clear hR
    have HK := Aside0.mk hk
    have hd := decide_eq_true hk
    clear hk
    go_enter Try.func21, Try.ntmps21
    go_wp2_with fail
    refine (l01Finite_calls a b w).mono ?_
    rintro e w1 ⟨rfl, n, rfl⟩
    rw [hf]
    go_wp2_with fail
    refine (l01In_calls _ _ _ _).mono ?_
    rintro e w1 ⟨rfl, m, rfl⟩
    rw [hd]
    go_wp2_with fail
    refine (sscale_calls a (isN_fin h2.1) k HK.out.1 HK.out.2 _).mono ?_
    rintro e w1 ⟨⟨v, rfl, r, rfl, hr⟩, n', rfl⟩
    have HR1 := Aside0.mk hr; clear hr
    go_wp2_with fail
    refine (sscale_calls b (isN_fin h2.2) k HK.out.1 HK.out.2 _).mono ?_
    rintro e w1 ⟨⟨v, rfl, i, rfl, hi⟩, n', rfl⟩
    have E2 := Aside0.mk ((fit_can HR1.out hi).trans HR.out)
    clear hi
    go_wp2_with fail
    refine (l01Fit_calls r i _).mono ?_
    rintro e w1 ⟨rfl, n'', rfl⟩
    rw [E2.out]
    unfold parts
    go_wp2
    go_ret2
    exact ⟨rfl, _, rfl⟩
  · rw [if_neg hk]
    have hd := decide_eq_false hk
    clear hk
    go_enter Try.func21, Try.ntmps21
    go_wp2_with fail
    refine (l01Finite_calls a b w).mono ?_
    rintro e w1 ⟨rfl, n, rfl⟩
    rw [hf]
    go_wp2_with fail
    refine (l01In_calls _ _ _ _).mono ?_
    rintro e w1 ⟨rfl, m, rfl⟩
    rw [hd]
    go_wp2
    go_ret2
    exact ⟨rfl, _, rfl⟩
end Go.Proofs.Yteefmpcmfkfmnaa
