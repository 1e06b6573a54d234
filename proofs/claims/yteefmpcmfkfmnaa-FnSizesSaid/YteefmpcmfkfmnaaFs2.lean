/- Powers and scaling of wide numbers on both sides, walked. No conditions beyond those of each theorem. -/
import Derived.Test.YteefmpcmfkfmnaaFs1
import Derived.Test.YteefmpcmfkfmnaaP3
import Derived.Deep.LoopGhost
namespace Go.Proofs.Yteefmpcmfkfmnaa
open Go Ieee Go.RowKit Go.Proofs.Yteefmpcmfkfmnaa.Fl Go.Proofs.Yteefmpcmfkfmnaa.Fx Go.Proofs.Yteefmpcmfkfmnaa.P Go.Proofs.YteefmpcmfkfmnaaW.PrintWords Go.Proofs.YteefmpcmfkfmnaaW.PrintLast Go.Proofs.YteefmpcmfkfmnaaW.PrintMore
set_option linter.unusedVariables false
set_option linter.unusedSimpArgs false
attribute [local go_sem] run_add run_sub run_mul run_quo run_cadd run_csub run_neg run_cneg

theorem between_calls (x lo hi : Int) (w : World) : Calls Try.prog 40 #[.int .i64 x, .int .i64 lo, .int .i64 hi] w fun e w' => e = .returned (.bool (decide (lo ≤ x ∧ x ≤ hi))) ∧ ∃ n, w' = w.drewN n := by
  refine (impl_between.calls x lo hi (decide (lo ≤ x ∧ x ≤ hi)) w ?_).mono ?_
  · unfold impl_between.f
    by_cases h : x ≥ lo
    · rw [if_pos h]
      have : lo ≤ x := h
      simp [this]
    · rw [if_neg h]
      have : ¬ lo ≤ x := h
      simp [this]
  · rintro e w' ⟨rfl, m, rfl⟩
    exact ⟨rfl, m, rfl⟩
theorem l01In_calls (x lo hi : Int) (w : World) : Calls Try.prog 41 #[.int .i64 x, .int .i64 lo, .int .i64 hi] w fun e w' => e = .returned (.bool (decide (lo ≤ x ∧ x ≤ hi))) ∧ ∃ n, w' = w.drewN n := by
  refine (spec_l01In.calls x lo hi (decide (lo ≤ x ∧ x ≤ hi)) w ?_).mono ?_
  · unfold spec_l01In.f
    by_cases h : x ≥ lo
    · rw [if_pos h]
      have : lo ≤ x := h
      simp [this]
    · rw [if_neg h]
      have : ¬ lo ≤ x := h
      simp [this]
  · rintro e w' ⟨rfl, m, rfl⟩
    exact ⟨rfl, m, rfl⟩
theorem itO_next {f : Nat → Nat → Nat → Nat → Option Nat × Option Nat} {p q a b n : Nat} {R : Option (Nat × Nat)} (h : itO f p q (List.replicate (n + 1) (a, b)) = R) {r i : Nat} (hr : can r = (f p q a b).1) (hi : can i = (f p q a b).2) :
    (if isFin r && isFin i then itO f r i (List.replicate n (a, b)) else none) = R := by
  rw [List.replicate_succ] at h
  unfold itO at h
  rw [stp_of hr hi] at h
  rw [← h]
  cases (isFin r && isFin i) <;> rfl
set_option maxRecDepth 100000 in
set_option maxHeartbeats 1000000 in
theorem PowerWide_calls (a b : Nat) (k : Int) (w : World) : Calls Try.prog 15 #[.complex .f64 a b, .int .i64 k] w fun e w' => e = .returned (parts (powW a b k)) ∧ ∃ n, w' = w.drewN n := by
  unfold powW
  cases hf : (isFin a && isFin b)
  · go_enter Try.func15, Try.ntmps15
    go_wp2_with fail
    refine (isFinite_calls a b w).mono ?_
    rintro e w1 ⟨rfl, n, rfl⟩
    rw [hf]
    go_wp2
    go_ret2
    exact ⟨rfl, _, rfl⟩
  rw [if_pos rfl]
  by_cases hk : 0 ≤ k ∧ k ≤ 64
  · rw [if_pos hk]
    obtain ⟨R, hR⟩ : ∃ R, itO mulO 4607182418800017408 0 (List.replicate k.toNat (a, b)) = R := ⟨_, rfl⟩
    rw [hR]
    have HR := Aside0.mk hR; clear hR
    have HK := Aside0.mk hk
    have hd := decide_eq_true hk
    clear hk
    go_enter Try.func15, Try.ntmps15
    go_wp2_with fail
    refine (isFinite_calls a b w).mono ?_
    rintro e w1 ⟨rfl, n, rfl⟩
    rw [hf]
    go_wp2_with fail
    refine (between_calls _ _ _ _).mono ?_
    rintro e w1 ⟨rfl, m, rfl⟩
    rw [hd]
    go_wp2_with fail
    go_loopg [6, 16] k.toNat (fun g v u w' => ∃ (r i m : Nat) (j : Int), v = .complex .f64 r i ∧ u = .int .i64 j ∧ Aside0 (0 ≤ j ∧ j + g = k ∧ itO mulO r i (List.replicate g (a, b)) = R) ∧ w' = w.drewN m)
    case atStart => exact ⟨_, _, _, 0, rfl, rfl, ⟨by omega, by have := HK.out; omega, HR.out⟩, rfl⟩
    case round =>
      obtain ⟨r, i, m, j, rfl, rfl, hj, rfl⟩ := hrel
      cases gk with
      | succ d =>
        have hj0 := hj.out
        have hl' : decide (j < k) = true := decide_eq_true (by omega)
        clear hj0
        go_wp2_with fail
        refine (multiply_calls r i a b _).mono ?_
        rintro e w1 ⟨⟨v, rfl, r', i', rfl, hr, hi⟩, n', rfl⟩
        have HN := Aside0.mk (itO_next hj.out.2.2 hr hi)
        clear hr hi
        cases hg : (isFin r' && isFin i')
        · go_wp2_with fail
          refine (isFinite_calls r' i' _).mono ?_
          rintro e w1 ⟨rfl, n'', rfl⟩
          rw [hg]
          have hn := HN.out
          rw [hg] at hn
          have HN2 := Aside0.mk (show none = R from hn)
          clear hn
          go_wp2
          go_ret2
          refine ⟨?_, _, rfl⟩
          rw [← HN2.out]
          rfl
        · go_wp2_with fail
          refine (isFinite_calls r' i' _).mono ?_
          rintro e w1 ⟨rfl, n'', rfl⟩
          rw [hg]
          have hn := HN.out
          rw [hg, if_pos rfl] at hn
          have HN2 := Aside0.mk hn
          clear hn
          go_wp2_with fail
          go_roundg d
          case measure => omega
          case rel =>
            have hkk := HK.out
            have hll := hj.out
            have e : wrap64 (j + 1) = j + 1 := w64 (by omega) (by omega)
            exact ⟨_, _, _, j + 1, rfl, by rw [e], ⟨by omega, by omega, HN2.out⟩, rfl⟩
      | zero =>
        have hj0 := hj.out
        have hl' : decide (j < k) = false := decide_eq_false (by omega)
        have HH := Aside0.mk (show some (r, i) = R from hj0.2.2)
        clear hj0
        go_wp2
        go_ret2
        refine ⟨?_, _, rfl⟩
        rw [← HH.out]
        rfl
  · rw [if_neg hk]
    have hd := decide_eq_false hk
    clear hk
    go_enter Try.func15, Try.ntmps15
    go_wp2_with fail
    refine (isFinite_calls a b w).mono ?_
    rintro e w1 ⟨rfl, n, rfl⟩
    rw [hf]
    go_wp2_with fail
    refine (between_calls _ _ _ _).mono ?_
    rintro e w1 ⟨rfl, m, rfl⟩
    rw [hd]
    go_wp2
    go_ret2
    exact ⟨rfl, _, rfl⟩
set_option maxRecDepth 100000 in
set_option maxHeartbeats 1000000 in
theorem specPowerWide_calls (a b : Nat) (k : Int) (w : World) : Calls Try.prog 16 #[.complex .f64 a b, .int .i64 k] w fun e w' => e = .returned (parts (powW a b k)) ∧ ∃ n, w' = w.drewN n := by
  unfold powW
  cases hf : (isFin a && isFin b)
  · go_enter Try.func16, Try.ntmps16
    go_wp2_with fail
    refine (l01Finite_calls a b w).mono ?_
    rintro e w1 ⟨rfl, n, rfl⟩
    rw [hf]
    go_wp2
    go_ret2
    exact ⟨rfl, _, rfl⟩
  rw [if_pos rfl]
  by_cases hk : 0 ≤ k ∧ k ≤ 64
  · rw [if_pos hk]
    obtain ⟨R, hR⟩ : ∃ R, itO mulO 4607182418800017408 0 (List.replicate k.toNat (a, b)) = R := ⟨_, rfl⟩
    rw [hR]
    have HR := Aside0.mk hR; clear hR
    have HK := Aside0.mk hk
    have hd := decide_eq_true hk
    clear hk
    go_enter Try.func16, Try.ntmps16
    go_wp2_with fail
    refine (l01Finite_calls a b w).mono ?_
    rintro e w1 ⟨rfl, n, rfl⟩
    rw [hf]
    go_wp2_with fail
    refine (l01In_calls _ _ _ _).mono ?_
    rintro e w1 ⟨rfl, m, rfl⟩
    rw [hd]
    go_wp2_with fail
    go_loopg [1, 6] k.toNat (fun g u v w' => ∃ (r i m : Nat) (j : Int), v = .complex .f64 r i ∧ u = .int .i64 j ∧ Aside0 ((g : Int) = j ∧ j ≤ 64 ∧ itO mulO r i (List.replicate g (a, b)) = R) ∧ w' = w.drewN m)
    case atStart => exact ⟨_, _, _, k, rfl, rfl, ⟨by have := HK.out; omega, by have := HK.out; omega, HR.out⟩, rfl⟩
    case round =>
      obtain ⟨r, i, m, j, rfl, rfl, hj, rfl⟩ := hrel
      cases gk with
      | succ d =>
        have hj0 := hj.out
        have hl' : decide (j > 0) = true := decide_eq_true (by omega)
        clear hj0
        go_wp2_with fail
        refine (l01Times_calls r i a b _).mono ?_
        rintro e w1 ⟨⟨v, rfl, r', i', rfl, hr, hi⟩, n', rfl⟩
        have HN := Aside0.mk (itO_next hj.out.2.2 hr hi)
        clear hr hi
        cases hg : (isFin r' && isFin i')
        · go_wp2_with fail
          refine (l01Finite_calls r' i' _).mono ?_
          rintro e w1 ⟨rfl, n'', rfl⟩
          rw [hg]
          have hn := HN.out
          rw [hg] at hn
          have HN2 := Aside0.mk (show none = R from hn)
          clear hn
          go_wp2
          go_ret2
          refine ⟨?_, _, rfl⟩
          rw [← HN2.out]
          rfl
        · go_wp2_with fail
          refine (l01Finite_calls r' i' _).mono ?_
          rintro e w1 ⟨rfl, n'', rfl⟩
          rw [hg]
          have hn := HN.out
          rw [hg, if_pos rfl] at hn
          have HN2 := Aside0.mk hn
          clear hn
          go_wp2_with fail
          go_roundg d
          case measure => omega
          case rel =>
            have hll := hj.out
            have e : wrap64 (j - 1) = j - 1 := w64 (by omega) (by omega)
            exact ⟨_, _, _, j - 1, rfl, by rw [e], ⟨by omega, by omega, HN2.out⟩, rfl⟩
      | zero =>
        have hj0 := hj.out
        have hl' : decide (j > 0) = false := decide_eq_false (by omega)
        have HH := Aside0.mk (show some (r, i) = R from hj0.2.2)
        clear hj0
        go_wp2
        go_ret2
        refine ⟨?_, _, rfl⟩
        rw [← HH.out]
        rfl
  · rw [if_neg hk]
    have hd := decide_eq_false hk
    clear hk
    go_enter Try.func16, Try.ntmps16
    go_wp2_with fail
    refine (l01Finite_calls a b w).mono ?_
    rintro e w1 ⟨rfl, n, rfl⟩
    rw [hf]
    go_wp2_with fail
    refine (l01In_calls _ _ _ _).mono ?_
    rintro e w1 ⟨rfl, m, rfl⟩
    rw [hd]
    go_wp2
    go_ret2
    exact ⟨rfl, _, rfl⟩
theorem two_can : can 4611686018427387904 = some 4611686018427387904 := by decide
theorem half_can : can 4602678819172646912 = some 4602678819172646912 := by decide
theorem rep_dbl {x n : Nat} {o : Option Nat} {R : Option Nat} (h : rep dbl (n + 1) (can x) = R) {y : Nat} {w : World} (hy : y = fr .mul x 4611686018427387904 w) : rep dbl n (can y) = R := by
  rw [hy, can_fr, two_can]
  exact h
set_option maxRecDepth 100000 in
set_option maxHeartbeats 1000000 in
theorem scale_up (a b : Nat) (k : Int) (h0 : 0 ≤ k) (h1 : k ≤ 2200) (w : World) : Calls Try.prog 45 #[.complex .f64 a b, .int .i64 k] w fun e w' => Qt w (Cx (rep dbl k.toNat (can a), rep dbl k.toNat (can b))) e w' := by
  have hneg : decide (k < 0) = false := decide_eq_false (by omega)
  have HK := Aside0.mk (And.intro h0 h1)
  clear h0 h1
  go_enter Try.func45, Try.ntmps45
  go_wp2_with fail
  go_loopg [0, 11] k.toNat (fun g v u w' => ∃ (r i m : Nat) (j : Int), v = .complex .f64 r i ∧ u = .int .i64 j ∧ Aside0 (0 ≤ j ∧ j + g = k ∧ rep dbl g (can r) = rep dbl k.toNat (can a) ∧ rep dbl g (can i) = rep dbl k.toNat (can b)) ∧ w' = w.drewN m)
  case atStart => exact ⟨a, b, 0, 0, rfl, rfl, ⟨by omega, by have := HK.out; omega, rfl, rfl⟩, rfl⟩
  case round =>
    obtain ⟨r, i, m, j, rfl, rfl, hj, rfl⟩ := hrel
    cases gk with
    | succ d =>
      have hj0 := hj.out
      have hl' : decide (j < k) = true := decide_eq_true (by omega)
      clear hj0
      go_wp2_with fail
      go_roundg d
      case measure => omega
      case rel =>
        have hkk := HK.out
        have hll := hj.out
        have e : wrap64 (j + 1) = j + 1 := w64 (by omega) (by omega)
        refine ⟨_, _, _, j + 1, rfl, by rw [e], ⟨by omega, by omega, ?_, ?_⟩, rfl⟩
        · rw [can_fr, two_can]; exact hll.2.2.1
        · rw [can_fr, two_can]; exact hll.2.2.2
    | zero =>
      have hj0 := hj.out
      have hl' : decide (j < k) = false := decide_eq_false (by omega)
      have HH := Aside0.mk hj0.2.2
      clear hj0
      go_wp2
      go_ret
      exact ⟨⟨_, rfl, _, _, rfl, HH.out.1, HH.out.2⟩, _, rfl⟩
set_option maxRecDepth 100000 in
set_option maxHeartbeats 1000000 in
theorem scale_down (a b : Nat) (k : Int) (h0 : k < 0) (h1 : -2200 ≤ k) (w : World) : Calls Try.prog 45 #[.complex .f64 a b, .int .i64 k] w fun e w' => Qt w (Cx (rep hlf (-k).toNat (can a), rep hlf (-k).toNat (can b))) e w' := by
  have hneg : decide (k < 0) = true := decide_eq_true (by omega)
  have e0 : wrap64 (0 - k) = -k := by rw [w64 (by omega) (by omega)]; omega
  have e1 : wrap64 (-k) = -k := w64 (by omega) (by omega)
  have HK := Aside0.mk (And.intro h0 h1)
  clear h0 h1
  go_enter Try.func45, Try.ntmps45
  go_wp2_with fail
  go_loopg [0, 11] (-k).toNat (fun g v u w' => ∃ (r i m : Nat) (j : Int), v = .complex .f64 r i ∧ u = .int .i64 j ∧ Aside0 (0 ≤ j ∧ j + g = -k ∧ rep hlf g (can r) = rep hlf (-k).toNat (can a) ∧ rep hlf g (can i) = rep hlf (-k).toNat (can b)) ∧ w' = w.drewN m)
  case atStart => exact ⟨a, b, 0, 0, rfl, rfl, ⟨by omega, by have := HK.out; omega, rfl, rfl⟩, rfl⟩
  case round =>
    obtain ⟨r, i, m, j, rfl, rfl, hj, rfl⟩ := hrel
    cases gk with
    | succ d =>
      have hj0 := hj.out
      have hl' : decide (j < -k) = true := decide_eq_true (by omega)
      clear hj0
      go_wp2_with fail
      go_roundg d
      case measure => omega
      case rel =>
        have hkk := HK.out
        have hll := hj.out
        have e : wrap64 (j + 1) = j + 1 := w64 (by omega) (by omega)
        refine ⟨_, _, _, j + 1, rfl, by rw [e], ⟨by omega, by omega, ?_, ?_⟩, rfl⟩
        · rw [can_fr, half_can]; exact hll.2.2.1
        · rw [can_fr, half_can]; exact hll.2.2.2
    | zero =>
      have hj0 := hj.out
      have hl' : decide (j < -k) = false := decide_eq_false (by omega)
      have HH := Aside0.mk hj0.2.2
      clear hj0
      go_wp2
      go_ret
      exact ⟨⟨_, rfl, _, _, rfl, HH.out.1, HH.out.2⟩, _, rfl⟩
theorem scale_calls' (a b : Nat) (k : Int) (h0 : -2200 ≤ k) (h1 : k ≤ 2200) (w : World) : Calls Try.prog 45 #[.complex .f64 a b, .int .i64 k] w fun e w' => Qt w (Cx (scK k (can a), scK k (can b))) e w' := by
  unfold scK
  by_cases hk : k < 0
  · rw [if_pos hk, if_pos hk]
    exact scale_down a b k hk h0 w
  · rw [if_neg hk, if_neg hk]
    exact scale_up a b k (by omega) h1 w
end Go.Proofs.Yteefmpcmfkfmnaa
