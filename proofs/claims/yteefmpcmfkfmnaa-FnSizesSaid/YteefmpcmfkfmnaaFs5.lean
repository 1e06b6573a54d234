/- Rows of wide numbers that are read: all finite, sums and products, on both sides. No conditions beyond those of each theorem. -/
import Derived.Test.YteefmpcmfkfmnaaFs4
namespace Go.Proofs.Yteefmpcmfkfmnaa
open Go Ieee Go.RowKit Go.Proofs.Yteefmpcmfkfmnaa.Fl Go.Proofs.Yteefmpcmfkfmnaa.Fx Go.Proofs.Yteefmpcmfkfmnaa.P Go.Proofs.YteefmpcmfkfmnaaW.PrintWords Go.Proofs.YteefmpcmfkfmnaaW.PrintLast Go.Proofs.YteefmpcmfkfmnaaW.PrintMore
set_option linter.unusedVariables false
set_option linter.unusedSimpArgs false
attribute [local go_sem] run_add run_sub run_mul run_quo run_cadd run_csub run_neg run_cneg

set_option maxRecDepth 100000 in
set_option maxHeartbeats 2000000 in
theorem fold_multiply (p q : Nat) (A : Option Addr) (c : Nat) (xs : List (Nat × Nat)) (w : World) (hr : cxk.C w A xs.length xs) (hl : xs.length ≤ 1000000000) : Calls Try.prog 43 #[.complex .f64 p q, .slice A xs.length c, .func (.func 37) #[] #[]] w fun e w' => e = .returned (parts (listW mulO p q xs)) ∧ ∃ n, w' = w.drewN n := by
  have HR := Aside0.mk hr; have HL := Aside0.mk hl
  unfold listW
  obtain ⟨N, hN⟩ : ∃ N : Int, (xs.length : Int) = N := ⟨_, rfl⟩
  have HN := Aside0.mk hN
  by_cases hb : 100 < xs.length
  · rw [if_pos hb]
    have hb' : decide (N > 100) = true := decide_eq_true (by omega)
    clear hb hr hl
    go_enter Try.func43, Try.ntmps43
    go_wp2
    go_ret2
    exact ⟨rfl, 0, rfl⟩
  rw [if_neg hb]
  have hb' : decide (N > 100) = false := decide_eq_false (by omega)
  clear hb hr hl
  cases hf : finL xs
  · go_enter Try.func43, Try.ntmps43
    go_wp2_with fail
    refine (areFinite_calls A c xs w HR.out HL.out).mono ?_
    rintro e w1 ⟨rfl, n, rfl⟩
    rw [hf]
    go_wp2
    go_ret2
    exact ⟨rfl, _, rfl⟩
  rw [if_pos rfl]
  obtain ⟨R, hR⟩ : ∃ R, itO mulO p q xs = R := ⟨_, rfl⟩
  rw [hR]
  have HQ := Aside0.mk hR; clear hR
  go_enter Try.func43, Try.ntmps43
  go_wp2_with fail
  refine (areFinite_calls A c xs w HR.out HL.out).mono ?_
  rintro e w1 ⟨rfl, n, rfl⟩
  rw [hf]
  go_wp2_with fail
  go_loopg [0, 20] xs.length (fun g v u w' => ∃ (m r i : Nat) (j : Int) (zs : List (Nat × Nat)), v = .complex .f64 r i ∧ u = .int .i64 j ∧ Aside0 (Stand xs g j zs ∧ itO mulO r i zs = R) ∧ w' = w.drewN m)
  case atStart => exact ⟨_, p, q, 0, xs, rfl, rfl, ⟨Stand.start xs, HQ.out⟩, rfl⟩
  case round =>
    obtain ⟨m, r, i, j, zs, rfl, rfl, hj, rfl⟩ := hrel
    cases gk with
    | succ d =>
      obtain ⟨z, zs', e1, j0, j1, e2, st⟩ := hj.out.1.next
      have hfz := hj.out.2
      rw [e1] at hfz
      have HZ := Aside0.mk (show ((stp mulO r i z.1 z.2).bind fun o => itO mulO o.1 o.2 zs') = R from hfz)
      obtain ⟨ad, rfl, hx⟩ := cx_at HR.out j j0 j1
      rw [e2] at hx
      rw [hN] at j1
      have ST := Aside0.mk st
      have J0 := Aside0.mk (And.intro j0 j1)
      have hl' : decide (j < N) = true := decide_eq_true j1
      have q0 := eq_true j0
      have q1 := eq_true j1
      clear hfz e1 e2 st hj j0 j1
      obtain ⟨z1, z2⟩ := z
      go_wp2_with fail
      refine (multiply_calls r i z1 z2 _).mono ?_
      rintro e w1 ⟨⟨v, rfl, r', i', rfl, hr, hi⟩, n', rfl⟩
      have hz := HZ.out
      rw [stp_of hr hi] at hz
      clear hr hi
      cases hg : (isFin r' && isFin i')
      · rw [hg] at hz
        have HZ2 := Aside0.mk (show none = R from hz)
        clear hz
        go_wp2_with fail
        refine (isFinite_calls r' i' _).mono ?_
        rintro e w1 ⟨rfl, n', rfl⟩
        rw [hg]
        go_wp2
        go_ret2
        refine ⟨?_, _, rfl⟩
        rw [← HZ2.out]
        rfl
      · rw [hg] at hz
        have HZ2 := Aside0.mk (show itO mulO r' i' zs' = R from hz)
        clear hz
        go_wp2_with fail
        refine (isFinite_calls r' i' _).mono ?_
        rintro e w1 ⟨rfl, n', rfl⟩
        rw [hg]
        go_wp2_with fail
        go_roundg d
        case measure => omega
        case rel =>
          have h0 := J0.out
          have h1 := HN.out
          have h2 := HL.out
          have e : wrap64 (j + 1) = j + 1 := w64 (by omega) (by omega)
          exact ⟨_, r', i', j + 1, zs', rfl, by rw [e], ⟨ST.out, HZ2.out⟩, rfl⟩
    | zero =>
      obtain ⟨e1, e2⟩ := hj.out.1.done
      have hz := hj.out.2
      rw [e1] at hz
      rw [hN] at e2
      have HZ := Aside0.mk (show some (r, i) = R from hz)
      have hl' : decide (j < N) = false := decide_eq_false (by omega)
      clear e1 hz hj e2
      go_wp2
      go_ret2
      refine ⟨?_, _, rfl⟩
      rw [← HZ.out]
      rfl
set_option maxRecDepth 100000 in
set_option maxHeartbeats 2000000 in
theorem fold_add (p q : Nat) (A : Option Addr) (c : Nat) (xs : List (Nat × Nat)) (w : World) (hr : cxk.C w A xs.length xs) (hl : xs.length ≤ 1000000000) : Calls Try.prog 43 #[.complex .f64 p q, .slice A xs.length c, .func (.func 49) #[] #[]] w fun e w' => e = .returned (parts (listW addO p q xs)) ∧ ∃ n, w' = w.drewN n := by
  have HR := Aside0.mk hr; have HL := Aside0.mk hl
  unfold listW
  obtain ⟨N, hN⟩ : ∃ N : Int, (xs.length : Int) = N := ⟨_, rfl⟩
  have HN := Aside0.mk hN
  by_cases hb : 100 < xs.length
  · rw [if_pos hb]
    have hb' : decide (N > 100) = true := decide_eq_true (by omega)
    clear hb hr hl
    go_enter Try.func43, Try.ntmps43
    go_wp2
    go_ret2
    exact ⟨rfl, 0, rfl⟩
  rw [if_neg hb]
  have hb' : decide (N > 100) = false := decide_eq_false (by omega)
  clear hb hr hl
  cases hf : finL xs
  · go_enter Try.func43, Try.ntmps43
    go_wp2_with fail
    refine (areFinite_calls A c xs w HR.out HL.out).mono ?_
    rintro e w1 ⟨rfl, n, rfl⟩
    rw [hf]
    go_wp2
    go_ret2
    exact ⟨rfl, _, rfl⟩
  rw [if_pos rfl]
  obtain ⟨R, hR⟩ : ∃ R, itO addO p q xs = R := ⟨_, rfl⟩
  rw [hR]
  have HQ := Aside0.mk hR; clear hR
  go_enter Try.func43, Try.ntmps43
  go_wp2_with fail
  refine (areFinite_calls A c xs w HR.out HL.out).mono ?_
  rintro e w1 ⟨rfl, n, rfl⟩
  rw [hf]
  go_wp2_with fail
  go_loopg [0, 20] xs.length (fun g v u w' => ∃ (m r i : Nat) (j : Int) (zs : List (Nat × Nat)), v = .complex .f64 r i ∧ u = .int .i64 j ∧ Aside0 (Stand xs g j zs ∧ itO addO r i zs = R) ∧ w' = w.drewN m)
  case atStart => exact ⟨_, p, q, 0, xs, rfl, rfl, ⟨Stand.start xs, HQ.out⟩, rfl⟩
  case round =>
    obtain ⟨m, r, i, j, zs, rfl, rfl, hj, rfl⟩ := hrel
    cases gk with
    | succ d =>
      obtain ⟨z, zs', e1, j0, j1, e2, st⟩ := hj.out.1.next
      have hfz := hj.out.2
      rw [e1] at hfz
      have HZ := Aside0.mk (show ((stp addO r i z.1 z.2).bind fun o => itO addO o.1 o.2 zs') = R from hfz)
      obtain ⟨ad, rfl, hx⟩ := cx_at HR.out j j0 j1
      rw [e2] at hx
      rw [hN] at j1
      have ST := Aside0.mk st
      have J0 := Aside0.mk (And.intro j0 j1)
      have hl' : decide (j < N) = true := decide_eq_true j1
      have q0 := eq_true j0
      have q1 := eq_true j1
      clear hfz e1 e2 st hj j0 j1
      obtain ⟨z1, z2⟩ := z
      go_wp2_with fail
      refine (add_calls r i z1 z2 _).mono ?_
      rintro e w1 ⟨⟨v, rfl, r', i', rfl, hr, hi⟩, n', rfl⟩
      have hz := HZ.out
      rw [stp_of hr hi] at hz
      clear hr hi
      cases hg : (isFin r' && isFin i')
      · rw [hg] at hz
        have HZ2 := Aside0.mk (show none = R from hz)
        clear hz
        go_wp2_with fail
        refine (isFinite_calls r' i' _).mono ?_
        rintro e w1 ⟨rfl, n', rfl⟩
        rw [hg]
        go_wp2
        go_ret2
        refine ⟨?_, _, rfl⟩
        rw [← HZ2.out]
        rfl
      · rw [hg] at hz
        have HZ2 := Aside0.mk (show itO addO r' i' zs' = R from hz)
        clear hz
        go_wp2_with fail
        refine (isFinite_calls r' i' _).mono ?_
        rintro e w1 ⟨rfl, n', rfl⟩
        rw [hg]
        go_wp2_with fail
        go_roundg d
        case measure => omega
        case rel =>
          have h0 := J0.out
          have h1 := HN.out
          have h2 := HL.out
          have e : wrap64 (j + 1) = j + 1 := w64 (by omega) (by omega)
          exact ⟨_, r', i', j + 1, zs', rfl, by rw [e], ⟨ST.out, HZ2.out⟩, rfl⟩
    | zero =>
      obtain ⟨e1, e2⟩ := hj.out.1.done
      have hz := hj.out.2
      rw [e1] at hz
      rw [hN] at e2
      have HZ := Aside0.mk (show some (r, i) = R from hz)
      have hl' : decide (j < N) = false := decide_eq_false (by omega)
      clear e1 hz hj e2
      go_wp2
      go_ret2
      refine ⟨?_, _, rfl⟩
      rw [← HZ.out]
      rfl
theorem ProductOfList_calls (A : Option Addr) (c : Nat) (xs : List (Nat × Nat)) (w : World) (hr : cxk.C w A xs.length xs) (hl : xs.length ≤ 1000000000) : Calls Try.prog 18 #[.slice A xs.length c] w fun e w' => e = .returned (parts (listW mulO 4607182418800017408 0 xs)) ∧ ∃ n, w' = w.drewN n := by
  obtain ⟨r1, r2, r3, hR⟩ : ∃ r1 r2 r3, listW mulO 4607182418800017408 0 xs = (r1, r2, r3) := ⟨_, _, _, rfl⟩
  rw [hR]
  have HQ := Aside0.mk hR; clear hR
  have HR := Aside0.mk hr; have HL := Aside0.mk hl; clear hr hl
  go_enter Try.func18, Try.ntmps18
  go_wp2_with fail
  refine (fold_multiply 4607182418800017408 0 A c xs w HR.out HL.out).mono ?_
  rintro e w1 ⟨rfl, n, rfl⟩
  rw [HQ.out]
  unfold parts
  go_wp2
  go_ret2
  exact ⟨rfl, _, rfl⟩
theorem SumOfList_calls (A : Option Addr) (c : Nat) (xs : List (Nat × Nat)) (w : World) (hr : cxk.C w A xs.length xs) (hl : xs.length ≤ 1000000000) : Calls Try.prog 23 #[.slice A xs.length c] w fun e w' => e = .returned (parts (listW addO 0 0 xs)) ∧ ∃ n, w' = w.drewN n := by
  obtain ⟨r1, r2, r3, hR⟩ : ∃ r1 r2 r3, listW addO 0 0 xs = (r1, r2, r3) := ⟨_, _, _, rfl⟩
  rw [hR]
  have HQ := Aside0.mk hR; clear hR
  have HR := Aside0.mk hr; have HL := Aside0.mk hl; clear hr hl
  go_enter Try.func23, Try.ntmps23
  go_wp2_with fail
  refine (fold_add 0 0 A c xs w HR.out HL.out).mono ?_
  rintro e w1 ⟨rfl, n, rfl⟩
  rw [HQ.out]
  unfold parts
  go_wp2
  go_ret2
  exact ⟨rfl, _, rfl⟩
set_option maxRecDepth 100000 in
set_option maxHeartbeats 1000000 in
theorem l01List_calls (A : Option Addr) (c : Nat) (xs : List (Nat × Nat)) (w : World) (hr : cxk.C w A xs.length xs) (hl : xs.length ≤ 1000000000) : Calls Try.prog 50 #[.slice A xs.length c] w fun e w' => e = .returned (.int .i64 (if 100 < xs.length then 2 else if finL xs then 0 else 1)) ∧ ∃ n, w' = w.drewN n := by
  have HR := Aside0.mk hr; have HL := Aside0.mk hl
  obtain ⟨N, hN⟩ : ∃ N : Int, (xs.length : Int) = N := ⟨_, rfl⟩
  have HN := Aside0.mk hN
  by_cases hb : 100 < xs.length
  · rw [if_pos hb]
    have hb' : decide (N > 100) = true := decide_eq_true (by omega)
    clear hb hr hl
    go_enter Try.func50, Try.ntmps50
    go_wp2
    go_ret
    exact ⟨rfl, 0, rfl⟩
  rw [if_neg hb]
  have hb' : decide (N > 100) = false := decide_eq_false (by omega)
  clear hb hr hl
  obtain ⟨R, hR⟩ : ∃ R : Int, (if finL xs then (0 : Int) else 1) = R := ⟨_, rfl⟩
  rw [hR]
  have HQ := Aside0.mk hR; clear hR
  go_enter Try.func50, Try.ntmps50
  go_wp2_with fail
  go_loopg [3] xs.length (fun g u w' => ∃ (m : Nat) (j : Int) (zs : List (Nat × Nat)), u = .int .i64 j ∧ Aside0 (Stand xs g j zs ∧ (if finL zs then (0 : Int) else 1) = R) ∧ w' = w.drewN m)
  case atStart => exact ⟨0, 0, xs, rfl, ⟨Stand.start xs, HQ.out⟩, rfl⟩
  case round =>
    obtain ⟨m, j, zs, rfl, hj, rfl⟩ := hrel
    cases gk with
    | succ d =>
      obtain ⟨z, zs', e1, j0, j1, e2, st⟩ := hj.out.1.next
      have hfz := hj.out.2
      rw [e1] at hfz
      have HZ := Aside0.mk (show (if (isFin z.1 && isFin z.2 && finL zs') then (0 : Int) else 1) = R from hfz)
      obtain ⟨ad, rfl, hx⟩ := cx_at HR.out j j0 j1
      rw [e2] at hx
      rw [hN] at j1
      have ST := Aside0.mk st
      have J0 := Aside0.mk (And.intro j0 j1)
      have hl' : decide (j < N) = true := decide_eq_true j1
      have q0 := eq_true j0
      have q1 := eq_true j1
      clear hfz e1 e2 st hj j0 j1
      obtain ⟨z1, z2⟩ := z
      cases hg : (isFin z1 && isFin z2)
      · go_wp2_with fail
        refine (l01Finite_calls z1 z2 _).mono ?_
        rintro e w1 ⟨rfl, n', rfl⟩
        rw [hg]
        have hz := HZ.out
        simp only [hg, Bool.false_and] at hz
        have HZ2 := Aside0.mk (show (1 : Int) = R from hz)
        clear hz
        go_wp2
        go_ret
        exact ⟨by rw [← HZ2.out]; rfl, _, rfl⟩
      · go_wp2_with fail
        refine (l01Finite_calls z1 z2 _).mono ?_
        rintro e w1 ⟨rfl, n', rfl⟩
        rw [hg]
        have hz := HZ.out
        simp only [hg, Bool.true_and] at hz
        have HZ2 := Aside0.mk hz
        clear hz
        go_wp2_with fail
        go_roundg d
        case measure => omega
        case rel =>
          have h0 := J0.out
          have h1 := HN.out
          have h2 := HL.out
          have e : wrap64 (j + 1) = j + 1 := w64 (by omega) (by omega)
          exact ⟨_, j + 1, zs', by rw [e], ⟨ST.out, HZ2.out⟩, rfl⟩
    | zero =>
      obtain ⟨e1, e2⟩ := hj.out.1.done
      have hz := hj.out.2
      rw [e1] at hz
      rw [hN] at e2
      have HZ := Aside0.mk (show (0 : Int) = R from hz)
      have hl' : decide (j < N) = false := decide_eq_false (by omega)
      clear e1 hz hj e2
      go_wp2
      go_ret
      exact ⟨by rw [← HZ.out]; rfl, _, rfl⟩
set_option maxRecDepth 100000 in
set_option maxHeartbeats 2000000 in
theorem specSumOfList_calls (A : Option Addr) (c : Nat) (xs : List (Nat × Nat)) (w : World) (hr : cxk.C w A xs.length xs) (hl : xs.length ≤ 1000000000) : Calls Try.prog 24 #[.slice A xs.length c] w fun e w' => e = .returned (parts (listW addO 0 0 xs)) ∧ ∃ n, w' = w.drewN n := by
  have HR := Aside0.mk hr; have HL := Aside0.mk hl
  unfold listW
  obtain ⟨N, hN⟩ : ∃ N : Int, (xs.length : Int) = N := ⟨_, rfl⟩
  have HN := Aside0.mk hN
  by_cases hb : 100 < xs.length
  · rw [if_pos hb]
    have HB := Aside0.mk hb
    clear hb hr hl
    go_enter Try.func24, Try.ntmps24
    go_wp2_with fail
    refine (l01List_calls A c xs w HR.out HL.out).mono ?_
    rintro e w1 ⟨rfl, n, rfl⟩
    rw [if_pos HB.out]
    go_wp2
    go_ret2
    exact ⟨rfl, _, rfl⟩
  rw [if_neg hb]
  have HB := Aside0.mk hb
  clear hb hr hl
  cases hf : finL xs
  · go_enter Try.func24, Try.ntmps24
    go_wp2_with fail
    refine (l01List_calls A c xs w HR.out HL.out).mono ?_
    rintro e w1 ⟨rfl, n, rfl⟩
    rw [if_neg HB.out, hf, if_neg (by decide)]
    go_wp2
    go_ret2
    exact ⟨rfl, _, rfl⟩
  rw [if_pos rfl]
  obtain ⟨R, hR⟩ : ∃ R, itO addO 0 0 xs = R := ⟨_, rfl⟩
  rw [hR]
  have HQ := Aside0.mk hR; clear hR
  go_enter Try.func24, Try.ntmps24
  go_wp2_with fail
  refine (l01List_calls A c xs w HR.out HL.out).mono ?_
  rintro e w1 ⟨rfl, n, rfl⟩
  rw [if_neg HB.out, hf, if_pos rfl]
  go_wp2_with fail
  go_loopg [5, 6] xs.length (fun g v u w' => ∃ (m r i : Nat) (j : Int) (zs : List (Nat × Nat)), v = .complex .f64 r i ∧ u = .int .i64 j ∧ Aside0 (Stand xs g j zs ∧ itO addO r i zs = R) ∧ w' = w.drewN m)
  case atStart => exact ⟨_, 0, 0, 0, xs, rfl, rfl, ⟨Stand.start xs, HQ.out⟩, rfl⟩
  case round =>
    obtain ⟨m, r, i, j, zs, rfl, rfl, hj, rfl⟩ := hrel
    cases gk with
    | succ d =>
      obtain ⟨z, zs', e1, j0, j1, e2, st⟩ := hj.out.1.next
      have hfz := hj.out.2
      rw [e1] at hfz
      have HZ := Aside0.mk (show ((stp addO r i z.1 z.2).bind fun o => itO addO o.1 o.2 zs') = R from hfz)
      obtain ⟨ad, rfl, hx⟩ := cx_at HR.out j j0 j1
      rw [e2] at hx
      rw [hN] at j1
      have ST := Aside0.mk st
      have J0 := Aside0.mk (And.intro j0 j1)
      have hl' : decide (j < N) = true := decide_eq_true j1
      have q0 := eq_true j0
      have q1 := eq_true j1
      clear hfz e1 e2 st hj j0 j1
      obtain ⟨z1, z2⟩ := z
      go_wp2_with fail
      have hz := HZ.out
      rw [stp_of (r := fr .add r z1 (w.drewN m)) (i := fr .add i z2 ((w.drewN m).drewN (fn .add r z1))) (can_fr _ _ _ _) (can_fr _ _ _ _)] at hz
      have hw : (w.drewN m).drewN (fn .add r z1) = w.drewN (m + fn .add r z1) := World.drewN_drewN _ _ _
      rw [hw] at hz
      generalize fr .add r z1 (w.drewN m) = r' at hz ⊢
      generalize fr .add i z2 (w.drewN (m + fn .add r z1)) = i' at hz ⊢
      cases hg : (isFin r' && isFin i')
      · rw [hg] at hz
        have HZ2 := Aside0.mk (show none = R from hz)
        clear hz
        refine (l01Finite_calls r' i' _).mono ?_
        rintro e w1 ⟨rfl, n', rfl⟩
        rw [hg]
        go_wp2
        go_ret2
        refine ⟨?_, _, rfl⟩
        rw [← HZ2.out]
        rfl
      · rw [hg] at hz
        have HZ2 := Aside0.mk (show itO addO r' i' zs' = R from hz)
        clear hz
        refine (l01Finite_calls r' i' _).mono ?_
        rintro e w1 ⟨rfl, n', rfl⟩
        rw [hg]
        go_wp2_with fail
        go_roundg d
        case measure => omega
        case rel =>
          have h0 := J0.out
          have h1 := HN.out
          have h2 := HL.out
          have e : wrap64 (j + 1) = j + 1 := w64 (by omega) (by omega)
          exact ⟨_, r', i', j + 1, zs', rfl, by rw [e], ⟨ST.out, HZ2.out⟩, rfl⟩
    | zero =>
      obtain ⟨e1, e2⟩ := hj.out.1.done
      have hz := hj.out.2
      rw [e1] at hz
      rw [hN] at e2
      have HZ := Aside0.mk (show some (r, i) = R from hz)
      have hl' : decide (j < N) = false := decide_eq_false (by omega)
      clear e1 hz hj e2
      go_wp2
      go_ret2
      refine ⟨?_, _, rfl⟩
      rw [← HZ.out]
      rfl
end Go.Proofs.Yteefmpcmfkfmnaa
