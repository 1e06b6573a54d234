/- Draws of wide numbers with a number, and of rows of wide numbers, walked: each answers some such value. No conditions beyond those of each theorem. -/
import Derived.Test.YteefmpcmfkfmnaaFs5
namespace Go.Proofs.Yteefmpcmfkfmnaa
open Go Ieee Go.RowKit Go.Proofs.Yteefmpcmfkfmnaa.Fl Go.Proofs.Yteefmpcmfkfmnaa.Fx Go.Proofs.Yteefmpcmfkfmnaa.P Go.Proofs.YteefmpcmfkfmnaaW.PrintWords Go.Proofs.YteefmpcmfkfmnaaW.PrintLast Go.Proofs.YteefmpcmfkfmnaaW.PrintMore
set_option linter.unusedVariables false
set_option linter.unusedSimpArgs false
attribute [local go_sem] run_add run_sub run_mul run_quo run_cadd run_csub run_neg run_cneg conv_f

theorem drawSizeOf_calls (w : World) (A : Option Addr) (c : Nat) (l : List Int) (h : Code8 w A c l) : Calls Try.prog 5 #[.slice A l.length c] w fun e w' => (∃ v, e = .returned v ∧ Cv v) ∧ Below w.heap.size w w' := by
  go_enter Try.func5, Try.ntmps5
  go_wp2_with fail
  refine (from_calls w A c l h).mono ?_
  rintro e w1 ⟨g, rfl, hs⟩
  have HS := Aside0.mk hs; clear hs
  go_wp2_with fail
  refine (spoil_calls w _ g HS.out).mono ?_
  rintro e w2 ⟨⟨v, rfl, a, b, rfl, ha, hb⟩, hs⟩
  replace HS := Aside0.mk hs; clear hs
  go_wp2
  go_ret
  exact ⟨⟨_, rfl, _, _, rfl, ha, hb⟩, HS.out.low⟩
def Cvi (v : Value) : Prop := ∃ a b k, v = .tuple #[.complex .f64 a b, .int .i64 k] ∧ a < 2 ^ 64 ∧ b < 2 ^ 64
theorem count_calls {W : World} (w0 w : World) (g : Nat) (n : Int) (h : Src W w0 w g) : Calls Try.prog 39 #[.pointer (some ⟨g, 0, none⟩), .int .i64 n] w fun e w' => (∃ r, e = .returned (.int .i64 r)) ∧ Src W w0 w' g := by
  have HS := Aside0.mk h; clear h
  go_enter Try.func39, Try.ntmps39
  go_wp2_with fail
  refine (next_calls w0 _ g _ HS.out).mono ?_
  rintro e w1 ⟨r, rfl, hs, hr⟩
  replace HS := Aside0.mk hs; clear hs hr
  by_cases c : r = 0
  · have d : (r == 0) = true := by simpa using c
    clear c
    go_wp2_with fail
    refine (pick_calls w0 _ g [-1, wrap64 (n + 1), 1099511627776, -4611686018427387904] _ HS.out (by simp) (by simp)).mono ?_
    rintro e w2 ⟨q, rfl, hs, hr⟩
    replace HS := Aside0.mk hs; clear hs hr
    go_wp2
    go_ret
    exact ⟨⟨_, rfl⟩, HS.out⟩
  · have d : (r == 0) = false := by simpa using c
    clear c
    go_wp2_with fail
    refine (next_calls w0 _ g _ HS.out).mono ?_
    rintro e w2 ⟨q, rfl, hs, hr⟩
    replace HS := Aside0.mk hs; clear hs hr
    go_wp2
    go_ret
    exact ⟨⟨_, rfl⟩, HS.out⟩
theorem drawPower_calls (w : World) (A : Option Addr) (c : Nat) (l : List Int) (h : Code8 w A c l) : Calls Try.prog 14 #[.slice A l.length c] w fun e w' => (∃ v, e = .returned v ∧ Cvi v) ∧ Below w.heap.size w w' := by
  go_enter Try.func14, Try.ntmps14
  go_wp2_with fail
  refine (from_calls w A c l h).mono ?_
  rintro e w1 ⟨g, rfl, hs⟩
  have HS := Aside0.mk hs; clear hs
  go_wp2_with fail
  refine (spoil_calls w _ g HS.out).mono ?_
  rintro e w2 ⟨⟨v, rfl, a, b, rfl, ha, hb⟩, hs⟩
  replace HS := Aside0.mk hs; clear hs
  go_wp2_with fail
  refine (count_calls w _ g _ HS.out).mono ?_
  rintro e w3 ⟨⟨r1, rfl⟩, hs⟩
  replace HS := Aside0.mk hs; clear hs
  go_wp2_with fail
  refine (count_calls w _ g _ HS.out).mono ?_
  rintro e w4 ⟨⟨r2, rfl⟩, hs⟩
  replace HS := Aside0.mk hs; clear hs
  go_wp2_with fail
  refine (pick_calls w _ g [r1, r2] _ HS.out (by simp) (by simp)).mono ?_
  rintro e w5 ⟨q, rfl, hs, hr⟩
  replace HS := Aside0.mk hs; clear hs hr
  go_wp2
  go_ret2
  exact ⟨⟨_, rfl, _, _, _, rfl, ha, hb⟩, HS.out.low⟩
theorem drawScale_calls (w : World) (A : Option Addr) (c : Nat) (l : List Int) (h : Code8 w A c l) : Calls Try.prog 19 #[.slice A l.length c] w fun e w' => (∃ v, e = .returned v ∧ Cvi v) ∧ Below w.heap.size w w' := by
  go_enter Try.func19, Try.ntmps19
  go_wp2_with fail
  refine (from_calls w A c l h).mono ?_
  rintro e w1 ⟨g, rfl, hs⟩
  have HS := Aside0.mk hs; clear hs
  go_wp2_with fail
  refine (spoil_calls w _ g HS.out).mono ?_
  rintro e w2 ⟨⟨v, rfl, a, b, rfl, ha, hb⟩, hs⟩
  replace HS := Aside0.mk hs; clear hs
  go_wp2_with fail
  refine (next_calls w _ g _ HS.out).mono ?_
  rintro e w3 ⟨r1, rfl, hs, hr⟩
  replace HS := Aside0.mk hs; clear hs hr
  go_wp2_with fail
  refine (next_calls w _ g _ HS.out).mono ?_
  rintro e w4 ⟨r2, rfl, hs, hr⟩
  replace HS := Aside0.mk hs; clear hs hr
  go_wp2_with fail
  refine (next_calls w _ g _ HS.out).mono ?_
  rintro e w5 ⟨r3, rfl, hs, hr⟩
  replace HS := Aside0.mk hs; clear hs hr
  go_wp2_with fail
  refine (pick_calls w _ g [wrap64 (r1 - 10), wrap64 (r2 - 2200), wrap64 (r3 - 1100), 2201, -2201] _ HS.out (by simp) (by simp)).mono ?_
  rintro e w6 ⟨q, rfl, hs, hr⟩
  replace HS := Aside0.mk hs; clear hs hr
  go_wp2
  go_ret2
  exact ⟨⟨_, rfl, _, _, _, rfl, ha, hb⟩, HS.out.low⟩
/-- A row of wide numbers of the call's own, apart from the source's box. -/
theorem cx_empty (w : World) (base : Nat) (ok : Nat → Prop) (hb : base ≤ w.heap.size) (hok : ok w.heap.size) : cxk.R 24 (w.alloc (.cells #[] 24)) base ok (.slice (some ⟨w.heap.size, 0, none⟩) 0 0) [] := by
  have h := World.ownsRow_lit (base := base) (e := 24) (size := 1) w #[] 0 hb (by unfold maxLen; omega) (by simp)
  exact Kd.R_of_own (by simpa [encs] using h) (fun k hk => by cases hk; exact hok)
theorem Src.grown {W w0 w w1 : World} {g : Nat} {row : Option Nat} (h : Src W w0 w g) (hg : w.grownBy w1 row) (hne : some g ≠ row) (hb : Below w0.heap.size w0 w1) : Src w1 w0 w1 g := by
  obtain ⟨l, a, k, h1, h2, h3, h4, h5, h6⟩ := h
  exact ⟨l, a, k, h1.grown hg hne, h2, h3, h4, hb, KeepBut.refl _ _ _⟩
theorem info_cx : (Try.prog.info? 24).map (fun i => (i.zero, i.size, i.bytes)) = some (some (.complex .f64 0 0), 1, 16) := by kernel_rfl
end Go.Proofs.Yteefmpcmfkfmnaa
