/- The draws of wide numbers, walked: each answers some number; the source stays a source. -/
import Derived.Test.YteefmpcmfkfmnaaFl4
namespace Go.Proofs.Yteefmpcmfkfmnaa
open Go Go.RowKit Go.Proofs.Yteefmpcmfkfmnaa.Fl Go.Proofs.Yteefmpcmfkfmnaa.P Go.Proofs.YteefmpcmfkfmnaaW.PrintWords Go.Proofs.YteefmpcmfkfmnaaW.PrintLast Go.Proofs.YteefmpcmfkfmnaaW.PrintMore
set_option linter.unusedVariables false
set_option linter.unusedSimpArgs false
attribute [local go_sem] run_add run_sub run_mul run_quo run_cadd run_csub run_neg run_cneg

/-- Some wide number. -/
def Cv (v : Value) : Prop := ∃ a b, v = .complex .f64 a b ∧ a < 2 ^ 64 ∧ b < 2 ^ 64
theorem neg_lt {x : Nat} (h : x < 2 ^ 64) : Op.negFloat .f64 x < 2 ^ 64 := Nat.xor_lt_two_pow h (by decide)
theorem huge_calls (w : World) : Calls Try.prog 58 #[] w fun e w' => Qt w Fv e w' := by
  go_enter Try.func58, Try.ntmps58
  go_wp2
  go_ret
  exact ⟨⟨_, rfl, _, rfl, fr_lt _ _ _ _⟩, _, rfl⟩
set_option maxRecDepth 100000 in
theorem strange_calls {W : World} (w0 w : World) (g : Nat) (h : Src W w0 w g) : Calls Try.prog 52 #[.pointer (some ⟨g, 0, none⟩)] w fun e w' => (∃ v, e = .returned v ∧ Fv v) ∧ Src W w0 w' g := by
  have HS := Aside0.mk h; clear h
  go_enter Try.func52, Try.ntmps52
  go_wp2_with fail
  refine (huge_calls w).mono ?_
  rintro e w1 ⟨⟨v, rfl, b, rfl, hb⟩, n, rfl⟩
  replace HS := Aside0.mk (HS.out.drewN n)
  generalize w.drewN n = w1 at HS ⊢
  go_wp2_with fail
  refine (next_calls w0 w1 g 5 HS.out).mono ?_
  rintro e w2 ⟨r, rfl, hs, hr⟩
  replace HS := Aside0.mk hs; clear hs hr
  by_cases c0 : r = 0
  · have d0 : (r == 0) = true := by simpa using c0
    clear c0
    go_wp2
    go_ret
    exact ⟨⟨_, rfl, _, rfl, hb⟩, HS.out⟩
  · have d0 : (r == 0) = false := by simpa using c0
    by_cases c1 : r = 1
    · have d1 : (r == 1) = true := by simpa using c1
      clear c0 c1
      go_wp2
      go_ret
      exact ⟨⟨_, rfl, _, rfl, neg_lt hb⟩, HS.out⟩
    · have d1 : (r == 1) = false := by simpa using c1
      by_cases c2 : r = 2
      · have d2 : (r == 2) = true := by simpa using c2
        clear c0 c1 c2
        go_wp2
        go_ret
        exact ⟨⟨_, rfl, _, rfl, fr_lt _ _ _ _⟩, HS.out.drewN _⟩
      · have d2 : (r == 2) = false := by simpa using c2
        by_cases c3 : r = 3
        · have d3 : (r == 3) = true := by simpa using c3
          clear c0 c1 c2 c3
          go_wp2
          go_ret
          exact ⟨⟨_, rfl, _, rfl, fr_lt _ _ _ _⟩, HS.out.drewN _⟩
        · have d3 : (r == 3) = false := by simpa using c3
          clear c0 c1 c2 c3
          go_wp2
          go_ret
          exact ⟨⟨_, rfl, _, rfl, by decide⟩, HS.out⟩
theorem foi_lt (n : Int) : floatOfInt .f64 n < 2 ^ 64 := FloatKind.f64.format.write_lt (.number (n < 0) n.natAbs 0)
theorem conv_f (n : Int) (w : World) : (convert 2 26 (.int .i64 n)).run Try.prog w = .ok (.float .f64 (floatOfInt .f64 n)) w := run_convert_int_float w 2 26 .i64 .f64 n (by rw [Try.underlying2]; rfl) Try.underlying26
attribute [local go_sem] conv_f
theorem pick_in {l : List Int} (h : ∀ x ∈ l, In64 x) {r : Int} (hr : r ∈ l) : In64 r := h r hr
set_option maxRecDepth 100000 in
theorem bits_calls {W : World} (w0 w : World) (g : Nat) (h : Src W w0 w g) : Calls Try.prog 61 #[.pointer (some ⟨g, 0, none⟩)] w fun e w' => (∃ v, e = .returned v ∧ Fv v) ∧ Src W w0 w' g := by
  have HS := Aside0.mk h; clear h
  go_enter Try.func61, Try.ntmps61
  go_wp2_with fail
  refine (next_calls w0 w g _ HS.out).mono ?_
  rintro e w1 ⟨r1, rfl, hs, hr⟩
  replace HS := Aside0.mk hs; clear hs hr
  go_wp2_with fail
  refine (next_calls w0 w1 g _ HS.out).mono ?_
  rintro e w2 ⟨r2, rfl, hs, hr⟩
  replace HS := Aside0.mk hs; clear hs hr
  go_wp2_with fail
  refine (next_calls w0 _ g _ (HS.out.drewN _)).mono ?_
  rintro e w3 ⟨r3, rfl, hs, hr⟩
  replace HS := Aside0.mk hs; clear hs hr
  by_cases c : r3 = 0
  · have d : (r3 == 0) = true := by simpa using c
    clear c
    go_wp2_with fail
    refine (next_calls w0 _ g _ HS.out).mono ?_
    rintro e w4 ⟨r4, rfl, hs, hr⟩
    replace HS := Aside0.mk hs; clear hs hr
    go_wp2_with fail
    refine (next_calls w0 _ g _ HS.out).mono ?_
    rintro e w5 ⟨r5, rfl, hs, hr⟩
    replace HS := Aside0.mk hs; clear hs hr
    go_wp2_with fail
    refine (pick_calls w0 w5 g [0, -24, -23, -30, 10, wrap64 (r4 - 40), wrap64 (r5 - 1080), 990, -1060, 102, -149] _ HS.out (by simp) (by simp)).mono ?_
    rintro e w6 ⟨r6, rfl, hs, hr⟩
    replace HS := Aside0.mk hs; clear hs
    have hin : In64 r6 := pick_in (by intro x hx; simp only [List.mem_cons, List.not_mem_nil, or_false] at hx; rcases hx with rfl | rfl | rfl | rfl | rfl | rfl | rfl | rfl | rfl | rfl | rfl <;> first | exact w64in _ | (unfold In64; decide)) hr
    clear hr
    go_wp2_with fail
    refine (scale_calls _ r6 (neg_lt (fr_lt _ _ _ _)) hin w6).mono ?_
    rintro e w7 ⟨⟨v, rfl, b, rfl, hb⟩, n, rfl⟩
    go_wp2
    go_ret
    exact ⟨⟨_, rfl, _, rfl, hb⟩, HS.out.drewN _⟩
  · have d : (r3 == 0) = false := by simpa using c
    clear c
    go_wp2_with fail
    refine (next_calls w0 _ g _ HS.out).mono ?_
    rintro e w4 ⟨r4, rfl, hs, hr⟩
    replace HS := Aside0.mk hs; clear hs hr
    go_wp2_with fail
    refine (next_calls w0 _ g _ HS.out).mono ?_
    rintro e w5 ⟨r5, rfl, hs, hr⟩
    replace HS := Aside0.mk hs; clear hs hr
    go_wp2_with fail
    refine (pick_calls w0 w5 g [0, -24, -23, -30, 10, wrap64 (r4 - 40), wrap64 (r5 - 1080), 990, -1060, 102, -149] _ HS.out (by simp) (by simp)).mono ?_
    rintro e w6 ⟨r6, rfl, hs, hr⟩
    replace HS := Aside0.mk hs; clear hs
    have hin : In64 r6 := pick_in (by intro x hx; simp only [List.mem_cons, List.not_mem_nil, or_false] at hx; rcases hx with rfl | rfl | rfl | rfl | rfl | rfl | rfl | rfl | rfl | rfl | rfl <;> first | exact w64in _ | (unfold In64; decide)) hr
    clear hr
    go_wp2_with fail
    refine (scale_calls _ r6 (fr_lt _ _ _ _) hin w6).mono ?_
    rintro e w7 ⟨⟨v, rfl, b, rfl, hb⟩, n, rfl⟩
    go_wp2
    go_ret
    exact ⟨⟨_, rfl, _, rfl, hb⟩, HS.out.drewN _⟩
end Go.Proofs.Yteefmpcmfkfmnaa
