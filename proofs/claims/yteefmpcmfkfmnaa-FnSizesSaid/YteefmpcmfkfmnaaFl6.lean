/- The draws of wide numbers, walked: each answers some number; the source stays a source. Printed by genfl.py. -/
import Derived.Test.YteefmpcmfkfmnaaFl5
namespace Go.Proofs.Yteefmpcmfkfmnaa
open Go Go.RowKit Go.Proofs.Yteefmpcmfkfmnaa.Fl Go.Proofs.Yteefmpcmfkfmnaa.P Go.Proofs.YteefmpcmfkfmnaaW.PrintWords Go.Proofs.YteefmpcmfkfmnaaW.PrintLast Go.Proofs.YteefmpcmfkfmnaaW.PrintMore
set_option linter.unusedVariables false
set_option linter.unusedSimpArgs false
attribute [local go_sem] run_add run_sub run_mul run_quo run_cadd run_csub run_neg run_cneg conv_f
set_option maxRecDepth 100000 in
set_option maxHeartbeats 1000000 in
theorem float_calls {W : World} (w0 w : World) (g : Nat) (h : Src W w0 w g) : Calls Try.prog 57 #[.pointer (some ⟨g, 0, none⟩)] w fun e w' => (∃ v, e = .returned v ∧ Fv v) ∧ Src W w0 w' g := by
  have HS := Aside0.mk h; clear h
  go_enter Try.func57, Try.ntmps57
  go_wp2_with fail
  refine (next_calls w0 _ g _ HS.out).mono ?_
  rintro e w_r ⟨r, rfl, hs, hr⟩
  replace HS := Aside0.mk hs; clear hs hr
  by_cases cr0 : r = 0
  · have dr0 : (r == 0) = true := by simpa using cr0
    clear cr0
    go_wp2_with fail
    refine (next_calls w0 _ g _ HS.out).mono ?_
    rintro e w_q ⟨q, rfl, hs, hr⟩
    replace HS := Aside0.mk hs; clear hs hr
    go_wp2
    go_ret
    exact ⟨⟨_, rfl, _, rfl, foi_lt _⟩, HS.out⟩
  · have dr0 : (r == 0) = false := by simpa using cr0
    clear cr0
    by_cases cr1 : r = 1
    · have dr1 : (r == 1) = true := by simpa using cr1
      clear cr1
      go_wp2_with fail
      refine (next_calls w0 _ g _ HS.out).mono ?_
      rintro e w_q ⟨q, rfl, hs, hr⟩
      replace HS := Aside0.mk hs; clear hs hr
      go_wp2
      go_ret
      exact ⟨⟨_, rfl, _, rfl, foi_lt _⟩, HS.out⟩
    · have dr1 : (r == 1) = false := by simpa using cr1
      clear cr1
      by_cases cr2 : r = 2
      · have dr2 : (r == 2) = true := by simpa using cr2
        clear cr2
        go_wp2_with fail
        refine (next_calls w0 _ g _ HS.out).mono ?_
        rintro e w_q ⟨q, rfl, hs, hr⟩
        replace HS := Aside0.mk hs; clear hs hr
        go_wp2
        go_ret
        exact ⟨⟨_, rfl, _, rfl, foi_lt _⟩, HS.out⟩
      · have dr2 : (r == 2) = false := by simpa using cr2
        clear cr2
        by_cases cr3 : r = 3
        · have dr3 : (r == 3) = true := by simpa using cr3
          clear cr3
          go_wp2_with fail
          refine (next_calls w0 _ g _ HS.out).mono ?_
          rintro e w_q ⟨q, rfl, hs, hr⟩
          replace HS := Aside0.mk hs; clear hs hr
          go_wp2_with fail
          refine (pick_calls w0 _ g [2, 4, 8, 16, 3, 10] _ HS.out (by simp) (by simp)).mono ?_
          rintro e w_u ⟨u, rfl, hs, hr⟩
          replace HS := Aside0.mk hs; clear hs hr
          go_wp2
          go_ret
          exact ⟨⟨_, rfl, _, rfl, fr_lt _ _ _ _⟩, HS.out.drewN _⟩
        · have dr3 : (r == 3) = false := by simpa using cr3
          clear cr3
          by_cases cr4 : r = 4
          · have dr4 : (r == 4) = true := by simpa using cr4
            clear cr4
            go_wp2_with fail
            refine (next_calls w0 _ g _ HS.out).mono ?_
            rintro e w_q ⟨q, rfl, hs, hr⟩
            replace HS := Aside0.mk hs; clear hs hr
            go_wp2_with fail
            refine (pick_calls w0 _ g [2, 4, 8, 16, 3, 10] _ HS.out (by simp) (by simp)).mono ?_
            rintro e w_u ⟨u, rfl, hs, hr⟩
            replace HS := Aside0.mk hs; clear hs hr
            go_wp2
            go_ret
            exact ⟨⟨_, rfl, _, rfl, fr_lt _ _ _ _⟩, HS.out.drewN _⟩
          · have dr4 : (r == 4) = false := by simpa using cr4
            clear cr4
            by_cases cr5 : r = 5
            · have dr5 : (r == 5) = true := by simpa using cr5
              clear cr5
              go_wp2_with fail
              refine (next_calls w0 _ g _ HS.out).mono ?_
              rintro e w_q ⟨q, rfl, hs, hr⟩
              replace HS := Aside0.mk hs; clear hs hr
              go_wp2_with fail
              refine (pick_calls w0 _ g [1, 1000, 1048576] _ HS.out (by simp) (by simp)).mono ?_
              rintro e w_u ⟨u, rfl, hs, hr⟩
              replace HS := Aside0.mk hs; clear hs hr
              go_wp2
              go_ret
              exact ⟨⟨_, rfl, _, rfl, fr_lt _ _ _ _⟩, HS.out.drewN _⟩
            · have dr5 : (r == 5) = false := by simpa using cr5
              clear cr5
              by_cases cr6 : r = 6
              · have dr6 : (r == 6) = true := by simpa using cr6
                clear cr6
                go_wp2_with fail
                refine (next_calls w0 _ g _ HS.out).mono ?_
                rintro e w_q ⟨q, rfl, hs, hr⟩
                replace HS := Aside0.mk hs; clear hs hr
                by_cases cq0 : q = 0
                · have dq0 : (q == 0) = true := by simpa using cq0
                  clear cq0
                  go_wp2_with fail
                  refine (huge_calls _).mono ?_
                  rintro e w_ ⟨⟨v, rfl, b, rfl, hb⟩, n, rfl⟩
                  go_wp2
                  go_ret
                  exact ⟨⟨_, rfl, _, rfl, fr_lt _ _ _ _⟩, HS.out.drewN _⟩
                · have dq0 : (q == 0) = false := by simpa using cq0
                  clear cq0
                  go_wp2
                  go_ret
                  exact ⟨⟨_, rfl, _, rfl, by decide⟩, HS.out⟩
              · have dr6 : (r == 6) = false := by simpa using cr6
                clear cr6
                go_wp2_with fail
                refine (bits_calls w0 _ g HS.out).mono ?_
                rintro e w_ ⟨⟨v, rfl, b, rfl, hb⟩, hs⟩
                replace HS := Aside0.mk hs; clear hs
                go_wp2
                go_ret
                exact ⟨⟨_, rfl, _, rfl, hb⟩, HS.out⟩
set_option maxRecDepth 100000 in
set_option maxHeartbeats 1000000 in
theorem draw_calls {W : World} (w0 w : World) (g : Nat) (h : Src W w0 w g) : Calls Try.prog 51 #[.pointer (some ⟨g, 0, none⟩)] w fun e w' => (∃ v, e = .returned v ∧ Cv v) ∧ Src W w0 w' g := by
  have HS := Aside0.mk h; clear h
  go_enter Try.func51, Try.ntmps51
  go_wp2_with fail
  refine (next_calls w0 _ g _ HS.out).mono ?_
  rintro e w_r ⟨r, rfl, hs, hr⟩
  replace HS := Aside0.mk hs; clear hs hr
  by_cases cr0 : r = 0
  · have dr0 : (r == 0) = true := by simpa using cr0
    clear cr0
    go_wp2_with fail
    refine (float_calls w0 _ g HS.out).mono ?_
    rintro e w_ ⟨⟨v, rfl, b, rfl, hb⟩, hs⟩
    replace HS := Aside0.mk hs; clear hs
    go_wp2
    go_ret
    exact ⟨⟨_, rfl, _, _, rfl, hb, by decide⟩, HS.out⟩
  · have dr0 : (r == 0) = false := by simpa using cr0
    clear cr0
    by_cases cr1 : r = 1
    · have dr1 : (r == 1) = true := by simpa using cr1
      clear cr1
      go_wp2_with fail
      refine (float_calls w0 _ g HS.out).mono ?_
      rintro e w_ ⟨⟨v, rfl, b, rfl, hb⟩, hs⟩
      replace HS := Aside0.mk hs; clear hs
      go_wp2
      go_ret
      exact ⟨⟨_, rfl, _, _, rfl, by decide, hb⟩, HS.out⟩
    · have dr1 : (r == 1) = false := by simpa using cr1
      clear cr1
      by_cases cr2 : r = 2
      · have dr2 : (r == 2) = true := by simpa using cr2
        clear cr2
        go_wp2_with fail
        refine (next_calls w0 _ g _ HS.out).mono ?_
        rintro e w_q ⟨q, rfl, hs, hr⟩
        replace HS := Aside0.mk hs; clear hs hr
        go_wp2_with fail
        refine (next_calls w0 _ g _ HS.out).mono ?_
        rintro e w_u ⟨u, rfl, hs, hr⟩
        replace HS := Aside0.mk hs; clear hs hr
        go_wp2
        go_ret
        exact ⟨⟨_, rfl, _, _, rfl, foi_lt _, foi_lt _⟩, HS.out⟩
      · have dr2 : (r == 2) = false := by simpa using cr2
        clear cr2
        go_wp2_with fail
        refine (float_calls w0 _ g HS.out).mono ?_
        rintro e w_ ⟨⟨v, rfl, b, rfl, hb⟩, hs⟩
        replace HS := Aside0.mk hs; clear hs
        go_wp2_with fail
        refine (float_calls w0 _ g HS.out).mono ?_
        rintro e w_ ⟨⟨v, rfl, c, rfl, hc⟩, hs⟩
        replace HS := Aside0.mk hs; clear hs
        go_wp2
        go_ret
        exact ⟨⟨_, rfl, _, _, rfl, hb, hc⟩, HS.out⟩
set_option maxRecDepth 100000 in
set_option maxHeartbeats 1000000 in
theorem spoil_calls {W : World} (w0 w : World) (g : Nat) (h : Src W w0 w g) : Calls Try.prog 25 #[.pointer (some ⟨g, 0, none⟩)] w fun e w' => (∃ v, e = .returned v ∧ Cv v) ∧ Src W w0 w' g := by
  have HS := Aside0.mk h; clear h
  go_enter Try.func25, Try.ntmps25
  go_wp2_with fail
  refine (draw_calls w0 _ g HS.out).mono ?_
  rintro e w_ ⟨⟨v, rfl, a, b, rfl, ha, hb⟩, hs⟩
  replace HS := Aside0.mk hs; clear hs
  go_wp2_with fail
  refine (next_calls w0 _ g _ HS.out).mono ?_
  rintro e w_r ⟨r, rfl, hs, hr⟩
  replace HS := Aside0.mk hs; clear hs hr
  by_cases cr0 : r = 0
  · have dr0 : (r == 0) = true := by simpa using cr0
    clear cr0
    go_wp2_with fail
    refine (strange_calls w0 _ g HS.out).mono ?_
    rintro e w_ ⟨⟨v, rfl, c, rfl, hc⟩, hs⟩
    replace HS := Aside0.mk hs; clear hs
    go_wp2
    go_ret
    exact ⟨⟨_, rfl, _, _, rfl, hc, hb⟩, HS.out⟩
  · have dr0 : (r == 0) = false := by simpa using cr0
    clear cr0
    go_wp2_with fail
    refine (next_calls w0 _ g _ HS.out).mono ?_
    rintro e w_q ⟨q, rfl, hs, hr⟩
    replace HS := Aside0.mk hs; clear hs hr
    by_cases cq0 : q = 0
    · have dq0 : (q == 0) = true := by simpa using cq0
      clear cq0
      go_wp2_with fail
      refine (strange_calls w0 _ g HS.out).mono ?_
      rintro e w_ ⟨⟨v, rfl, c, rfl, hc⟩, hs⟩
      replace HS := Aside0.mk hs; clear hs
      go_wp2
      go_ret
      exact ⟨⟨_, rfl, _, _, rfl, ha, hc⟩, HS.out⟩
    · have dq0 : (q == 0) = false := by simpa using cq0
      clear cq0
      go_wp2
      go_ret
      exact ⟨⟨_, rfl, _, _, rfl, ha, hb⟩, HS.out⟩
/-- A code of bytes that comes in. -/
structure Code8 (w : World) (A : Option Addr) (c : Nat) (l : List Int) : Prop where
  r : Kd.C (Kd.int .u8) w A l.length l
  c : l.length ≤ c
  n : l.length ≤ 140737488351232
  b : ∀ x ∈ l, 0 ≤ x ∧ x < 256
theorem Code8.below {w w' : World} {A : Option Addr} {c : Nat} {l : List Int} (h : Code8 w A c l) (hb : Below w.heap.size w w') : Code8 w' A c l := ⟨Kd.C_below h.r hb, h.c, h.n, h.b⟩
theorem from_ev (l : List Int) (hl : l.length ≤ 140737488351232) (d : Nat) : ∀ (k i : Nat) (h : Int), l.length - i = d → d < k → i ≤ l.length → ∃ r2 r3, spec_l01From.l0 k l (i : Int) l 0 h = some (l, r2, r3) ∧ r2 = 0 := by
  induction d with
  | zero =>
    intro k i h h1 h2 h3
    obtain ⟨k, rfl⟩ : ∃ k', k = k' + 1 := ⟨k - 1, by omega⟩
    simp only [spec_l01From.l0]
    rw [if_neg (by omega)]
    exact ⟨_, _, rfl, rfl⟩
  | succ d ih =>
    intro k i h h1 h2 h3
    obtain ⟨k, rfl⟩ : ∃ k', k = k' + 1 := ⟨k - 1, by omega⟩
    simp only [spec_l01From.l0]
    rw [if_pos (by omega)]
    by_cases c : (i : Int) < 4096
    · rw [if_pos c, if_pos (Int.natCast_nonneg _), show wrap64 ((i : Int) + 1) = ((i + 1 : Nat) : Int) from by rw [w64 (by omega) (by omega)]; omega]
      exact ih k (i + 1) _ (by omega) (by omega) (by omega)
    · rw [if_neg c]
      exact ⟨_, _, rfl, rfl⟩
theorem from_calls (w : World) (A : Option Addr) (c : Nat) (l : List Int) (h : Code8 w A c l) : Calls Try.prog 26 #[.slice A l.length c] w fun e w' => ∃ g, e = .returned (.pointer (some ⟨g, 0, none⟩)) ∧ Src w' w w' g := by
  obtain ⟨r2, r3, hf, rfl⟩ := from_ev l h.n l.length (l.length + 1) 0 (IntKind.u64.wrap (6737 + (IntKind.u64.wrap ((l.length : Int))))) (by omega) (by omega) (by omega)
  refine (spec_l01From.calls (l.length + 1) A c l l 0 r3 w h.r h.c hf).mono ?_
  rintro e w' ⟨g, rfl, hs, hB, -⟩
  exact ⟨g, rfl, l, 0, r3, hs, Int.le_refl _, h.n, h.b, hB, KeepBut.refl _ _ _⟩
theorem Src.low {W w0 w : World} {g : Nat} (h : Src W w0 w g) : Below w0.heap.size w0 w := by
  obtain ⟨l, a, k, h1, h2, h3, h4, h5, h6⟩ := h
  exact h5
/-- Two wide numbers. -/
def Cv2 (v : Value) : Prop := ∃ a b c d, v = .tuple #[.complex .f64 a b, .complex .f64 c d] ∧ a < 2 ^ 64 ∧ b < 2 ^ 64 ∧ c < 2 ^ 64 ∧ d < 2 ^ 64
set_option maxRecDepth 100000 in
set_option maxHeartbeats 1000000 in
theorem two_calls (w : World) (A : Option Addr) (c : Nat) (l : List Int) (h : Code8 w A c l) : Calls Try.prog 35 #[.slice A l.length c] w fun e w' => (∃ v, e = .returned v ∧ Cv2 v) ∧ Below w.heap.size w w' := by
  go_enter Try.func35, Try.ntmps35
  go_wp2_with fail
  refine (from_calls w A c l h).mono ?_
  rintro e w1 ⟨g, rfl, hs⟩
  have HS := Aside0.mk hs; clear hs
  obtain ⟨w0, hw0⟩ : ∃ w0, w0 = w := ⟨w, rfl⟩
  rw [← hw0] at HS
  go_wp2_with fail
  refine (spoil_calls w0 _ g HS.out).mono ?_
  rintro e w_ ⟨⟨v, rfl, a1, b1, rfl, ha1, hb1⟩, hs⟩
  replace HS := Aside0.mk hs; clear hs
  go_wp2_with fail
  refine (spoil_calls w0 _ g HS.out).mono ?_
  rintro e w_ ⟨⟨v, rfl, a2, b2, rfl, ha2, hb2⟩, hs⟩
  replace HS := Aside0.mk hs; clear hs
  go_wp2_with fail
  refine (next_calls w0 _ g _ HS.out).mono ?_
  rintro e w_r ⟨r, rfl, hs, hr⟩
  replace HS := Aside0.mk hs; clear hs hr
  by_cases cr0 : r = 0
  · have dr0 : (r == 0) = true := by simpa using cr0
    clear cr0
    go_wp2
    go_ret2
    exact ⟨⟨_, rfl, _, _, _, _, rfl, ha1, hb1, ha1, hb1⟩, by rw [hw0] at HS; exact HS.out.low⟩
  · have dr0 : (r == 0) = false := by simpa using cr0
    clear cr0
    by_cases cr1 : r = 1
    · have dr1 : (r == 1) = true := by simpa using cr1
      clear cr1
      go_wp2
      go_ret2
      exact ⟨⟨_, rfl, _, _, _, _, rfl, ha1, hb1, hb1, ha1⟩, by rw [hw0] at HS; exact HS.out.low⟩
    · have dr1 : (r == 1) = false := by simpa using cr1
      clear cr1
      by_cases cr2 : r = 2
      · have dr2 : (r == 2) = true := by simpa using cr2
        clear cr2
        go_wp2
        go_ret2
        exact ⟨⟨_, rfl, _, _, _, _, rfl, ha1, hb1, by decide, by decide⟩, by rw [hw0] at HS; exact HS.out.low⟩
      · have dr2 : (r == 2) = false := by simpa using cr2
        clear cr2
        by_cases cr3 : r = 3
        · have dr3 : (r == 3) = true := by simpa using cr3
          clear cr3
          go_wp2
          go_ret2
          exact ⟨⟨_, rfl, _, _, _, _, rfl, ha1, hb1, neg_lt ha1, neg_lt hb1⟩, by rw [hw0] at HS; exact HS.out.low⟩
        · have dr3 : (r == 3) = false := by simpa using cr3
          clear cr3
          go_wp2
          go_ret2
          exact ⟨⟨_, rfl, _, _, _, _, rfl, ha1, hb1, ha2, hb2⟩, by rw [hw0] at HS; exact HS.out.low⟩
theorem drawMul_calls (w : World) (A : Option Addr) (c : Nat) (l : List Int) (h : Code8 w A c l) : Calls Try.prog 11 #[.slice A l.length c] w fun e w' => (∃ v, e = .returned v ∧ Cv2 v) ∧ Below w.heap.size w w' := by
  go_enter Try.func11, Try.ntmps11
  go_wp2_with fail
  refine (two_calls w A c l h).mono ?_
  rintro e w1 ⟨⟨v, rfl, a1, b1, a2, b2, rfl, h1, h2, h3, h4⟩, hb⟩
  go_wp2
  go_ret2
  exact ⟨⟨_, rfl, _, _, _, _, rfl, h1, h2, h3, h4⟩, hb⟩
end Go.Proofs.Yteefmpcmfkfmnaa
