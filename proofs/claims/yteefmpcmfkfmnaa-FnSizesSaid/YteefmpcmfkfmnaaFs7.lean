/- Rows of wide numbers, drawn: the walk of spec.l01Many. No conditions beyond those of each theorem. Printed by genfs7.py. -/
import Derived.Test.YteefmpcmfkfmnaaFs6
namespace Go.Proofs.Yteefmpcmfkfmnaa
open Go Ieee Go.RowKit Go.Proofs.Yteefmpcmfkfmnaa.Fl Go.Proofs.Yteefmpcmfkfmnaa.Fx Go.Proofs.Yteefmpcmfkfmnaa.P Go.Proofs.YteefmpcmfkfmnaaW.PrintWords Go.Proofs.YteefmpcmfkfmnaaW.PrintLast Go.Proofs.YteefmpcmfkfmnaaW.PrintMore
set_option linter.unusedVariables false
set_option linter.unusedSimpArgs false
attribute [local go_sem] run_add run_sub run_mul run_quo run_cadd run_csub run_neg run_cneg conv_f

/-- A row of wide numbers: short, words of 64 bits. -/
structure Many (g : Nat) (w w1 : World) (v : Value) (xs : List (Nat × Nat)) (n : Nat) : Prop where
  row : cxk.R 24 w1 w.heap.size (fun b => b ≠ g) v xs
  len : xs.length ≤ n
  words : ∀ p ∈ xs, p.1 < 2 ^ 64 ∧ p.2 < 2 ^ 64
theorem Many.keep {g : Nat} {w w1 w2 : World} {v : Value} {xs : List (Nat × Nat)} {n : Nat} (h : Many g w w1 v xs n) (hk : KeepBut w1 w2 g none) : Many g w w2 v xs n := ⟨Kd.R_keep h.row hk (fun _ h => h), h.len, h.words⟩
theorem Many.drewN {g : Nat} {w w1 : World} {v : Value} {xs : List (Nat × Nat)} {n : Nat} (h : Many g w w1 v xs n) (m : Nat) : Many g w (w1.drewN m) v xs n := ⟨Kd.R_drewN h.row m, h.len, h.words⟩
theorem Many.snoc {g : Nat} {w w1 : World} {v : Value} {xs : List (Nat × Nat)} {n a b : Nat} (hl : xs.length ≤ n) (hw : ∀ p ∈ xs, p.1 < 2 ^ 64 ∧ p.2 < 2 ^ 64) (ha : a < 2 ^ 64) (hb : b < 2 ^ 64) (hr : cxk.R 24 w1 w.heap.size (fun b => b ≠ g) v (xs ++ [(a, b)])) : Many g w w1 v (xs ++ [(a, b)]) (n + 1) :=
  ⟨hr, by rw [List.length_append, List.length_singleton]; omega, fun p hp => by
    rcases List.mem_append.1 hp with hp | hp
    · exact hw p hp
    · rw [List.mem_singleton.1 hp]; exact ⟨ha, hb⟩⟩
set_option maxRecDepth 100000 in
set_option maxHeartbeats 4000000 in
theorem many_calls (w : World) (A : Option Addr) (c : Nat) (l : List Int) (h : Code8 w A c l) : Calls Try.prog 48 #[.slice A l.length c] w fun e w' => ∃ (xs : List (Nat × Nat)) (B : Option Addr) (d : Nat), e = .returned (.slice B xs.length d) ∧ cxk.C w' B xs.length xs ∧ xs.length ≤ 200 ∧ xs.length ≤ d ∧ (∀ p ∈ xs, p.1 < 2 ^ 64 ∧ p.2 < 2 ^ 64) ∧ Below w.heap.size w w' := by
  go_enter Try.func48, Try.ntmps48
  go_wp2_with fail
  refine (from_calls w A c l h).mono ?_
  rintro e w1 ⟨g, rfl, hs⟩
  have HS := Aside0.mk hs; clear hs h
  go_wp2_with fail
  have hm : Many g w (w1.alloc (.cells #[] 24)) (.slice (some ⟨w1.heap.size, 0, none⟩) 0 0) [] 0 := ⟨cx_empty w1 w.heap.size _ HS.out.low.size (Nat.ne_of_gt HS.out.lt), Nat.le_refl _, fun p hp => by cases hp⟩
  have HM := Aside0.mk hm; clear hm
  replace HS := Aside0.mk ((HS.out.alloc (.cells #[] 24)).from_)
  refine (next_calls w _ g _ HS.out).mono ?_
  rintro e w2 ⟨r1, rfl, hs, hr1⟩
  replace HS := Aside0.mk hs; clear hs
  go_wp2_with fail
  refine (next_calls w _ g _ HS.out).mono ?_
  rintro e w_ ⟨r2, rfl, hs, hrr2⟩
  replace HS := Aside0.mk hs; clear hs
  have B1 := Aside0.mk (hr1 (by omega)); have B2 := Aside0.mk (hrr2 (by omega)); clear hr1 hrr2
  go_wp2_with fail
  refine (pick_calls w _ g [r1, r2, 100, 101, 3] _ HS.out (by simp) (by simp)).mono ?_
  rintro e w3 ⟨K, rfl, hs, hr⟩
  replace HS := Aside0.mk hs; clear hs
  have hK : 0 ≤ K ∧ K ≤ 101 := by have h1 := B1.out; have h2 := B2.out; simp only [List.mem_cons, List.not_mem_nil, or_false] at hr; omega
  have HK := Aside0.mk hK; clear hK hr B1 B2
  replace HM := Aside0.mk (HM.out.keep HS.out.keep)
  replace HS := Aside0.mk HS.out.from_
  go_wp2_with fail
  go_loopg [4, 5] K.toNat (fun q v u w' => ∃ (xs : List (Nat × Nat)) (j : Int) (n : Nat), u = .int .i64 j ∧ Aside0 (Many g w w' v xs n ∧ Src w' w w' g ∧ (q : Int) = j ∧ j + n ≤ 101))
  case atStart => exact ⟨[], K, 0, rfl, ⟨HM.out, HS.out, by have := HK.out; omega, by have := HK.out; omega⟩⟩
  case round =>
    clear HM HS
    obtain ⟨xs, j, n, rfl, hj⟩ := hrel
    have HM := Aside0.mk hj.out.1; have HS := Aside0.mk hj.out.2.1; have HJ := Aside0.mk hj.out.2.2; clear hj
    cases gk with
    | succ d =>
      have hl' : decide (j > 0) = true := decide_eq_true (by have := HJ.out; omega)
      go_wp2_with fail
      refine (next_calls w _ g _ HS.out).mono ?_
      rintro e w_ ⟨r, rfl, hs, hrr⟩
      replace HS := Aside0.mk hs; clear hs
      clear hrr
      by_cases c1 : r > 0
      · have d1 : decide (r > 0) = true := decide_eq_true c1
        clear c1
        go_wp2_with fail
        refine (next_calls w _ g _ HS.out).mono ?_
        rintro e w_ ⟨q1, rfl, hs, hrq1⟩
        replace HS := Aside0.mk hs; clear hs
        clear hrq1
        go_wp2_with fail
        refine (next_calls w _ g _ (HS.out.drewN _)).mono ?_
        rintro e w_ ⟨q2, rfl, hs, hrq2⟩
        replace HS := Aside0.mk hs; clear hs hrq2
        replace HM := Aside0.mk (HM.out.keep HS.out.keep)
        go_wp2_with (first | ((with_reducible refine gate_builtin (b := .append) (xs := #[.tmp 23, .tmp 35]) rfl ?_); at_builtin; refine Kd.R_append cxk (w0 := w) w.heap.size rfl (.tmp 23) (.tmp 35) 38 24 (.complex .f64 0 0) 16 rfl Try.underlying38 info_cx rfl (by decide) (by omega) u4 xs (?pa23, ?pb23) [.complex .f64 _ _] (fun b => b ≠ g) (fun _ => False) rfl rfl ?aP (fun _ hk => hk.elim) ?aF ?aO ?aB ?aS ?aL ?_; (case aP => exact rfl); (case aB => repeat (first | exact HS.out.low | (with_reducible refine pw_below_drewN ?_ _))); (case aF => exact (fun k hk => Nat.ne_of_gt (Nat.lt_of_lt_of_le HS.out.lt hk))); (case aO => repeat (first | exact HM.out.row | (with_reducible refine Kd.R_drewN ?_ _))); (case aS => exact HS.out.low.size); (case aL => have h1 := HM.out.len; have h2 := HJ.out; omega); intro v1 w4 ho hb hg hat))
        have ES := Aside0.mk (Src.grown (HS.out.drewN _) hg (fun e => HM.out.row.1 g e.symm rfl) hb)
        have EM := Aside0.mk (Many.snoc HM.out.len HM.out.words (fr_lt _ _ _ _) (fr_lt _ _ _ _) ho)
        clear ho hb hg hat
        go_wp2_with fail
        go_roundg d
        case measure => omega
        case rel =>
          have e : wrap64 (j - 1) = j - 1 := by have := HJ.out; exact w64 (by omega) (by omega)
          exact ⟨_, j - 1, n + 1, by rw [e], ⟨EM.out, ES.out, by have := HJ.out; omega, by have := HJ.out; omega⟩⟩
      · have d1 : decide (r > 0) = false := decide_eq_false c1
        clear c1
        go_wp2_with fail
        refine (next_calls w _ g _ HS.out).mono ?_
        rintro e w_ ⟨q1, rfl, hs, hrq1⟩
        replace HS := Aside0.mk hs; clear hs
        clear hrq1
        by_cases c2 : q1 = 0
        · have d2 : (q1 == 0) = true := by simpa using c2
          clear c2
          go_wp2_with fail
          refine (spoil_calls w _ g HS.out).mono ?_
          rintro e w_ ⟨⟨v, rfl, a, b, rfl, ha, hb'⟩, hs⟩
          replace HS := Aside0.mk hs; clear hs
          replace HM := Aside0.mk (HM.out.keep HS.out.keep)
          go_wp2_with (first | ((with_reducible refine gate_builtin (b := .append) (xs := #[.tmp 40, .tmp 43]) rfl ?_); at_builtin; refine Kd.R_append cxk (w0 := w) w.heap.size rfl (.tmp 40) (.tmp 43) 38 24 (.complex .f64 0 0) 16 rfl Try.underlying38 info_cx rfl (by decide) (by omega) u4 xs (?pa40, ?pb40) [.complex .f64 _ _] (fun b => b ≠ g) (fun _ => False) rfl rfl ?aP (fun _ hk => hk.elim) ?aF ?aO ?aB ?aS ?aL ?_; (case aP => exact rfl); (case aB => repeat (first | exact HS.out.low | (with_reducible refine pw_below_drewN ?_ _))); (case aF => exact (fun k hk => Nat.ne_of_gt (Nat.lt_of_lt_of_le HS.out.lt hk))); (case aO => repeat (first | exact HM.out.row | (with_reducible refine Kd.R_drewN ?_ _))); (case aS => exact HS.out.low.size); (case aL => have h1 := HM.out.len; have h2 := HJ.out; omega); intro v1 w4 ho hb hg hat))
          have ES := Aside0.mk (Src.grown (HS.out) hg (fun e => HM.out.row.1 g e.symm rfl) hb)
          have EM := Aside0.mk (Many.snoc HM.out.len HM.out.words (ha) (hb') ho)
          clear ho hb hg hat
          go_wp2_with fail
          go_roundg d
          case measure => omega
          case rel =>
            have e : wrap64 (j - 1) = j - 1 := by have := HJ.out; exact w64 (by omega) (by omega)
            exact ⟨_, j - 1, n + 1, by rw [e], ⟨EM.out, ES.out, by have := HJ.out; omega, by have := HJ.out; omega⟩⟩
        · have d2 : (q1 == 0) = false := by simpa using c2
          clear c2
          go_wp2_with fail
          refine (draw_calls w _ g HS.out).mono ?_
          rintro e w_ ⟨⟨v, rfl, a, b, rfl, ha, hb'⟩, hs⟩
          replace HS := Aside0.mk hs; clear hs
          replace HM := Aside0.mk (HM.out.keep HS.out.keep)
          go_wp2_with (first | ((with_reducible refine gate_builtin (b := .append) (xs := #[.tmp 45, .tmp 48]) rfl ?_); at_builtin; refine Kd.R_append cxk (w0 := w) w.heap.size rfl (.tmp 45) (.tmp 48) 38 24 (.complex .f64 0 0) 16 rfl Try.underlying38 info_cx rfl (by decide) (by omega) u4 xs (?pa45, ?pb45) [.complex .f64 _ _] (fun b => b ≠ g) (fun _ => False) rfl rfl ?aP (fun _ hk => hk.elim) ?aF ?aO ?aB ?aS ?aL ?_; (case aP => exact rfl); (case aB => repeat (first | exact HS.out.low | (with_reducible refine pw_below_drewN ?_ _))); (case aF => exact (fun k hk => Nat.ne_of_gt (Nat.lt_of_lt_of_le HS.out.lt hk))); (case aO => repeat (first | exact HM.out.row | (with_reducible refine Kd.R_drewN ?_ _))); (case aS => exact HS.out.low.size); (case aL => have h1 := HM.out.len; have h2 := HJ.out; omega); intro v1 w4 ho hb hg hat))
          have ES := Aside0.mk (Src.grown (HS.out) hg (fun e => HM.out.row.1 g e.symm rfl) hb)
          have EM := Aside0.mk (Many.snoc HM.out.len HM.out.words (ha) (hb') ho)
          clear ho hb hg hat
          go_wp2_with fail
          go_roundg d
          case measure => omega
          case rel =>
            have e : wrap64 (j - 1) = j - 1 := by have := HJ.out; exact w64 (by omega) (by omega)
            exact ⟨_, j - 1, n + 1, by rw [e], ⟨EM.out, ES.out, by have := HJ.out; omega, by have := HJ.out; omega⟩⟩
    | zero =>
      have hl' : decide (j > 0) = false := decide_eq_false (by have := HJ.out; omega)
      obtain ⟨B, d, hv, hd, hc⟩ := Kd.R_reads HM.out.row
      subst hv
      have HC := Aside0.mk hc; clear hc
      go_wp2
      go_ret
      exact ⟨xs, B, d, rfl, HC.out, by have := HM.out.len; have := HJ.out; omega, hd, HM.out.words, HS.out.low⟩
theorem drawSum_calls (w : World) (A : Option Addr) (c : Nat) (l : List Int) (h : Code8 w A c l) : Calls Try.prog 22 #[.slice A l.length c] w fun e w' => ∃ (xs : List (Nat × Nat)) (B : Option Addr) (d : Nat), e = .returned (.slice B xs.length d) ∧ cxk.C w' B xs.length xs ∧ xs.length ≤ 200 ∧ xs.length ≤ d ∧ (∀ p ∈ xs, p.1 < 2 ^ 64 ∧ p.2 < 2 ^ 64) ∧ Below w.heap.size w w' := by
  go_enter Try.func22, Try.ntmps22
  go_wp2_with fail
  refine (many_calls w A c l h).mono ?_
  rintro e w1 ⟨xs, B, d, rfl, h1, h2, h3, h4, h5⟩
  have H := Aside0.mk (And.intro h1 (And.intro h2 (And.intro h3 (And.intro h4 h5))))
  clear h1 h2 h3 h4 h5
  go_wp2
  go_ret
  exact ⟨xs, B, d, rfl, H.out.1, H.out.2.1, H.out.2.2.1, H.out.2.2.2.1, H.out.2.2.2.2⟩
end Go.Proofs.Yteefmpcmfkfmnaa
