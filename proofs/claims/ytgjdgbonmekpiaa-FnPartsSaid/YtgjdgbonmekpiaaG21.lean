/- Draws of parts, and the draws of the law. No conditions beyond those of each theorem. Printed by genpd4.py. -/
import Derived.Test.YtgjdgbonmekpiaaG20
namespace Go.Proofs.Ytgjdgbonmekpiaa
open Go Ieee Go.RowKit Go.Proofs.Ytgjdgbonmekpiaa.Fl Go.Proofs.Ytgjdgbonmekpiaa.Fx Go.Proofs.Ytgjdgbonmekpiaa.P Go.Proofs.YtgjdgbonmekpiaaW.PrintWords Go.Proofs.YtgjdgbonmekpiaaW.PrintLast Go.Proofs.YtgjdgbonmekpiaaW.PrintMore
set_option linter.unusedVariables false
set_option linter.unusedSimpArgs false
attribute [local go_sem] run_add run_sub run_mul run_quo run_cadd run_csub run_neg run_cneg conv_f run_store_cx
structure Inp (w : World) (A : Option Addr) (c : Nat) (xs : Cs) : Prop where
 C : cxk.C w A xs.length xs
 cap : xs.length ≤ c
 len : xs.length ≤ 30
 words : Wo xs
theorem Inp.below {w w' : World} {A : Option Addr} {c : Nat} {xs : Cs} (h : Inp w A c xs) (hk : Below w.heap.size w w') : Inp w' A c xs := ⟨Kd.C_below h.C hk, h.cap, h.len, h.words⟩
theorem Rdr.inp {g : Nat} {w : World} {A : Option Addr} {c : Nat} {xs : Cs} (h : Rdr g w A c xs) : Inp w A c xs := ⟨h.C, h.cap, h.len, h.words⟩
set_option maxRecDepth 100000 in
set_option maxHeartbeats 8000000 in
theorem part4_calls {W : World} (w0 w : World) (g : Nat) (h : Src W w0 w g) : Calls Try.prog 25 #[.pointer (some ⟨g, 0, none⟩)] w fun e w' => ∃ A c xs, e = .returned (.slice A xs.length c) ∧ Rdr g w' A c xs ∧ Src W w0 w' g := by
 refine Calls.mono (show Calls Try.prog 25 #[.pointer (some ⟨g, 0, none⟩)] w fun e w' => ∃ p : Option Addr × Nat × Cs, e = .returned (.slice p.1 p.2.2.length p.2.1) ∧ Rdr g w' p.1 p.2.1 p.2.2 ∧ Src W w0 w' g from ?_) (fun e w' h => by obtain ⟨p, h⟩ := h; exact ⟨p.1, p.2.1, p.2.2, h⟩)
 have HS0 := Aside0.mk h
 have HG := Aside0.mk h.lt
 have HS := Aside0.mk h.from_
 clear h
 obtain ⟨i0, hi0, -, hsz, -⟩ := info_parts info_cx
 go_enter Try.func25, Try.ntmps25
 go_wp2_with fail
 refine (next_calls w0 _ g _ (HS.out).from_).mono ?_
 rintro e w_ ⟨r, rfl, hs, hr⟩
 replace HS := Aside0.mk ((HS.out).trans hs); clear hs
 clear hr
 by_cases c0 : r = 0
 ·have d0 : (r == 0) = true := by simpa using c0
  clear c0
  go_wp2_with fail
  refine (spoil4_calls w0 _ g HS.out.from_).mono ?_
  rintro e w_ ⟨A, c, xs, rfl, hm, hl1, hs⟩
  have HM := Aside0.mk hm
  have HL := Aside0.mk hl1
  replace HS := Aside0.mk (HS.out.trans hs)
  clear hm hl1 hs
  obtain ⟨M, hM⟩ : ∃ M : Int, (xs.length : Int) = M := ⟨_, rfl⟩
  have HM2 := Aside0.mk hM
  go_wp2_with fail
  refine (next_calls w0 _ g _ (HS.out).from_).mono ?_
  rintro e w_ ⟨q, rfl, hs, hr⟩
  replace HM := Aside0.mk (HM.out.keep hs.keep)
  replace HS := Aside0.mk ((HS.out).trans hs); clear hs
  have HQ := Aside0.mk (show 0 ≤ q ∧ q < M ∧ M ≤ 30 from ⟨(hr (by have := HM2.out; have := HL.out; omega)).1, (hr (by have := HM2.out; have := HL.out; omega)).2, by have := HM.out.len; have := HM2.out; omega⟩)
  have hw : wrap64 (q + 1) = q + 1 := by have := HQ.out; exact w64 (by omega) (by omega)
  have hsl := cut_to (P := Try.prog) 24 32 .i64 Try.underlying24 hi0 A xs.length c (q + 1) (by have := HQ.out; omega) (by have := HQ.out; have := HM2.out; omega) HM.out.cap
  have hl : (xs.take (q + 1).toNat).length = (q + 1).toNat := by rw [List.length_take]; have := HQ.out; have := HM2.out; omega
  have HR := Aside0.mk (HM.out.take (q + 1).toNat (by have := HQ.out; have := HM2.out; omega))
  have HE := Aside0.mk hl
  clear hr hl hi0 hsz
  go_wp2
  go_ret
  exact ⟨(A, c, xs.take (q + 1).toNat), by simp only [HE.out]; rfl, HR.out, HS0.out.trans HS.out⟩
 have d0 : (r == 0) = false := by simpa using c0
 clear c0
 go_wp2_with fail
 refine (next_calls w0 _ g _ (HS.out).from_).mono ?_
 rintro e w_ ⟨r2, rfl, hs, hr⟩
 replace HS := Aside0.mk ((HS.out).trans hs); clear hs
 clear hr
 by_cases c1 : r2 = 0
 ·have d1 : (r2 == 0) = true := by simpa using c1
  clear c1
  obtain ⟨A, c, e1, hR⟩ := (Rw.empty (g := g) (Nat.le_refl w_.heap.size) HS.out.lt).rdr (by simp)
  have HR := Aside0.mk (And.intro e1 hR)
  have ES := Aside0.mk (HS.out.under (below_alloc (Below.refl _ _) (.cells #[] 32)) HS.out.lt HS.out.keep.1)
  clear e1 hR hi0 hsz
  go_wp2
  go_ret
  exact ⟨(A, c, []), by rw [← HR.out.1]; rfl, HR.out.2, HS0.out.trans ES.out⟩
 have d1 : (r2 == 0) = false := by simpa using c1
 clear c1
 go_wp2_with fail
 refine (spoil4_calls w0 _ g HS.out.from_).mono ?_
 rintro e w_ ⟨A, c, xs, rfl, hm, hl1, hs⟩
 have HM := Aside0.mk hm
 have HL := Aside0.mk hl1
 replace HS := Aside0.mk (HS.out.trans hs)
 clear hm hl1 hs
 obtain ⟨M, hM⟩ : ∃ M : Int, (xs.length : Int) = M := ⟨_, rfl⟩
 have HM2 := Aside0.mk (show (xs.length : Int) = M ∧ 1 ≤ M ∧ M ≤ 30 by have := HM.out.len; have := HL.out; omega)
 by_cases c2 : M > 6
 ·have d2 : decide (M > 6) = true := decide_eq_true c2
  have H6 := Aside0.mk c2
  clear c2
  go_wp2_with fail
  refine (next_calls w0 _ g _ (HS.out).from_).mono ?_
  rintro e w_ ⟨r3, rfl, hs, hr⟩
  replace HM := Aside0.mk (HM.out.keep hs.keep)
  replace HS := Aside0.mk ((HS.out).trans hs); clear hs
  clear hr
  by_cases c3 : r3 = 0
  ·have d3 : (r3 == 0) = true := by simpa using c3
   clear c3
   have hw : wrap64 (M - 4) = M - 4 := by have := HM2.out; exact w64 (by omega) (by omega)
   have hsl := cut_from (P := Try.prog) 24 32 .i64 Try.underlying24 hi0 1 hsz A xs.length c (M - 4) (by have := H6.out; omega) (by have := HM2.out; omega)
   have hne : ¬ c = (M - 4).toNat := by have := HM.out.cap; have := HM2.out; omega
   simp only [if_neg hne, Nat.mul_one] at hsl
   have hR := HM.out.drop (M - 4).toNat (by have := HM2.out; have := H6.out; omega)
   rw [if_neg hne, Nat.mul_one] at hR
   have HR := Aside0.mk hR
   clear hR hne
   clear hi0 hsz
   go_wp2
   go_ret
   exact ⟨(_, _, xs.drop (M - 4).toNat), by rw [List.length_drop]; rfl, HR.out, HS0.out.trans HS.out⟩
  ·have d3 : (r3 == 0) = false := by simpa using c3
   clear c3 hi0 hsz
   have HR := Aside0.mk HM.out
   go_wp2
   go_ret
   exact ⟨(A, c, xs), rfl, HR.out, HS0.out.trans HS.out⟩
 ·have d2 : decide (M > 6) = false := decide_eq_false c2
  clear c2 hi0 hsz
  go_wp2
  go_ret
  exact ⟨(A, c, xs), rfl, HM.out, HS0.out.trans HS.out⟩
set_option maxRecDepth 100000 in
set_option maxHeartbeats 4000000 in
theorem drawMulParts_calls (w : World) (A0 : Option Addr) (c0 : Nat) (l : List Int) (h : Code8 w A0 c0 l) : Calls Try.prog 5 #[.slice A0 l.length c0] w fun e w' => ∃ A c xs B d ys, e = .returned (.tuple #[.slice A xs.length c, .slice B ys.length d]) ∧ Inp w' A c xs ∧ Inp w' B d ys ∧ Below w.heap.size w w' := by
 go_enter Try.func5, Try.ntmps5
 go_wp2_with fail
 refine (from_calls w A0 c0 l h).mono ?_
 rintro e w1 ⟨g, rfl, hs⟩
 obtain ⟨w0, hw0⟩ : ∃ w0, w0 = w := ⟨w, rfl⟩
 rw [← hw0] at hs
 have HS := Aside0.mk hs
 clear hs h
 go_wp2_with fail
 refine (part4_calls w0 _ g HS.out.from_).mono ?_
 rintro e w_ ⟨A, c, xs, rfl, hm, hs⟩
 have HM := Aside0.mk hm
 replace HS := Aside0.mk (HS.out.trans hs)
 clear hm hs
 go_wp2_with fail
 refine (part4_calls w0 _ g HS.out.from_).mono ?_
 rintro e w_ ⟨B, d, ys, rfl, hm, hs⟩
 replace HM := Aside0.mk (HM.out.keep hs.keep)
 have HN := Aside0.mk hm
 replace HS := Aside0.mk (HS.out.trans hs)
 clear hm hs
 go_wp2
 go_ret2
 exact ⟨A, c, xs, B, d, ys, rfl, HM.out.inp, HN.out.inp, by rw [hw0] at HS; exact HS.out.low⟩
set_option maxRecDepth 100000 in
set_option maxHeartbeats 4000000 in
theorem drawMonic_calls (w : World) (A0 : Option Addr) (c0 : Nat) (l : List Int) (h : Code8 w A0 c0 l) : Calls Try.prog 12 #[.slice A0 l.length c0] w fun e w' => ∃ A c xs, e = .returned (.slice A xs.length c) ∧ Inp w' A c xs ∧ Below w.heap.size w w' := by
 go_enter Try.func12, Try.ntmps12
 go_wp2_with fail
 refine (from_calls w A0 c0 l h).mono ?_
 rintro e w1 ⟨g, rfl, hs⟩
 obtain ⟨w0, hw0⟩ : ∃ w0, w0 = w := ⟨w, rfl⟩
 rw [← hw0] at hs
 have HS := Aside0.mk hs
 clear hs h
 go_wp2_with fail
 refine (spoil4_calls w0 _ g HS.out.from_).mono ?_
 rintro e w_ ⟨A, c, xs, rfl, hm, hl1, hs⟩
 have HM := Aside0.mk hm
 have HL := Aside0.mk hl1
 replace HS := Aside0.mk (HS.out.trans hs)
 clear hm hl1 hs
 go_wp2
 go_ret
 exact ⟨A, c, xs, rfl, HM.out.inp, by rw [hw0] at HS; exact HS.out.low⟩
set_option maxRecDepth 100000 in
set_option maxHeartbeats 4000000 in
theorem drawDeriv_calls (w : World) (A0 : Option Addr) (c0 : Nat) (l : List Int) (h : Code8 w A0 c0 l) : Calls Try.prog 15 #[.slice A0 l.length c0] w fun e w' => ∃ A c xs, e = .returned (.slice A xs.length c) ∧ Inp w' A c xs ∧ Below w.heap.size w w' := by
 go_enter Try.func15, Try.ntmps15
 go_wp2_with fail
 refine (from_calls w A0 c0 l h).mono ?_
 rintro e w1 ⟨g, rfl, hs⟩
 obtain ⟨w0, hw0⟩ : ∃ w0, w0 = w := ⟨w, rfl⟩
 rw [← hw0] at hs
 have HS := Aside0.mk hs
 clear hs h
 go_wp2_with fail
 refine (spoil4_calls w0 _ g HS.out.from_).mono ?_
 rintro e w_ ⟨A, c, xs, rfl, hm, hl1, hs⟩
 have HM := Aside0.mk hm
 have HL := Aside0.mk hl1
 replace HS := Aside0.mk (HS.out.trans hs)
 clear hm hl1 hs
 go_wp2
 go_ret
 exact ⟨A, c, xs, rfl, HM.out.inp, by rw [hw0] at HS; exact HS.out.low⟩
set_option maxRecDepth 100000 in
set_option maxHeartbeats 4000000 in
theorem drawScale_calls (w : World) (A0 : Option Addr) (c0 : Nat) (l : List Int) (h : Code8 w A0 c0 l) : Calls Try.prog 18 #[.slice A0 l.length c0] w fun e w' => ∃ A c xs k, e = .returned (.tuple #[.slice A xs.length c, .int .i64 k]) ∧ Inp w' A c xs ∧ Below w.heap.size w w' := by
 go_enter Try.func18, Try.ntmps18
 go_wp2_with fail
 refine (from_calls w A0 c0 l h).mono ?_
 rintro e w1 ⟨g, rfl, hs⟩
 obtain ⟨w0, hw0⟩ : ∃ w0, w0 = w := ⟨w, rfl⟩
 rw [← hw0] at hs
 have HS := Aside0.mk hs
 clear hs h
 go_wp2_with fail
 refine (spoil4_calls w0 _ g HS.out.from_).mono ?_
 rintro e w_ ⟨A, c, xs, rfl, hm, hl1, hs⟩
 have HM := Aside0.mk hm
 have HL := Aside0.mk hl1
 replace HS := Aside0.mk (HS.out.trans hs)
 clear hm hl1 hs
 go_wp2_with fail
 refine (next_calls w0 _ g _ (HS.out).from_).mono ?_
 rintro e w_ ⟨r1, rfl, hs, hr1⟩
 replace HM := Aside0.mk (HM.out.keep hs.keep)
 replace HS := Aside0.mk ((HS.out).trans hs); clear hs
 go_wp2_with fail
 refine (next_calls w0 _ g _ (HS.out).from_).mono ?_
 rintro e w_ ⟨r2, rfl, hs, hr2⟩
 replace HM := Aside0.mk (HM.out.keep hs.keep)
 replace HS := Aside0.mk ((HS.out).trans hs); clear hs
 have HB := Aside0.mk (And.intro (hr1 (by omega)) (hr2 (by omega)))
 have e1 : wrap64 (r1 - 4) = r1 - 4 := by have := HB.out; exact w64 (by omega) (by omega)
 have e2 : wrap64 (r2 - 60) = r2 - 60 := by have := HB.out; exact w64 (by omega) (by omega)
 clear hr1 hr2
 go_wp2_with fail
 simp only [e1, e2]
 refine (pick_calls w0 _ g [r1 - 4, r2 - 60, 60, 61, -61] _ (HS.out).from_ (by simp) (by simp)).mono ?_
 rintro e w_ ⟨K, rfl, hs, hr⟩
 replace HM := Aside0.mk (HM.out.keep hs.keep)
 replace HS := Aside0.mk ((HS.out).trans hs); clear hs
 clear e1 e2 hr
 go_wp2
 go_ret2
 exact ⟨A, c, xs, K, rfl, HM.out.inp, by rw [hw0] at HS; exact HS.out.low⟩
set_option maxRecDepth 100000 in
set_option maxHeartbeats 4000000 in
theorem drawRoots_calls (w : World) (A0 : Option Addr) (c0 : Nat) (l : List Int) (h : Code8 w A0 c0 l) : Calls Try.prog 21 #[.slice A0 l.length c0] w fun e w' => ∃ A c xs, e = .returned (.slice A xs.length c) ∧ Inp w' A c xs ∧ Below w.heap.size w w' := by
 go_enter Try.func21, Try.ntmps21
 go_wp2_with fail
 refine (from_calls w A0 c0 l h).mono ?_
 rintro e w1 ⟨g, rfl, hs⟩
 obtain ⟨w0, hw0⟩ : ∃ w0, w0 = w := ⟨w, rfl⟩
 rw [← hw0] at hs
 have HS := Aside0.mk hs
 clear hs h
 go_wp2_with fail
 refine (next_calls w0 _ g _ (HS.out).from_).mono ?_
 rintro e w_ ⟨r1, rfl, hs, hr1⟩
 replace HS := Aside0.mk ((HS.out).trans hs); clear hs
 go_wp2_with fail
 refine (next_calls w0 _ g _ (HS.out).from_).mono ?_
 rintro e w_ ⟨r2, rfl, hs, hr2⟩
 replace HS := Aside0.mk ((HS.out).trans hs); clear hs
 have HB := Aside0.mk (And.intro (hr1 (by omega)) (hr2 (by omega)))
 have e1 : wrap64 (1 + r1) = 1 + r1 := by have := HB.out; exact w64 (by omega) (by omega)
 have e2 : wrap64 (1 + r2) = 1 + r2 := by have := HB.out; exact w64 (by omega) (by omega)
 clear hr1 hr2
 go_wp2_with fail
 simp only [e1, e2]
 refine (pick_calls w0 _ g [1 + r1, 1 + r2, 0, 13] _ (HS.out).from_ (by simp) (by simp)).mono ?_
 rintro e w_ ⟨K, rfl, hs, hr⟩
 replace HS := Aside0.mk ((HS.out).trans hs); clear hs
 have HK := Aside0.mk (show 0 ≤ K ∧ K ≤ 13 by have := HB.out; simp only [List.mem_cons, List.not_mem_nil, or_false] at hr; omega)
 clear e1 e2 hr HB
 go_wp2_with fail
 refine (roots_calls w0 _ g K HS.out.from_ HK.out.1 (by have := HK.out; omega)).mono ?_
 rintro e w2 ⟨v, xs, rfl, hm, hl, hs⟩
 obtain ⟨wb, hwb⟩ : ∃ wb, wb = w_ := ⟨_, rfl⟩
 rw [← hwb] at hm
 have HW := Aside0.mk (show wb.heap.size ≤ w2.heap.size by rw [hwb]; exact hs.keep.1)
 have HG := Aside0.mk (show g < wb.heap.size by rw [hwb]; exact HS.out.lt)
 have HS2 := Aside0.mk (show Src wb w0 w2 g by rw [hwb]; exact hs)
 clear hs hwb HS
 have HS := Aside0.mk HS2.out
 have HM := Aside0.mk hm
 have HL := Aside0.mk (show (xs.length : Int) ≤ 13 by have := HK.out; omega)
 clear hm hl HS2
 obtain ⟨M, hM⟩ : ∃ M : Int, (xs.length : Int) = M := ⟨_, rfl⟩
 have HM2 := Aside0.mk hM
 by_cases c2 : M > 0
 ·have d2 : decide (M > 0) = true := decide_eq_true c2
  have H6 := Aside0.mk c2
  obtain ⟨gb, cap, rfl, -, -, -⟩ := Kd.R_form HM.out.row (by omega)
  clear c2
  go_wp2_with fail
  refine (next_calls w0 _ g _ (HS.out).from_).mono ?_
  rintro e w_ ⟨r3, rfl, hs, hr⟩
  replace HM := Aside0.mk (HM.out.keep hs.keep)
  replace HS := Aside0.mk ((HS.out).trans hs); clear hs
  clear hr
  by_cases c3 : r3 = 0
  ·have d3 : (r3 == 0) = true := by simpa using c3
   clear c3
   go_wp2_with fail
   refine (spoil_calls w0 _ g (HS.out).from_).mono ?_
   rintro e w_ ⟨⟨v, rfl, a, b, rfl, ha, hb'⟩, hs⟩
   replace HM := Aside0.mk (HM.out.keep hs.keep)
   replace HS := Aside0.mk ((HS.out).trans hs); clear hs
   obtain ⟨hx, hfz⟩ := Kd.R_celln (enc := cxv) (h1 := fun _ => rfl) (0, 0) HM.out.row 0 (by omega) (by have := H6.out; have := HM2.out; omega)
   simp only [cxv] at hx
   obtain ⟨hp, hb⟩ := HM.out.put HS.out.keep.1 0 (a, b) ⟨ha, hb'⟩
   have EM := Aside0.mk hp
   have ES := Aside0.mk (HS.out.under hb HG.out (Nat.le_refl _))
   have q1 := eq_true H6.out
   clear hp hb ha hb'
   rw [show (0 : Int).toNat = 0 from rfl] at hx hfz EM ES
   obtain ⟨A, c, e1, hR⟩ := EM.out.rdr (by rw [List.length_set]; have := HL.out; omega)
   have HR := Aside0.mk (And.intro e1 hR)
   clear e1 hR
   go_wp2
   go_ret
   exact ⟨A, c, xs.set 0 (a, b), by rw [← HR.out.1]; rfl, HR.out.2.inp, by rw [hw0] at ES; exact ES.out.low⟩
  ·have d3 : (r3 == 0) = false := by simpa using c3
   clear c3
   obtain ⟨A, c, e1, hR⟩ := HM.out.rdr (by have := HL.out; omega)
   have HR := Aside0.mk (And.intro e1 hR)
   clear e1 hR
   go_wp2
   go_ret
   exact ⟨A, c, xs, by rw [← HR.out.1]; rfl, HR.out.2.inp, by rw [hw0] at HS; exact HS.out.low⟩
 ·have d2 : decide (M > 0) = false := decide_eq_false c2
  obtain ⟨A, c, rfl, hR⟩ := HM.out.rdr (by have := HL.out; omega)
  have HR := Aside0.mk hR
  clear c2 hR
  go_wp2
  go_ret
  exact ⟨A, c, xs, rfl, HR.out.inp, by rw [hw0] at HS; exact HS.out.low⟩
set_option maxRecDepth 100000 in
set_option maxHeartbeats 4000000 in
theorem drawAddParts_calls (w : World) (A0 : Option Addr) (c0 : Nat) (l : List Int) (h : Code8 w A0 c0 l) : Calls Try.prog 9 #[.slice A0 l.length c0] w fun e w' => ∃ A c xs B d ys, e = .returned (.tuple #[.slice A xs.length c, .slice B ys.length d]) ∧ Inp w' A c xs ∧ Inp w' B d ys ∧ Below w.heap.size w w' := by
 go_enter Try.func9, Try.ntmps9
 go_wp2_with fail
 refine (from_calls w A0 c0 l h).mono ?_
 rintro e w1 ⟨g, rfl, hs⟩
 obtain ⟨w0, hw0⟩ : ∃ w0, w0 = w := ⟨w, rfl⟩
 rw [← hw0] at hs
 have HS := Aside0.mk hs
 clear hs h
 go_wp2_with fail
 refine (part4_calls w0 _ g HS.out.from_).mono ?_
 rintro e w_ ⟨A, c, xs, rfl, hm, hs⟩
 have HM := Aside0.mk hm
 replace HS := Aside0.mk (HS.out.trans hs)
 clear hm hs
 go_wp2_with fail
 refine (part4_calls w0 _ g HS.out.from_).mono ?_
 rintro e w_ ⟨B, d, ys, rfl, hm, hs⟩
 replace HM := Aside0.mk (HM.out.keep hs.keep)
 have HN := Aside0.mk hm
 replace HS := Aside0.mk (HS.out.trans hs)
 clear hm hs
 go_wp2_with fail
 refine (next_calls w0 _ g _ (HS.out).from_).mono ?_
 rintro e w_ ⟨r, rfl, hs, hr⟩
 replace HM := Aside0.mk (HM.out.keep hs.keep)
 replace HN := Aside0.mk (HN.out.keep hs.keep)
 replace HS := Aside0.mk ((HS.out).trans hs); clear hs
 clear hr
 by_cases c0 : r = 0
 case neg =>
  have d0 : (r == 0) = false := by simpa using c0
  clear c0
  go_wp2
  go_ret2
  exact ⟨A, c, xs, B, d, ys, rfl, HM.out.inp, HN.out.inp, by rw [hw0] at HS; exact HS.out.low⟩
 have d0 : (r == 0) = true := by simpa using c0
 clear c0
 obtain ⟨M, hM⟩ : ∃ M : Int, (xs.length : Int) = M := ⟨_, rfl⟩
 have HM2 := Aside0.mk (show (xs.length : Int) = M ∧ M ≤ 30 by have := HM.out.len; omega)
 have LB := Aside0.mk (show Below w.heap.size w w_ by rw [hw0] at HS; exact HS.out.low)
 have HI := Aside0.mk HM.out.inp
 have HO := Aside0.mk (Own.empty (Below.refl w_.heap.size w_))
 clear HS HN HM hw0
 go_wp2_with fail
 go_loopg [6, 7] xs.length (fun q v u w' => ∃ (ys : Cs) (i : Int), u = .int .i64 i ∧ Aside0 (Own w_ w' v ys ∧ Wo ys ∧ (ys.length : Int) = i ∧ i + q = M))
 case atStart => exact ⟨[], 0, rfl, ⟨HO.out, (fun p hp => by cases hp), rfl, by have := HM2.out; omega⟩⟩
 case round =>
  clear HO
  obtain ⟨ys, i, rfl, hj⟩ := hrel
  have HO := Aside0.mk hj.out.1; have HW := Aside0.mk hj.out.2.1; have HJ := Aside0.mk hj.out.2.2; clear hj
  cases gk with
  | succ e =>
   have hl' : decide (i < M) = true := decide_eq_true (by have := HJ.out; omega)
   obtain ⟨ad, rfl, hx⟩ := cx_at (Kd.C_below HI.out.C HO.out.low) i (by have := HJ.out; omega) (by have := HJ.out; have := HM2.out; omega)
   have hw := HI.out.words _ (rdOf_mem xs i (by have := HJ.out; omega) (by have := HJ.out; have := HM2.out; omega))
   obtain ⟨⟨x1, x2⟩, hxx⟩ : ∃ z, rdOf (0, 0) xs i = z := ⟨_, rfl⟩
   rw [hxx] at hx hw
   have HX := Aside0.mk hw
   have q0 := eq_true (show 0 ≤ i by have := HJ.out; omega)
   have q1 := eq_true (show i < M by have := HJ.out; omega)
   clear hxx hw
   go_wp2_with (first | ((with_reducible refine gate_builtin (b := .append) (xs := #[.tmp 24, .tmp 30]) rfl ?_); at_builtin; refine Kd.R_append cxk (w0 := w_) w_.heap.size rfl (.tmp 24) (.tmp 30) 24 32 (.complex .f64 0 0) 16 rfl Try.underlying24 info_cx rfl (by decide) (by omega) _ ys (Op.negFloat .f64 x1, Op.negFloat .f64 x2) [.complex .f64 _ _] (fun _ => True) (fun _ => False) rfl rfl ?aP (fun _ hk => hk.elim) ?aF ?aO ?aB ?aS ?aL ?_; (case aP => exact rfl); (case aF => exact (fun _ _ => trivial)); (case aB => repeat (first | exact HO.out.low | (with_reducible refine pw_below_drewN ?_ _))); (case aO => repeat (first | exact HO.out.row | (with_reducible refine Kd.R_drewN ?_ _))); (case aS => exact HO.out.low.size); (case aL => have h1 := HJ.out; have h2 := HM2.out; omega); intro v1 w4 ho hb hg hat))
   have EO := Aside0.mk (And.intro (Own.mk ho hb) (HW.out.snoc (neg_lt HX.out.1) (neg_lt HX.out.2)))
   clear ho hb hg hat
   go_wp2_with fail
   go_roundg e
   case measure => omega
   case rel =>
    have e1 : wrap64 (i + 1) = i + 1 := by have := HJ.out; have := HM2.out; exact w64 (by omega) (by omega)
    exact ⟨_, i + 1, by first | rfl | rw [e1], ⟨EO.out.1, EO.out.2, by have := HJ.out; simp; omega, by have := HJ.out; omega⟩⟩
  | zero =>
   have hl' : decide (i < M) = false := decide_eq_false (by have := HJ.out; omega)
   obtain ⟨B', d', rfl, hcap, hC⟩ := HO.out.reads
   have HR := Aside0.mk (And.intro hcap hC)
   clear hcap hC
   go_wp2
   go_ret2
   exact ⟨A, c, xs, B', d', ys, rfl, HI.out.below HO.out.low, ⟨HR.out.2, HR.out.1, by have := HJ.out; have := HM2.out; omega, HW.out⟩, LB.out.trans (HO.out.low.mono LB.out.size)⟩
end Go.Proofs.Ytgjdgbonmekpiaa
namespace Go.Proofs.Ytgjdgbonmekpiaa
open Go Ieee Go.RowKit Go.Proofs.Ytgjdgbonmekpiaa.Fl Go.Proofs.Ytgjdgbonmekpiaa.Fx Go.Proofs.Ytgjdgbonmekpiaa.P Go.Proofs.YtgjdgbonmekpiaaW.PrintWords Go.Proofs.YtgjdgbonmekpiaaW.PrintLast Go.Proofs.YtgjdgbonmekpiaaW.PrintMore
set_option linter.unusedVariables false
set_option linter.unusedSimpArgs false
attribute [local go_sem] run_add run_sub run_mul run_quo run_cadd run_csub run_neg run_cneg conv_f run_store_cx
set_option maxRecDepth 100000 in
set_option maxHeartbeats 4000000 in
theorem list5_self (A B : Option Addr) (c d : Nat) (xs : Cs) (w : World) (hr : cxk.C w A xs.length xs) (hr2 : cxk.C w B xs.length xs) : Calls Try.prog 8 #[.slice A xs.length c, .slice B xs.length d] w fun e w' => e = .returned (.bool true) ∧ Below w.heap.size w w' := by
 have HR := Aside0.mk hr; have HR2 := Aside0.mk hr2; have HL := Aside0.mk (Kd.C_max hr)
 obtain ⟨N, hN⟩ : ∃ N : Int, (xs.length : Int) = N := ⟨_, rfl⟩
 have HN := Aside0.mk hN
 have hne : (N != N) = false := by simp
 clear hr hr2
 go_enter Try.func8, Try.ntmps8
 go_wp2_with fail
 go_loopg [5] xs.length (fun g u w' => ∃ (j : Int), u = .int .i64 j ∧ Aside0 (0 ≤ j ∧ j + g = N ∧ Below w.heap.size w w'))
 case atStart => exact ⟨0, rfl, ⟨by omega, by have := HN.out; omega, Below.refl _ _⟩⟩
 case round =>
  obtain ⟨i, rfl, hj⟩ := hrel
  have HJ := Aside0.mk (And.intro hj.out.1 hj.out.2.1)
  have HB := Aside0.mk hj.out.2.2
  clear hj
  cases gk with
  | succ m =>
   have hl' : decide (i < N) = true := decide_eq_true (by have := HJ.out; omega)
   obtain ⟨ga, rfl, hx⟩ := cx_at (Kd.C_below HR.out HB.out) i HJ.out.1 (by have := HJ.out; have := HN.out; omega)
   obtain ⟨gb, rfl, hy⟩ := cx_at (Kd.C_below HR2.out HB.out) i HJ.out.1 (by have := HJ.out; have := HN.out; omega)
   obtain ⟨⟨x1, x2⟩, hxx⟩ : ∃ z, rdOf (0, 0) xs i = z := ⟨_, rfl⟩
   rw [hxx] at hx hy
   have q0 := eq_true HJ.out.1
   have q1 := eq_true (show i < N by have := HJ.out; omega)
   clear hxx
   go_wp2_with fail
   refine start_ (n := 10) (S := fun w' => w'.cell? (ga.add i.toNat) = some (.complex .f64 x1 x2) ∧ w'.cell? (gb.add i.toNat) = some (.complex .f64 x1 x2)) (ds := [8, 9]) #[false, false, false, false, false, false, false, false, false, false] (by kernel_rfl) rfl rfl ⟨hx, hy⟩ (fun hHeld => ?_)
   have DW := Aside0.mk ((Below.refl wr.heap.size wr).drew)
   generalize wr.drew = W at hHeld DW ⊢
   refine pure_ (i := 0) (N := some 17) (v := ?_) (a' := ?_) #[true, false, false, false, false, false, false, false, false, false] rfl rfl (by kernel_rfl) (fun _ _ _ h => h) (Or.inl ⟨by rfl, ?_⟩) ?_ ?_
   rotate_left
   ·intro w'
    go_simp
    with_reducible rfl
   rotate_left
   ·simp only [Act.put, List.setIfInBounds_toArray, List.set_cons_zero, List.set_cons_succ, i64_w, i32_w]
    rfl
   refine pure_ (i := 1) (N := some 18) (v := ?_) (a' := ?_) #[true, true, false, false, false, false, false, false, false, false] rfl rfl (by kernel_rfl) (fun _ _ _ h => h) (Or.inl ⟨by rfl, ?_⟩) ?_ ?_
   rotate_left
   ·intro w'
    go_simp
    with_reducible rfl
   rotate_left
   ·simp only [Act.put, List.setIfInBounds_toArray, List.set_cons_zero, List.set_cons_succ, i64_w, i32_w]
    rfl
   refine pure_ (i := 2) (N := some 19) (v := ?_) (a' := ?_) #[true, true, true, false, false, false, false, false, false, false] rfl rfl (by kernel_rfl) (fun _ _ _ h => h) (Or.inl ⟨by rfl, ?_⟩) ?_ ?_
   rotate_left
   ·intro w'
    go_simp
    with_reducible rfl
   rotate_left
   ·simp only [Act.put, List.setIfInBounds_toArray, List.set_cons_zero, List.set_cons_succ, i64_w, i32_w]
    rfl
   refine pure_ (i := 4) (N := some 21) (v := ?_) (a' := ?_) #[true, true, true, false, true, false, false, false, false, false] rfl rfl (by kernel_rfl) (fun _ _ _ h => h) (Or.inl ⟨by rfl, ?_⟩) ?_ ?_
   rotate_left
   ·intro w'
    go_simp
    with_reducible rfl
   rotate_left
   ·simp only [Act.put, List.setIfInBounds_toArray, List.set_cons_zero, List.set_cons_succ, i64_w, i32_w]
    rfl
   refine pure_ (i := 5) (N := some 22) (v := ?_) (a' := ?_) #[true, true, true, false, true, true, false, false, false, false] rfl rfl (by kernel_rfl) (fun _ _ _ h => h) (Or.inl ⟨by rfl, ?_⟩) ?_ ?_
   rotate_left
   ·intro w'
    go_simp
    with_reducible rfl
   rotate_left
   ·simp only [Act.put, List.setIfInBounds_toArray, List.set_cons_zero, List.set_cons_succ, i64_w, i32_w]
    rfl
   refine pure_ (i := 6) (N := some 23) (v := ?_) (a' := ?_) #[true, true, true, false, true, true, true, false, false, false] rfl rfl (by kernel_rfl) (fun _ _ _ h => h) (Or.inl ⟨by rfl, ?_⟩) ?_ ?_
   rotate_left
   ·intro w'
    go_simp
    with_reducible rfl
   rotate_left
   ·simp only [Act.put, List.setIfInBounds_toArray, List.set_cons_zero, List.set_cons_succ, i64_w, i32_w]
    rfl
   refine take_ (i := 3) (N := some 20) (v := ?_) (a' := ?_) #[true, true, true, true, true, true, true, false, false, false] rfl rfl (by kernel_rfl) (fun _ _ _ h => h) (Or.inl ⟨by rfl, ?_⟩) hHeld ?_ ?_
   rotate_left
   ·rintro w' ⟨s0, s1⟩
    go_simp
    with_reducible rfl
   rotate_left
   ·simp only [Act.put, List.setIfInBounds_toArray, List.set_cons_zero, List.set_cons_succ, i64_w, i32_w]
    rfl
   refine take_ (i := 7) (N := some 24) (v := ?_) (a' := ?_) #[true, true, true, true, true, true, true, true, false, false] rfl rfl (by kernel_rfl) (fun _ _ _ h => h) (Or.inl ⟨by rfl, ?_⟩) hHeld ?_ ?_
   rotate_left
   ·rintro w' ⟨s0, s1⟩
    go_simp
    with_reducible rfl
   rotate_left
   ·simp only [Act.put, List.setIfInBounds_toArray, List.set_cons_zero, List.set_cons_succ, i64_w, i32_w]
    rfl
   refine last_ (i := 8) (N := some 25) #[true, true, true, true, true, true, true, true, true, false] rfl rfl (by kernel_rfl) (by decide) (fun K hK => ?_)
   refine goes_ Try.func34 (by kernel_rfl) rfl #[.complex .f64 x1 x2, .complex .f64 x1 x2] (by rfl) rfl rfl (by simp only [List.map_toArray, List.map_cons, List.map_nil]; rfl) ?_
   with_reducible refine (same5_self x1 x2 _).mono ?_
   rintro e w2 ⟨rfl, n3, rfl⟩
   refine ⟨_, rfl, ?_⟩
   refine hK.out _ _ ?_
   clear hK K
   refine norm_ (a' := ?_) ?_ ?_
   rotate_left
   ·show Act.put _ (some 25) _ = _
    simp only [Act.put, List.setIfInBounds_toArray, List.set_cons_zero, List.set_cons_succ, i64_w, i32_w]
    rfl
   refine last_ (i := 9) (N := some 26) #[true, true, true, true, true, true, true, true, true, true] rfl rfl (by kernel_rfl) (by decide) (fun K hK => ?_)
   refine value_ (w1 := ?_) (v := ?_) (by rfl) rfl ?_ ?_
   rotate_left 2
   ·go_simp
    constructor
    ·rfl
    ·rfl
   refine hK.out _ _ ?_
   clear hK K
   refine norm_ (a' := ?_) ?_ ?_
   rotate_left
   ·show Act.put _ (some 26) _ = _
    simp only [Act.put, List.setIfInBounds_toArray, List.set_cons_zero, List.set_cons_succ, i64_w, i32_w]
    rfl
   refine done_ (by kernel_rfl) ?_
   have EB := Aside0.mk (show Below w.heap.size w W from HB.out.trans (DW.out.mono HB.out.size))
   clear q0 q1 hx hy
   go_wp2_with fail
   go_roundg m
   case measure => omega
   case rel =>
    have e : wrap64 (i + 1) = i + 1 := by have := HJ.out; have := HN.out; have := HL.out; exact w64 (by omega) (by omega)
    exact ⟨i + 1, by first | rfl | rw [e], ⟨by have := HJ.out; omega, by have := HJ.out; omega, by repeat (first | exact EB.out | refine pw_below_drewN ?_ _)⟩⟩
  | zero =>
   have hl' : decide (i < N) = false := decide_eq_false (by have := HJ.out; omega)
   go_wp2
   go_ret
   exact ⟨rfl, HB.out⟩
end Go.Proofs.Ytgjdgbonmekpiaa
namespace Go.Proofs.Ytgjdgbonmekpiaa
open Go Ieee Go.RowKit Go.Proofs.Ytgjdgbonmekpiaa.Fl Go.Proofs.Ytgjdgbonmekpiaa.Fx Go.Proofs.Ytgjdgbonmekpiaa.P Go.Proofs.YtgjdgbonmekpiaaW.PrintWords Go.Proofs.YtgjdgbonmekpiaaW.PrintLast Go.Proofs.YtgjdgbonmekpiaaW.PrintMore
set_option linter.unusedVariables false
set_option linter.unusedSimpArgs false
attribute [local go_sem] run_add run_sub run_mul run_quo run_cadd run_csub run_neg run_cneg conv_f run_store_cx
theorem Res.elim {w w' : World} {zs : Cs} {k : Int} {e : Ending} (h : Res w (zs, k) e w') : ∃ (B : Option Addr) (d : Nat), e = .returned (.tuple #[.slice B zs.length d, .int .i64 k]) ∧ cxk.C w' B zs.length zs ∧ zs.length ≤ d ∧ Below w.heap.size w w' := h
theorem monL_len {xs zs : Cs} (h : monL xs = some zs) (h0 : 1 ≤ xs.length) : zs.length = xs.length ∧ rdOf (0, 0) zs ((xs.length : Int) - 1) = one_n := by
 have h1 := monG_len xs _ _ _ _ h
 refine ⟨by omega, ?_⟩
 have h2 := h1.2
 rw [show ((xs.length - 1 : Nat) : Int) = (xs.length : Int) - 1 by omega] at h2
 exact h2
theorem monP_ok {xs zs : Cs} (h : monP xs = (zs, 0)) : zs.length = xs.length ∧ rdOf (0, 0) zs ((xs.length : Int) - 1) = one_n ∧ 2 ≤ xs.length ∧ xs.length ≤ 13 := by
 unfold monP at h
 cases h1 : polyB xs
 ·rw [h1] at h; simp at h
 rw [h1, if_pos rfl] at h
 have hp := polyB_of h1
 cases hm : monL xs with
 | none => rw [hm] at h; simp at h
 | some ys =>
  rw [hm] at h
  simp only [Prod.mk.injEq, and_true] at h
  subst h
  have hl := monL_len hm (by omega)
  exact ⟨hl.1, hl.2, hp.1, hp.2.1⟩
theorem rootsP_ok {xs zs : Cs} (h : rootsP xs = (zs, 0)) : zs.length = xs.length + 1 ∧ rdOf (0, 0) zs (xs.length : Int) = one_n ∧ xs.length ≤ 12 := by
 cases h0 : decide (1 ≤ xs.length ∧ xs.length ≤ 12)
 ·rw [rootsP_big h0] at h; simp at h
 cases h1 : finL xs
 ·rw [rootsP_inf h0 h1] at h; simp at h
 rw [rootsP_of h0 h1] at h
 cases hm : rootsT xs with
 | none => rw [hm] at h; simp at h
 | some ys =>
  rw [hm] at h
  simp only [Prod.mk.injEq, and_true] at h
  subst h
  have := ofR_len xs [one_n] ys 0 rfl rfl hm
  exact ⟨this.1, this.2, (of_decide_eq_true h0).2⟩
theorem one_eq : (FloatKind.f64.format.order 4607182418800017408 4607182418800017408 == some .eq) = true := by rw [order_self (by decide)]; rfl
theorem zero_eq : (FloatKind.f64.format.order 0 0 == some .eq) = true := by rw [order_self (by decide)]; rfl
set_option maxRecDepth 100000 in
set_option maxHeartbeats 8000000 in
theorem FnParts_calls (w : World) (A : Option Addr) (c : Nat) (l : List Int) (h : Code8 w A c l) : Calls Try.prog 3 #[.slice A l.length c] w fun e w' => e = .returned (.bool true) ∧ Below w.heap.size w w' := by
 cases hbig : decide ((l.length : Int) > 4096)
 case true =>
  go_enter Try.func3, Try.ntmps3
  go_wp2_with fail
  refine (laws_big.calls A c l true w h.r h.c (by unfold laws_big.f; rw [hbig])).mono ?_
  rintro e w1 ⟨rfl, hd⟩
  have hb := hd.below
  clear hd
  go_wp2
  go_ret
  exact ⟨rfl, hb⟩
 case false =>
  go_enter Try.func3, Try.ntmps3
  go_wp2_with fail
  refine (laws_big.calls A c l false w h.r h.c (by unfold laws_big.f; rw [hbig])).mono ?_
  rintro e w1 ⟨rfl, hd⟩
  have L := Aside0.mk (hd.below)
  clear hd hbig
  have HC := Aside0.mk h; clear h
  go_wp2_with fail
  refine (drawMulParts_calls _ A c l (HC.out.below L.out)).mono ?_
  rintro e w_ ⟨A1, c1, xs, A2, c2, ys, rfl, hi, hi2, k3⟩
  replace L := Aside0.mk (L.out.trans (k3.mono L.out.size))
  have I1 := Aside0.mk hi
  have I2 := Aside0.mk hi2
  clear hi hi2 k3
  obtain ⟨zs, k, hp⟩ : ∃ u v, mulP xs ys = (u, v) := ⟨_, _, rfl⟩
  have HP := Aside0.mk hp
  have hne : (k != k) = false := by simp
  obtain ⟨N, hN⟩ : ∃ N : Int, (xs.length : Int) = N := ⟨_, rfl⟩
  have HN := Aside0.mk hN
  clear hp
  go_wp2_with fail
  refine (MultiplyParts_calls A1 A2 c1 c2 xs ys _ I1.out.C I2.out.C (by have := I1.out.len; omega) (by have := I2.out.len; omega)).mono ?_
  rw [HP.out]
  intro e w_ h
  obtain ⟨G1, d1, rfl, k1, k2, k3⟩ := Res.elim h
  clear h
  replace I1 := Aside0.mk (I1.out.below k3)
  replace I2 := Aside0.mk (I2.out.below k3)
  replace L := Aside0.mk (L.out.trans (k3.mono L.out.size))
  have Z1 := Aside0.mk k1
  clear k1 k2 k3
  go_wp2_with fail
  refine (specMultiplyParts_calls A1 A2 c1 c2 xs ys _ I1.out.C I2.out.C (by have := I1.out.len; omega) (by have := I2.out.len; omega)).mono ?_
  rw [HP.out]
  intro e w_ h
  obtain ⟨G2, d2, rfl, k1, k2, k3⟩ := Res.elim h
  clear h
  replace I1 := Aside0.mk (I1.out.below k3)
  replace I2 := Aside0.mk (I2.out.below k3)
  replace Z1 := Aside0.mk (Kd.C_below Z1.out k3)
  replace L := Aside0.mk (L.out.trans (k3.mono L.out.size))
  have Z2 := Aside0.mk k1
  clear k1 k2 k3
  go_wp2_with fail
  refine (list5_self G1 G2 d1 d2 zs _ Z1.out Z2.out).mono ?_
  rintro e w_ ⟨rfl, k3⟩
  replace I1 := Aside0.mk (I1.out.below k3)
  replace I2 := Aside0.mk (I2.out.below k3)
  replace Z1 := Aside0.mk (Kd.C_below Z1.out k3)
  replace L := Aside0.mk (L.out.trans (k3.mono L.out.size))
  clear k3
  obtain ⟨b, hb⟩ : ∃ b, ((N == 1) && (k == 0)) = b := ⟨_, rfl⟩
  have HBB := Aside0.mk hb
  clear hb Z2
  go_upto_region 8 with fail
  clear hne
  go_cut [74] (fun v74 wc => v74 = .bool b ∧ Aside0 (Below w.heap.size w wc ∧ Inp wc A1 c1 xs ∧ Inp wc A2 c2 ys ∧ cxk.C wc G1 zs.length zs))
  case first => as_aux_lemma =>
   by_cases h0 : N = 1
   ·have d0 : (N == 1) = true := by simpa using h0
    clear h0
    by_cases h1 : k = 0
    ·have e0 : (k == 0) = true := by simpa using h1
     clear h1
     go_wp2
     go_meet
     case rel => exact ⟨by rw [← HBB.out, d0, e0]; rfl, ⟨L.out, I1.out, I2.out, Z1.out⟩⟩
    ·have e0 : (k == 0) = false := by simpa using h1
     clear h1
     go_wp2
     go_meet
     case rel => exact ⟨by rw [← HBB.out, d0, e0]; rfl, ⟨L.out, I1.out, I2.out, Z1.out⟩⟩
   ·have d0 : (N == 1) = false := by simpa using h0
    clear h0
    go_wp2
    go_meet
    case rel => exact ⟨by rw [← HBB.out, d0]; rfl, ⟨L.out, I1.out, I2.out, Z1.out⟩⟩
  case rest =>
  clear L I1 I2 Z1
  obtain ⟨rfl, hc⟩ := hcut
  have L := Aside0.mk hc.out.1; have I1 := Aside0.mk hc.out.2.1; have I2 := Aside0.mk hc.out.2.2.1; have Z1 := Aside0.mk hc.out.2.2.2
  clear hc
  go_upto_if 74 with (fail)
  go_cut [] (fun wc => Aside0 (Below w.heap.size w wc))
  case first => as_aux_lemma =>
   cases b
   ·go_wp2
    go_meet
    case rel => exact ⟨by repeat (first | exact L.out | refine pw_below_drewN ?_ _)⟩
   ·have hb := HBB.out
    rw [Bool.and_eq_true] at hb
    have hk : k = 0 := by simpa using hb.2
    have hn : N = 1 := by simpa using hb.1
    have X1 := Aside0.mk (show xs.length = 1 by have := HN.out; omega)
    have e1 : (k != 0) = false := by simpa using hk
    have HQ := Aside0.mk (show mulP ys xs = (zs, k) by
     rcases mulP_one (ys := ys) X1.out with h | h
     ·rw [← h]; exact HP.out
     ·rw [HP.out] at h; exact absurd hk h)
    clear hb hk hn
    go_wp2_with fail
    refine (MultiplyParts_calls A2 A1 c2 c1 ys xs _ I2.out.C I1.out.C (by have := I2.out.len; omega) (by have := I1.out.len; omega)).mono ?_
    rw [HQ.out]
    intro e w_ h
    obtain ⟨G3, d3, rfl, k1, k2, k3⟩ := Res.elim h
    clear h
    replace Z1 := Aside0.mk (Kd.C_below Z1.out k3)
    replace L := Aside0.mk (L.out.trans (k3.mono L.out.size))
    have Z3 := Aside0.mk k1
    clear k1 k2 k3
    go_wp2_with fail
    refine (list5_self G3 G1 d3 d1 zs _ Z3.out Z1.out).mono ?_
    rintro e w_ ⟨rfl, k3⟩
    replace L := Aside0.mk (L.out.trans (k3.mono L.out.size))
    clear k3
    go_wp2
    go_meet
    case rel => exact ⟨by repeat (first | exact L.out | refine pw_below_drewN ?_ _)⟩
  case rest =>
   clear L HP Z1 I1 I2
   have L := Aside0.mk hcut.out
   clear hcut
   go_wp2_with fail
   refine (drawAddParts_calls _ A c l (HC.out.below L.out)).mono ?_
   rintro e w_ ⟨A1, c1, xs, A2, c2, ys, rfl, hi, hi2, k3⟩
   replace L := Aside0.mk (L.out.trans (k3.mono L.out.size))
   have I1 := Aside0.mk hi
   have I2 := Aside0.mk hi2
   clear hi hi2 k3
   obtain ⟨zs, k, hp⟩ : ∃ u v, addP xs ys = (u, v) := ⟨_, _, rfl⟩
   have HP := Aside0.mk hp
   have HQ := Aside0.mk (show addP ys xs = (zs, k) by rw [addP_comm]; exact hp)
   have hne : (k != k) = false := by simp
   clear hp
   go_wp2_with fail
   refine (AddParts_calls A1 A2 c1 c2 xs ys _ I1.out.C I2.out.C (by have := I1.out.len; omega) (by have := I2.out.len; omega)).mono ?_
   rw [HP.out]
   intro e w_ h
   obtain ⟨G1, d1, rfl, k1, k2, k3⟩ := Res.elim h
   clear h
   replace I1 := Aside0.mk (I1.out.below k3)
   replace I2 := Aside0.mk (I2.out.below k3)
   replace L := Aside0.mk (L.out.trans (k3.mono L.out.size))
   have Z1 := Aside0.mk k1
   clear k1 k2 k3
   go_wp2_with fail
   refine (specAddParts_calls A1 A2 c1 c2 xs ys _ I1.out.C I2.out.C (by have := I1.out.len; omega) (by have := I2.out.len; omega)).mono ?_
   rw [HP.out]
   intro e w_ h
   obtain ⟨G2, d2, rfl, k1, k2, k3⟩ := Res.elim h
   clear h
   replace I1 := Aside0.mk (I1.out.below k3)
   replace I2 := Aside0.mk (I2.out.below k3)
   replace Z1 := Aside0.mk (Kd.C_below Z1.out k3)
   replace L := Aside0.mk (L.out.trans (k3.mono L.out.size))
   have Z2 := Aside0.mk k1
   clear k1 k2 k3
   go_wp2_with fail
   refine (AddParts_calls A2 A1 c2 c1 ys xs _ I2.out.C I1.out.C (by have := I2.out.len; omega) (by have := I1.out.len; omega)).mono ?_
   rw [HQ.out]
   intro e w_ h
   obtain ⟨G3, d3, rfl, k1, k2, k3⟩ := Res.elim h
   clear h
   replace Z1 := Aside0.mk (Kd.C_below Z1.out k3)
   replace Z2 := Aside0.mk (Kd.C_below Z2.out k3)
   replace L := Aside0.mk (L.out.trans (k3.mono L.out.size))
   have Z3 := Aside0.mk k1
   clear k1 k2 k3
   go_wp2_with fail
   refine (list5_self G1 G2 d1 d2 zs _ Z1.out Z2.out).mono ?_
   rintro e w_ ⟨rfl, k3⟩
   replace Z1 := Aside0.mk (Kd.C_below Z1.out k3)
   replace Z3 := Aside0.mk (Kd.C_below Z3.out k3)
   replace L := Aside0.mk (L.out.trans (k3.mono L.out.size))
   clear k3
   go_wp2_with fail
   refine (list5_self G3 G1 d3 d1 zs _ Z3.out Z1.out).mono ?_
   rintro e w_ ⟨rfl, k3⟩
   replace L := Aside0.mk (L.out.trans (k3.mono L.out.size))
   clear k3
   go_upto_if 131 with (fail)
   go_cut [] (fun wc => Aside0 (Below w.heap.size w wc))
   case first => as_aux_lemma =>
    go_wp2
    go_meet
    case rel => exact ⟨by repeat (first | exact L.out | refine pw_below_drewN ?_ _)⟩
   case rest =>
    clear L HP HQ Z1 Z2 Z3 I1 I2 hne
    have L := Aside0.mk hcut.out
    clear hcut
    go_wp2_with fail
    refine (drawMonic_calls _ A c l (HC.out.below L.out)).mono ?_
    rintro e w_ ⟨A1, c1, xs, rfl, hi, k3⟩
    replace L := Aside0.mk (L.out.trans (k3.mono L.out.size))
    have I1 := Aside0.mk hi
    clear hi k3
    obtain ⟨zs, k, hp⟩ : ∃ u v, monP xs = (u, v) := ⟨_, _, rfl⟩
    have HP := Aside0.mk hp
    have hne : (k != k) = false := by simp
    obtain ⟨N, hN⟩ : ∃ N : Int, (xs.length : Int) = N := ⟨_, rfl⟩
    have HN := Aside0.mk hN
    obtain ⟨M, hM⟩ : ∃ M : Int, (zs.length : Int) = M := ⟨_, rfl⟩
    have HM := Aside0.mk hM
    clear hp
    go_wp2_with fail
    refine (MakeMonic_calls A1 c1 xs _ I1.out.C (by have := I1.out.len; omega) I1.out.cap I1.out.words).mono ?_
    rw [HP.out]
    intro e w_ h
    obtain ⟨G1, d1, rfl, k1, k2, k3⟩ := Res.elim h
    clear h
    replace I1 := Aside0.mk (I1.out.below k3)
    replace L := Aside0.mk (L.out.trans (k3.mono L.out.size))
    have Z1 := Aside0.mk k1
    clear k1 k2 k3
    go_wp2_with fail
    refine (specMakeMonic_calls A1 c1 xs _ I1.out.C (by have := I1.out.len; omega)).mono ?_
    rw [HP.out]
    intro e w_ h
    obtain ⟨G2, d2, rfl, k1, k2, k3⟩ := Res.elim h
    clear h
    replace I1 := Aside0.mk (I1.out.below k3)
    replace Z1 := Aside0.mk (Kd.C_below Z1.out k3)
    replace L := Aside0.mk (L.out.trans (k3.mono L.out.size))
    have Z2 := Aside0.mk k1
    clear k1 k2 k3
    go_upto_region 21 with fail
    go_cut [172] (fun v172 wc => v172 = .bool false ∧ Aside0 (Below w.heap.size w wc))
    case first => as_aux_lemma =>
     go_wp2_with fail
     refine (list5_self G1 G2 d1 d2 zs _ Z1.out Z2.out).mono ?_
     rintro e w_ ⟨rfl, k3⟩
     replace Z1 := Aside0.mk (Kd.C_below Z1.out k3)
     replace L := Aside0.mk (L.out.trans (k3.mono L.out.size))
     clear k3
     by_cases h0 : k = 0
     ·have d0 : (k == 0) = true := by simpa using h0
      subst h0
      obtain ⟨m1, m2, m3, m4⟩ := monP_ok HP.out
      have eM : M = N := by have := HN.out; have := HM.out; omega
      subst eM
      have hne2 : (M != M) = false := by simp
      have hw : wrap64 (M - 1) = M - 1 := by have := HN.out; exact w64 (by omega) (by omega)
      obtain ⟨ad, rfl, hx⟩ := cx_at Z1.out (M - 1) (by have := HN.out; omega) (by have := HM.out; omega)
      rw [show M - 1 = (xs.length : Int) - 1 by rw [hN], m2, hN, show (M - 1).toNat = M.toNat - 1 by omega] at hx
      have hp0 : 0 < M := by have := HN.out; omega
      have hp1 : M ≤ 30 := by have := HN.out; omega
      have q0 := eq_true (show 1 ≤ M by have := HN.out; omega)
      have q1 := eq_true (show 0 ≤ M - 1 by have := HN.out; omega)
      have q2 := eq_true (show M - 1 < M by omega)
      have o1 := one_eq
      have o2 := zero_eq
      clear m1 m2 m3 m4
      go_wp2
      go_meet
      case rel => exact ⟨rfl, ⟨by repeat (first | exact L.out | refine pw_below_drewN ?_ _)⟩⟩
     ·have d0 : (k == 0) = false := by simpa using h0
      clear h0
      go_wp2
      go_meet
      case rel => exact ⟨rfl, ⟨by repeat (first | exact L.out | refine pw_below_drewN ?_ _)⟩⟩
    case rest =>
     clear L HP Z1 Z2 I1 hne
     obtain ⟨rfl, L⟩ := hcut
     go_wp2_with fail
     refine (drawDeriv_calls _ A c l (HC.out.below L.out)).mono ?_
     rintro e w_ ⟨A1, c1, xs, rfl, hi, k3⟩
     replace L := Aside0.mk (L.out.trans (k3.mono L.out.size))
     have I1 := Aside0.mk hi
     clear hi k3
     obtain ⟨zs, k, hp⟩ : ∃ u v, derP xs = (u, v) := ⟨_, _, rfl⟩
     have HP := Aside0.mk hp
     have hne : (k != k) = false := by simp
     clear hp
     go_wp2_with fail
     refine (DerivativeOf_calls A1 c1 xs _ I1.out.C (by have := I1.out.len; omega)).mono ?_
     rw [HP.out]
     intro e w_ h
     obtain ⟨G1, d1, rfl, k1, k2, k3⟩ := Res.elim h
     clear h
     replace I1 := Aside0.mk (I1.out.below k3)
     replace L := Aside0.mk (L.out.trans (k3.mono L.out.size))
     have Z1 := Aside0.mk k1
     clear k1 k2 k3
     go_wp2_with fail
     refine (specDerivativeOf_calls A1 c1 xs _ I1.out.C (by have := I1.out.len; omega)).mono ?_
     rw [HP.out]
     intro e w_ h
     obtain ⟨G2, d2, rfl, k1, k2, k3⟩ := Res.elim h
     clear h
     replace I1 := Aside0.mk (I1.out.below k3)
     replace Z1 := Aside0.mk (Kd.C_below Z1.out k3)
     replace L := Aside0.mk (L.out.trans (k3.mono L.out.size))
     have Z2 := Aside0.mk k1
     clear k1 k2 k3
     go_wp2_with fail
     refine (list5_self G1 G2 d1 d2 zs _ Z1.out Z2.out).mono ?_
     rintro e w_ ⟨rfl, k3⟩
     replace L := Aside0.mk (L.out.trans (k3.mono L.out.size))
     clear k3
     go_upto_if 193 with (fail)
     go_cut [] (fun wc => Aside0 (Below w.heap.size w wc))
     case first => as_aux_lemma =>
      go_wp2
      go_meet
      case rel => exact ⟨by repeat (first | exact L.out | refine pw_below_drewN ?_ _)⟩
     case rest =>
      clear L HP Z1 Z2 I1 hne
      have L := Aside0.mk hcut.out
      clear hcut
      go_wp2_with fail
      refine (drawScale_calls _ A c l (HC.out.below L.out)).mono ?_
      rintro e w_ ⟨A1, c1, xs, q, rfl, hi, k3⟩
      replace L := Aside0.mk (L.out.trans (k3.mono L.out.size))
      have I1 := Aside0.mk hi
      clear hi k3
      obtain ⟨zs, k, hp⟩ : ∃ u v, sclP xs q = (u, v) := ⟨_, _, rfl⟩
      have HP := Aside0.mk hp
      have hne : (k != k) = false := by simp
      clear hp
      go_wp2_with fail
      refine (ScalePolynomial_calls A1 c1 xs q _ I1.out.C (by have := I1.out.len; omega)).mono ?_
      rw [HP.out]
      intro e w_ h
      obtain ⟨G1, d1, rfl, k1, k2, k3⟩ := Res.elim h
      clear h
      replace I1 := Aside0.mk (I1.out.below k3)
      replace L := Aside0.mk (L.out.trans (k3.mono L.out.size))
      have Z1 := Aside0.mk k1
      clear k1 k2 k3
      go_wp2_with fail
      refine (specScalePolynomial_calls A1 c1 xs q _ I1.out.C (by have := I1.out.len; omega)).mono ?_
      rw [HP.out]
      intro e w_ h
      obtain ⟨G2, d2, rfl, k1, k2, k3⟩ := Res.elim h
      clear h
      replace I1 := Aside0.mk (I1.out.below k3)
      replace Z1 := Aside0.mk (Kd.C_below Z1.out k3)
      replace L := Aside0.mk (L.out.trans (k3.mono L.out.size))
      have Z2 := Aside0.mk k1
      clear k1 k2 k3
      go_wp2_with fail
      refine (list5_self G1 G2 d1 d2 zs _ Z1.out Z2.out).mono ?_
      rintro e w_ ⟨rfl, k3⟩
      replace L := Aside0.mk (L.out.trans (k3.mono L.out.size))
      clear k3
      go_upto_if 219 with (fail)
      go_cut [] (fun wc => Aside0 (Below w.heap.size w wc))
      case first => as_aux_lemma =>
       go_wp2
       go_meet
       case rel => exact ⟨by repeat (first | exact L.out | refine pw_below_drewN ?_ _)⟩
      case rest =>
       clear L HP Z1 Z2 I1 hne
       have L := Aside0.mk hcut.out
       clear hcut
       go_wp2_with fail
       refine (drawRoots_calls _ A c l (HC.out.below L.out)).mono ?_
       rintro e w_ ⟨A1, c1, xs, rfl, hi, k3⟩
       replace L := Aside0.mk (L.out.trans (k3.mono L.out.size))
       have I1 := Aside0.mk hi
       clear hi k3
       obtain ⟨zs, k, hp⟩ : ∃ u v, rootsP xs = (u, v) := ⟨_, _, rfl⟩
       have HP := Aside0.mk hp
       have hne : (k == k) = true := by simp
       obtain ⟨N, hN⟩ : ∃ N : Int, (xs.length : Int) = N := ⟨_, rfl⟩
       have HN := Aside0.mk hN
       obtain ⟨M, hM⟩ : ∃ M : Int, (zs.length : Int) = M := ⟨_, rfl⟩
       have HM := Aside0.mk hM
       clear hp
       go_wp2_with fail
       refine (PolynomialOfRoots_calls A1 c1 xs _ I1.out.C (by have := I1.out.len; omega)).mono ?_
       rw [HP.out]
       intro e w_ h
       obtain ⟨G1, d1, rfl, k1, k2, k3⟩ := Res.elim h
       clear h
       replace I1 := Aside0.mk (I1.out.below k3)
       replace L := Aside0.mk (L.out.trans (k3.mono L.out.size))
       have Z1 := Aside0.mk k1
       clear k1 k2 k3
       go_wp2_with fail
       refine (specPolynomialOfRoots_calls A1 c1 xs _ I1.out.C (by have := I1.out.len; omega)).mono ?_
       rw [HP.out]
       intro e w_ h
       obtain ⟨G2, d2, rfl, k1, k2, k3⟩ := Res.elim h
       clear h
       replace I1 := Aside0.mk (I1.out.below k3)
       replace Z1 := Aside0.mk (Kd.C_below Z1.out k3)
       replace L := Aside0.mk (L.out.trans (k3.mono L.out.size))
       have Z2 := Aside0.mk k1
       clear k1 k2 k3
       go_wp2_with fail
       refine (list5_self G1 G2 d1 d2 zs _ Z1.out Z2.out).mono ?_
       rintro e w_ ⟨rfl, k3⟩
       replace Z1 := Aside0.mk (Kd.C_below Z1.out k3)
       replace L := Aside0.mk (L.out.trans (k3.mono L.out.size))
       clear k3
       by_cases h0 : k = 0
       ·have d0 : (k != 0) = false := by simpa using h0
        subst h0
        obtain ⟨m1, m2, m3⟩ := rootsP_ok HP.out
        have eM : M = N + 1 := by have := HN.out; have := HM.out; omega
        subst eM
        have hw : wrap64 (N + 1) = N + 1 := by have := HN.out; exact w64 (by omega) (by omega)
        have hne2 : (N + 1 == N + 1) = true := by simp
        obtain ⟨ad, rfl, hx⟩ := cx_at Z1.out N (by have := HN.out; omega) (by have := HM.out; omega)
        rw [show (N : Int) = (xs.length : Int) from hN.symm, m2, hN] at hx
        have q1 := eq_true (show 0 ≤ N by have := HN.out; omega)
        have q2 := eq_true (show N < N + 1 by omega)
        have o1 := one_eq
        have o2 := zero_eq
        clear m1 m2 m3
        go_wp2
        go_ret
        exact ⟨rfl, by repeat (first | exact L.out | refine pw_below_drewN ?_ _)⟩
       ·have d0 : (k != 0) = true := by simpa using h0
        clear h0
        go_wp2
        go_ret
        exact ⟨rfl, by repeat (first | exact L.out | refine pw_below_drewN ?_ _)⟩
end Go.Proofs.Ytgjdgbonmekpiaa
