/- impl.valueOf: a finite float's whole number and power; impl.DyadicOf. -/
import Derived.Test.YtdbdhgimokaooaaDoorG19
import Derived.Test.YtdbdhgimokaooaaDoorFd1
namespace Go.Proofs.YtdbdhgimokaooaaDoor
open Go Go.RowKit Go.Proofs.YtdbdhgimokaooaaDoor.Fl Go.Proofs.YtdbdhgimokaooaaDoor.Fx Go.Proofs.YtdbdhgimokaooaaDoorW.PrintWords Go.Proofs.YtdbdhgimokaooaaDoorW.PrintLast Go.Proofs.YtdbdhgimokaooaaDoorW.PrintMore Go.Proofs.YtdbdhgimokaooaaDoor.Math Go.Proofs.YtdbdhgimokaooaaDoor.Big
set_option linter.unusedVariables false
set_option linter.unusedSimpArgs false
def vn (x : Nat) : Int := if U x = 0 then 0 else Ieee.signed ((nrm x).1 / 9223372036854775808 == 1) (4503599627370496 + (nrm x).1 % 4503599627370496) 0
def vp (x : Nat) : Int := if U x = 0 then -53 else (nrm x).2 + ((nrm x).1 % 9223372036854775808 / 4503599627370496 : Nat) - 1022 - 53
theorem signed_zero_bound (s : Bool) {m : Nat} (h : m < 9007199254740992) : -9223372036854775808 ≤ Ieee.signed s m 0 ∧ Ieee.signed s m 0 ≤ 9223372036854775807 := by
 unfold Ieee.signed
 rw [Nat.shiftLeft_zero]
 cases s <;> simp <;> omega
set_option maxRecDepth 100000 in
theorem valueOf_calls (x : Nat) (h : x < 2 ^ 64) (hf : isFin x = true) (w : World) : Calls Tryd.prog 54 #[.float .f64 x] w fun e w' => ∃ z, e = .returned (.agg #[.pointer (some ⟨z, 0, none⟩), .int .i64 (vp x)]) ∧ Big w' z (vn x) 2 ∧ Below w.heap.size w w' := by
 have R0 := Aside0.mk (ResN.next (Below.refl w.heap.size w))
 unfold vn vp
 by_cases hz : U x = 0
 ·rw [if_pos hz, if_pos hz]
  have hx : frx x = (x, 0) := by unfold frx; rw [if_pos hz]
  have hr : ∃ m, Ieee.double.read x = .number (sg x) 0 m ∧ (m = -1074) := by
   have := (isFin_iff x).1 hf
   by_cases hs : x % 9223372036854775808 < 4503599627370496
   ·have h1 := U_sub hs
    rw [hz] at h1
    have h2 := read_sub hs
    rw [← h1] at h2
    exact ⟨_, h2, rfl⟩
   ·have h1 := U_norm hs hf
    rw [hz] at h1
    have h2 := signed_natAbs (sg x) (4503599627370496 + x % 4503599627370496) (x % 9223372036854775808 / 4503599627370496 - 1)
    rw [← h1] at h2
    have := Nat.mul_pos (show 0 < 4503599627370496 + x % 4503599627370496 from by omega) (Nat.two_pow_pos (x % 9223372036854775808 / 4503599627370496 - 1))
    simp only [Int.natAbs_zero] at h2
    omega
  have hi : floatToIntVal .f64 x .i64 = some 0 := by
   obtain ⟨m, h1, rfl⟩ := hr
   unfold floatToIntVal
   show (match (Ieee.double.read x).toInt .zero with | some n => if IntKind.i64.min ≤ n ∧ n ≤ IntKind.i64.max then some n else none | none => none) = _
   rw [h1]
   cases sg x <;> decide
  have hc : ∀ w : World, (convert 44 2 (.float .f64 x)).run Tryd.prog w = .ok (.int .i64 0) w := fun w => run_convert_float_int w 44 2 .f64 .i64 x 0 (by rw [Tryd.underlying44]; rfl) Tryd.underlying2 hi
  clear hr hi
  go_enter Tryd.func54, Tryd.ntmps54
  go_wp2_with fail
  refine (Frexp_calls x h hf _).mono ?_
  rintro e1 w1 ⟨rfl, rfl⟩
  rw [hx]
  go_wp2_with fail
  refine (Ldexp_zero x hf hz _).mono ?_
  rintro e1 w1 ⟨rfl, rfl⟩
  go_wp2_with (simp only [hc])
  refine (newBig_calls 0 _ (by omega) (by omega)).mono ?_
  rintro e1 w2 ⟨rfl, hb, hlo⟩
  have R1 := Aside0.mk (R0.out.below hlo)
  rw [alloc_size] at hb
  have B := Aside0.mk hb
  obtain ⟨q0, q1, q2, q3⟩ := R1.out.cells
  clear hb hlo
  go_wp2
  refine bodyPost_ret (results_c1 rfl _ _ w.heap.size 62 #[.pointer (some ⟨w.heap.size + 1, 0, none⟩), .int .i64 (-53)] (0, 0) _ rfl (R1.out.put _ _) Tryd.underlying62 rfl (by kernel_rfl)) rfl ?_
  exact ⟨_, rfl, R1.out.big B.out _ _, R1.out.low _ _⟩
 ·rw [if_neg hz, if_neg hz]
  obtain ⟨g1, g2, g3, g4, -⟩ := nrm_spec h hf hz
  have gf := (isFin_iff _).1 g2
  obtain ⟨y, e, hy⟩ : ∃ y e, nrm x = (y, e) := ⟨_, _, rfl⟩
  have hx : frx x = (half_ (y / 9223372036854775808) (y % 4503599627370496), e + (y % 9223372036854775808 / 4503599627370496 : Nat) - 1022) := by unfold frx; rw [if_neg hz, hy]; rfl
  rw [hy] at g1 g2 g3 g4 gf ⊢
  simp only at g1 g2 g3 g4 gf ⊢
  have he : e = 0 ∨ e = -52 := by rcases g4 with ⟨g, -⟩ | ⟨g, -⟩ <;> omega
  have hs : y / 9223372036854775808 < 2 := by omega
  have hfr : y % 4503599627370496 < 4503599627370496 := Nat.mod_lt _ (by omega)
  have hq : y % 9223372036854775808 / 4503599627370496 < 2048 := by omega
  have hpp : ∃ P, P = e + ((y % 9223372036854775808 / 4503599627370496 : Nat) : Int) - 1022 ∧ -3000 ≤ P ∧ P ≤ 3000 := ⟨_, rfl, by omega, by omega⟩
  obtain ⟨P, hP, hP1, hP2⟩ := hpp
  rw [← hP] at hx ⊢
  obtain ⟨N, hN⟩ : ∃ N, N = Ieee.signed (y / 9223372036854775808 == 1) (4503599627370496 + y % 4503599627370496) 0 := ⟨_, rfl⟩
  have hb2 := signed_zero_bound (y / 9223372036854775808 == 1) (show 4503599627370496 + y % 4503599627370496 < 9007199254740992 from by omega)
  rw [← hN] at hb2 ⊢
  clear g4 gf g3 g2 hq he hP
  go_enter Tryd.func54, Tryd.ntmps54
  go_wp2_with fail
  refine (Frexp_calls x h hf _).mono ?_
  rintro e1 w1 ⟨rfl, rfl⟩
  rw [hx]
  go_wp2_with fail
  refine (Ldexp_calls _ _ hs hfr _).mono ?_
  rintro e1 w1 ⟨⟨v, rfl, hv⟩, rfl⟩
  have hi := toInt_of hv (by omega)
  rw [← hN] at hi
  have hc : ∀ w : World, (convert 44 2 (.float .f64 v)).run Tryd.prog w = .ok (.int .i64 N) w := fun w => run_convert_float_int w 44 2 .f64 .i64 v N (by rw [Tryd.underlying44]; rfl) Tryd.underlying2 hi
  clear hi hv hN hx hz hy
  go_wp2_with (simp only [hc])
  refine (newBig_calls N _ hb2.1 hb2.2).mono ?_
  rintro e1 w2 ⟨rfl, hb, hlo⟩
  have R1 := Aside0.mk (R0.out.below hlo)
  rw [alloc_size] at hb
  have B := Aside0.mk hb
  obtain ⟨q0, q1, q2, q3⟩ := R1.out.cells
  clear hb hlo
  go_wp2
  refine bodyPost_ret (results_c1 rfl _ _ w.heap.size 62 #[.pointer (some ⟨w.heap.size + 1, 0, none⟩), .int .i64 (P - 53)] (0, 0) _ rfl (R1.out.put _ _) Tryd.underlying62 rfl (by kernel_rfl)) rfl ?_
  exact ⟨_, rfl, R1.out.big B.out _ _, R1.out.low _ _⟩
theorem vp_bound {x : Nat} (h : x < 2 ^ 64) (hf : isFin x = true) : -3000 ≤ vp x ∧ vp x ≤ 3000 := by
 unfold vp
 by_cases hz : U x = 0
 ·rw [if_pos hz]; omega
 ·rw [if_neg hz]
  obtain ⟨g1, g2, g3, g4, -⟩ := nrm_spec h hf hz
  have gf := (isFin_iff _).1 g2
  obtain ⟨y, e, hy⟩ : ∃ y e, nrm x = (y, e) := ⟨_, _, rfl⟩
  rw [hy] at g4 gf ⊢
  simp only at g4 gf ⊢
  have he : e = 0 ∨ e = -52 := by rcases g4 with ⟨g, -⟩ | ⟨g, -⟩ <;> omega
  omega
def dyO (x : Nat) : Int × List Int × Int × Int := if isFin x then dyfit (vn x) (vp x) else (0, [], 0, 1)
def impl_DyadicOf.f (a0 : Nat) : Option (Int × List Int × Int × Int) := if a0 < 18446744073709551616 then some (dyO a0) else none
set_option maxRecDepth 100000 in
theorem impl_DyadicOf.calls (a0 : Nat) (r1 : Int) (r2 : List Int) (r3 r4 : Int) (w : World) (hT : Tab w) (h : impl_DyadicOf.f a0 = some (r1, r2, r3, r4)) :
  Calls Tryd.prog 24 #[.float .f64 a0] w fun e w' => ∃ v1_ : Value, e = .returned (.tuple #[.agg #[.int .i64 r1, v1_, .int .i64 r3], .int .i64 r4]) ∧ Kd.R (Kd.int .i64) 2 w' w.heap.size (fun _ => True) v1_ r2 ∧ Below w.heap.size w w' := by
 unfold impl_DyadicOf.f at h
 split at h
 case isFalse => cases h
 rename_i hl
 injection h with h
 have R0 := Aside0.mk (ResD.next (Below.refl w.heap.size w))
 have HT := Aside0.mk hT
 clear hT
 unfold dyO at h
 cases hf : isFin a0
 ·rw [hf] at h
  simp only [Bool.false_eq_true, if_false, Prod.mk.injEq] at h
  obtain ⟨rfl, rfl, rfl, rfl⟩ := h
  have HF := Aside0.mk hf
  clear hf
  go_enter Tryd.func24, Tryd.ntmps24
  go_wp2_with fail
  refine (isReal_calls a0 _).mono ?_
  rintro e w1 ⟨rfl, n, rfl⟩
  rw [HF.out]
  have R1 := Aside0.mk (R0.out.below (pw_below_drewN (Below.refl _ _) n))
  generalize (w.alloc (.cells #[.int .i64 0, .slice none 0 0, .int .i64 0] 28)).drewN n = w1 at R1 ⊢
  obtain ⟨q0, q1, q2, q3, q4, q5⟩ := R1.out.cells
  go_wp2_with fail
  refine bodyPost_ret (results_ct rfl _ _ w.heap.size 28 #[.int .i64 0, .slice none 0 0, .int .i64 0] (0, 0) _ rfl (R1.out.put _ _ _) Tryd.underlying28 rfl (by kernel_rfl)) rfl ?_
  exact ⟨_, rfl, R1.out.row (own_zero w1 w.heap.size) (by omega) _ _ _, R1.out.low _ _ _⟩
 ·rw [hf] at h
  simp only [if_true] at h
  have HF := Aside0.mk hf
  have HH := Aside0.mk h
  have HP := Aside0.mk (vp_bound hl hf)
  clear hf h
  go_enter Tryd.func24, Tryd.ntmps24
  go_wp2_with fail
  refine (isReal_calls a0 _).mono ?_
  rintro e w1 ⟨rfl, n, rfl⟩
  rw [HF.out]
  have R1 := Aside0.mk (R0.out.below (pw_below_drewN (Below.refl _ _) n))
  generalize (w.alloc (.cells #[.int .i64 0, .slice none 0 0, .int .i64 0] 28)).drewN n = w1 at R1 ⊢
  go_wp2_with fail
  refine (valueOf_calls a0 hl HF.out _).mono ?_
  rintro e w2 ⟨z, rfl, hbig, hb⟩
  have R2 := Aside0.mk (R1.out.below hb)
  have BB := Aside0.mk hbig
  clear hb hbig
  go_wp2_with fail
  refine (dyadic_calls z _ _ 2 w2 BB.out (by omega) (by have := HP.out; omega) (by have := HP.out; omega) (HT.out.below R2.out.lo) r1 r2 r3 r4 HH.out).mono ?_
  rintro e w3 ⟨v1, rfl, hrow, hb⟩
  have R3 := Aside0.mk (R2.out.below hb)
  have HRW := Aside0.mk hrow
  obtain ⟨A1, c1, rfl⟩ := own_slice hrow
  obtain ⟨q0, q1, q2, q3, q4, q5⟩ := R3.out.cells
  clear hb hrow
  go_wp2_with fail
  refine bodyPost_ret (results_ct rfl _ _ w.heap.size 28 #[.int .i64 r1, .slice A1 r2.length c1, .int .i64 r3] (0, 0) _ rfl (R3.out.put _ _ _) Tryd.underlying28 rfl (by kernel_rfl)) rfl ?_
  exact ⟨_, rfl, R3.out.row HRW.out R2.out.lo.size _ _ _, R3.out.low _ _ _⟩
end Go.Proofs.YtdbdhgimokaooaaDoor
