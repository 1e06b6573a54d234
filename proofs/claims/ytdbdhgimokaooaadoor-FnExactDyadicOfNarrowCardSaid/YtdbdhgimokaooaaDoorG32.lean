/- spec.l03Of walked: a finite float's exact number; spec.DyadicOf. -/
import Derived.Test.YtdbdhgimokaooaaDoorFd2
import Derived.Test.YtdbdhgimokaooaaDoorFx2
import Derived.Test.YtdbdhgimokaooaaDoorPurC
import Derived.Test.YtdbdhgimokaooaaDoorG9
import Derived.Test.YtdbdhgimokaooaaDoorG27
namespace Go.Proofs.YtdbdhgimokaooaaDoor
open Go Go.RowKit Go.Proofs.YtdbdhgimokaooaaDoor.Fl Go.Proofs.YtdbdhgimokaooaaDoor.Fx Go.Proofs.YtdbdhgimokaooaaDoor.X Go.Proofs.YtdbdhgimokaooaaDoor.Pur Go.Proofs.YtdbdhgimokaooaaDoorW.PrintWords Go.Proofs.YtdbdhgimokaooaaDoorW.PrintLast Go.Proofs.YtdbdhgimokaooaaDoorW.PrintMore Go.Proofs.YtdbdhgimokaooaaDoor.Math Go.Proofs.YtdbdhgimokaooaaDoor.Big
set_option linter.unusedVariables false
set_option linter.unusedSimpArgs false
attribute [local go_sem] run_add run_sub run_mul run_quo run_neg
def fbits : Value → Nat
 | .float _ b => b
 | _ => 0
def ival : Value → Int
 | .int _ n => n
 | _ => 0
theorem vn_value {x : Nat} (h : x < 2 ^ 64) (hf : isFin x = true) (hz : U x ≠ 0) : ∃ q a : Nat, vn x * 2 ^ q = U x * 2 ^ a ∧ vp x = (q : Int) - a - 1074 ∧ a ≤ 52 := by
 obtain ⟨g1, g2, g3, g4, -⟩ := nrm_spec h hf hz
 have hn := U_norm g3 g2
 have hg3 := g3
 have gf := (isFin_iff _).1 g2
 unfold vn vp
 rw [if_neg hz, if_neg hz]
 obtain ⟨y, e, hy⟩ : ∃ y e, nrm x = (y, e) := ⟨_, _, rfl⟩
 rw [hy] at g1 g4 hn hg3 gf ⊢
 simp only at g1 g4 hn hg3 gf ⊢
 have hs : sg y = (y / 9223372036854775808 == 1) := by
  unfold sg
  rw [show y / 9223372036854775808 % 2 = y / 9223372036854775808 from by omega]
 rw [hs] at hn
 have hN : U y = Ieee.signed (y / 9223372036854775808 == 1) (4503599627370496 + y % 4503599627370496) 0 * 2 ^ (y % 9223372036854775808 / 4503599627370496 - 1) := by
  rw [hn, signed_eq, signed_eq, Int.pow_zero, Int.mul_one, Int.mul_assoc]
 rcases g4 with ⟨rfl, g⟩ | ⟨rfl, g⟩
 ·refine ⟨y % 9223372036854775808 / 4503599627370496 - 1, 0, by rw [← hN, g, Int.pow_zero, Int.mul_one], by omega, by omega⟩
 ·refine ⟨y % 9223372036854775808 / 4503599627370496 - 1, 52, by rw [← hN, g]; rfl, by omega, by omega⟩
theorem same_dymk {N T V p e : Int} {q a j n : Nat} {G : Nat} (hG : G = 1074) (h1 : N * 2 ^ q = V * 2 ^ a) (hp : p = (q : Int) - a - 1074) (h2 : T * 2 ^ G * 2 ^ n = V * 2 ^ j) (he : e = (n : Int) - j) : dymk T e = dymk N p := by
 have a1 := dymk_shift N (-(a : Int) - 1074 - j) (q + j)
 have a2 := dymk_shift T (-(a : Int) - 1074 - j) (G + n + a)
 have e1 : N * 2 ^ (q + j) = T * 2 ^ (G + n + a) := by
  rw [Int.pow_add, ← Int.mul_assoc, h1, Int.pow_add, Int.pow_add, ← Int.mul_assoc, ← Int.mul_assoc, h2, Int.mul_assoc, Int.mul_assoc, Int.mul_comm (2 ^ a) (2 ^ j)]
 rw [e1, a2] at a1
 rw [show (-(a : Int) - 1074 - j + ((G + n + a : Nat) : Int)) = e from by omega, show (-(a : Int) - 1074 - j + ((q + j : Nat) : Int)) = p from by omega] at a1
 exact a1
theorem kk54 {E : Nat} (hE : E = 1075) : 2 ^ 54 ≤ KK E := by
 unfold KK
 have h : 2 ^ 2 ≤ 2 ^ E := Nat.pow_le_pow_right (by omega) (by omega)
 have : 4503599627370496 * 2 ^ 2 ≤ 4503599627370496 * 2 ^ E := Nat.mul_le_mul_left _ h
 have e : 4503599627370496 * 2 ^ 2 = 2 ^ 54 := by decide
 omega
theorem kk2097 {E k : Nat} (hE : E = 1075) (hk : k = 2097) : KK E ≤ 2 ^ k := by
 unfold KK
 have e : (4503599627370496 : Nat) = 2 ^ 52 := by decide
 rw [e, ← Nat.pow_add]
 exact Nat.pow_le_pow_right (by omega) (by omega)
theorem n_bound {x b n : Nat} (hf : isFin x = true) (hx : U x ≠ 0) (h : U x = U b * 2 ^ n) : n < 2098 := by
 obtain ⟨E, hE⟩ : ∃ E, E = 2045 := ⟨_, rfl⟩
 have h1 := U_max hf hE
 have hb : U b ≠ 0 := fun e => hx (by rw [h, e, Int.zero_mul])
 have hb1 : 1 ≤ (U b).natAbs := by omega
 rw [h, Int.natAbs_mul, Int.natAbs_pow, show (2 : Int).natAbs = 2 from rfl] at h1
 have h2 : 1 * 2 ^ n ≤ (U b).natAbs * 2 ^ n := Nat.mul_le_mul_right _ hb1
 have h3 : 9007199254740991 * 2 ^ E < 2 ^ (53 + E) := by
  rw [Nat.pow_add]
  exact Nat.mul_lt_mul_of_pos_right (by decide) (Nat.two_pow_pos _)
 have h4 : 2 ^ n < 2 ^ (53 + E) := by rw [Nat.one_mul] at h2; exact Nat.lt_of_le_of_lt (Nat.le_trans h2 h1) h3
 have := (Nat.pow_lt_pow_iff_right (by omega : 1 < 2)).1 h4
 omega
def dyS (x : Nat) : Int × List Int × Int := dymk (vn x) (vp x)
set_option maxRecDepth 100000 in
theorem l03Of_calls (x : Nat) (h : x < 2 ^ 64) (hf : isFin x = true) (w : World) : Calls Tryd.prog 52 #[.float .f64 x] w fun e w' => ∃ v1 : Value, e = .returned (.agg #[.int .i64 (dyS x).1, v1, .int .i64 (dyS x).2.2]) ∧ Kd.R (Kd.int .i64) 2 w' w.heap.size (fun _ => True) v1 (dyS x).2.1 ∧ Below w.heap.size w w' := by
 have hz0 := eq_zero_iff hf
 have R0 := Aside0.mk (ResD.next (Below.refl w.heap.size w))
 by_cases hz : U x = 0
 ·rw [decide_eq_true hz] at hz0
  have e : dyS x = (0, [], 0) := by unfold dyS vn; rw [if_pos hz]; unfold dymk; rw [if_pos rfl]
  rw [e]
  go_enter Tryd.func52, Tryd.ntmps52
  go_wp2_with fail
  refine bodyPost_ret (results_c1 rfl _ _ w.heap.size 28 #[.int .i64 0, .slice none 0 0, .int .i64 0] (0, 0) _ rfl R0.out.box Tryd.underlying28 rfl (by kernel_rfl)) rfl ?_
  exact ⟨_, rfl, Kd.R_nil _ _ _ _ _, R0.out.lo⟩
 ·rw [decide_eq_false hz] at hz0
  go_enter Tryd.func52, Tryd.ntmps52
  go_wp2_with fail
  generalize hw1 : w.alloc (.cells #[.int .i64 0, .slice none 0 0, .int .i64 0] 28) = w1 at R0 ⊢
  clear hw1
  obtain ⟨E, hE⟩ : ∃ E, E = 1075 := ⟨_, rfl⟩
  obtain ⟨G, hG⟩ : ∃ G, G = 1074 := ⟨_, rfl⟩
  have HE := Aside0.mk hE; have HG := Aside0.mk hG; clear hE hG
  go_loopw [0, 3] (fun v u w' => ∃ (b n m : Nat), v = .float .f64 b ∧ Aside0 (b < 2 ^ 64 ∧ isFin b = true ∧ U x = U b * 2 ^ n) ∧ u = .int .i64 (n : Int) ∧ w' = w1.drewN m) (fun v _ _ => (U (fbits v)).natAbs)
  case atStart => exact ⟨x, 0, 0, rfl, ⟨h, hf, by rw [Int.pow_zero, Int.mul_one]⟩, rfl, rfl⟩
  case round =>
   obtain ⟨b, n, m, rfl, HB, rfl, rfl⟩ := hrel
   obtain ⟨hb1, hb2, hb3⟩ := HB.out
   have k1 := cge hb2 HE.out
   have k2 := cle hb2 HE.out
   have kn := mneg_eq
   have hnb := n_bound hf hz hb3
   have hne : U b ≠ 0 := fun e => hz (by rw [hb3, e, Int.zero_mul])
   by_cases c : (KK E : Int) ≤ U b ∨ U b ≤ -(KK E : Int)
   ·have hbig : 2 ^ 54 ≤ (U b).natAbs := by have := kk54 HE.out; generalize 2 ^ 54 = q at *; omega
    obtain ⟨y, hy1, hy2, hy3⟩ := half_two hb2 rfl hbig
    have g1 := fr_of' hy1
    have g2 := fn_of' hy1
    have hlt : y < 2 ^ 64 := Ieee.double.div_lt hy1
    have HR := Aside0.mk (show (y < 2 ^ 64 ∧ isFin y = true ∧ U x = U y * 2 ^ (n + 1)) ∧ (U y).natAbs < (U b).natAbs from ⟨⟨hlt, hy2, by rw [hb3, hy3, Int.pow_succ, Int.mul_comm 2 (U y), Int.mul_assoc, Int.mul_comm 2]⟩, by omega⟩)
    have e3 : wrap64 ((n : Int) + 1) = ((n + 1 : Nat) : Int) := by rw [w64s (by omega) (by omega)]; omega
    by_cases c1 : (KK E : Int) ≤ U b
    ·rw [decide_eq_true c1] at k1
     clear k2 kn c c1 hy1 hy2 hy3 hlt hbig hne hb3 hb2 hb1 HB hnb
     go_wp2_with fail
     exact ⟨⟨y, n + 1, _, rfl, ⟨HR.out.1⟩, by rw [← e3], rfl⟩, HR.out.2⟩
    ·have c2 : U b ≤ -(KK E : Int) := by rcases c with c | c; exact absurd c c1; exact c
     rw [decide_eq_false c1] at k1
     rw [decide_eq_true c2] at k2
     clear c c1 c2 hy1 hy2 hy3 hlt hbig hne hb3 hb2 hb1 HB hnb
     go_wp2_with fail
     exact ⟨⟨y, n + 1, _, rfl, ⟨HR.out.1⟩, by rw [← e3], rfl⟩, HR.out.2⟩
   ·have c1 : ¬ (KK E : Int) ≤ U b := fun g => c (.inl g)
    have c2 : ¬ U b ≤ -(KK E : Int) := fun g => c (.inr g)
    rw [decide_eq_false c1] at k1
    rw [decide_eq_false c2] at k2
    have HK := Aside0.mk (show (U b).natAbs < KK E from by omega)
    have R1 := Aside0.mk (R0.out.below (pw_below_drewN (Below.refl _ _) m))
    clear c c1 c2 hne hb1 hb2 hb3
    go_wp2_with fail
    clear k1 k2 kn
    generalize w1.drewN m = w2 at R1 ⊢
    clear R0
    go_loopw [0, 3] (fun v u w' => ∃ (c j m : Nat), v = .float .f64 c ∧ Aside0 (c < 2 ^ 64 ∧ isFin c = true ∧ U c = U b * 2 ^ j ∧ (U c).natAbs < KK E) ∧ u = .int .i64 ((n : Int) - j) ∧ Aside0 (j ≤ 1074) ∧ w' = w2.drewN m) (fun _ u _ => (ival u - ((n : Int) - 1074)).toNat)
    case atStart => exact ⟨b, 0, 0, rfl, ⟨HB.out.1, HB.out.2.1, by rw [Int.pow_zero, Int.mul_one], HK.out⟩, by simp, ⟨by omega⟩, rfl⟩
    case round =>
     obtain ⟨c, j, m2, rfl, HC, rfl, HJ, rfl⟩ := hrel
     obtain ⟨T, ht1, ht2, ht3⟩ := trunc_spec HC.out.2.1 HE.out HG.out HC.out.2.2.2
     have hj := HJ.out
     have hc1 : ∀ w : World, (convert 44 2 (.float .f64 c)).run Tryd.prog w = .ok (.int .i64 T) w := fun w => run_convert_float_int w 44 2 .f64 .i64 c T (by rw [Tryd.underlying44]; rfl) Tryd.underlying2 ht1
     have hc2 : ∀ w : World, (convert 2 44 (.int .i64 T)).run Tryd.prog w = .ok (.float .f64 (floatOfInt .f64 T)) w := fun w => run_convert_int_float w 2 44 .i64 .f64 T (by rw [Tryd.underlying2]; rfl) Tryd.underlying44
     rcases ht3 with ⟨o, he⟩ | ⟨o, nd, hlt⟩
     ·have hU : T * 2 ^ G * 2 ^ n = U x * 2 ^ j := by
       rw [← he, HC.out.2.2.1, HB.out.2.2, Int.mul_assoc, Int.mul_assoc, Int.mul_comm (2 ^ j)]
      obtain ⟨q, a, v1, v2, -⟩ := vn_value h hf hz
      have hd := same_dymk (e := (n : Int) - j) HG.out v1 v2 hU rfl
      obtain ⟨K0, hK0⟩ := l02Of (x := T) (by omega) (by omega)
      obtain ⟨K1, hK1⟩ := l03Make (cw_cn T) (Nat.le_trans (limbs_length_le (k := 200) (Nat.lt_of_lt_of_le ht2 (by decide))) (by omega)) ((n : Int) - j) (by omega) (by omega)
      have hk0 := hK0 K0 (Nat.le_refl _)
      have hk1 := hK1 K1 (Nat.le_refl _)
      rw [wv_cn, hd] at hk1
      have HH := Aside0.mk hk1
      have H0 := Aside0.mk hk0
      have R2 := Aside0.mk (R1.out.below (pw_below_drewN (Below.refl _ _) m2))
      clear hk0 hk1 hK0 hK1 hd hU v1 v2 he ht1 ht2 HC hnb
      generalize w2.drewN m2 = w3 at R2 ⊢
      go_wp2_with (first | simp only [hc1] | simp only [hc2])
      refine (spec_l02Of.calls K0 T (cn T).1 (cn T).2 _ H0.out).mono ?_
      rintro e1 w4 ⟨v1, rfl, hr, hb⟩
      obtain ⟨A1, c1, rfl⟩ := Kd.R_slice hr
      have V1 := Aside0.mk (RO.of (w := w) hr R2.out.lo.size)
      have R3 := Aside0.mk (R2.out.below hb)
      clear hr hb
      go_wp2_with fail
      refine (spec_l03Make.calls K1 (cn T).1 A1 c1 (cn T).2 ((n : Int) - j) (dyS x).1 (dyS x).2.1 (dyS x).2.2 _ V1.out.c V1.out.le HH.out).mono ?_
      rintro e1 w5 ⟨v2, rfl, hr, hb⟩
      obtain ⟨A2, c2, rfl⟩ := Kd.R_slice hr
      have V2 := Aside0.mk (RO.of (w := w) hr R3.out.lo.size)
      have R4 := Aside0.mk (R3.out.below hb)
      obtain ⟨q0, q1, q2, q3, q4, q5⟩ := R4.out.cells
      clear hr hb
      go_wp2
      refine bodyPost_ret (results_c1 rfl _ _ w.heap.size 28 #[.int .i64 (dyS x).1, .slice A2 (dyS x).2.1.length c2, .int .i64 (dyS x).2.2] (0, 0) _ rfl (R4.out.put _ _ _) Tryd.underlying28 rfl (by kernel_rfl)) rfl ?_
      exact ⟨_, rfl, V2.out.fin R4.out.box (by decide) _ _ _, R4.out.low _ _ _⟩
     ·obtain ⟨kk, hkk⟩ : ∃ k, k = 2097 := ⟨_, rfl⟩
      have hb2 : (U c).natAbs < 2 ^ kk := Nat.lt_of_lt_of_le HC.out.2.2.2 (kk2097 HE.out hkk)
      obtain ⟨y, hy1, hy2, hy3⟩ := mul_two HC.out.2.1 hkk hb2
      have g1 := fr_of' hy1
      have g2 := fn_of' hy1
      have hlty : y < 2 ^ 64 := Ieee.double.mul_lt hy1
      have hj2 : j < 1074 := by
       rcases Nat.lt_or_ge j 1074 with g | g
       ·exact g
       ·exfalso
        apply nd
        rw [HC.out.2.2.1, show j = G from by have := HG.out; omega]
        exact ⟨_, Int.mul_comm _ _⟩
      have HR := Aside0.mk (show y < 2 ^ 64 ∧ isFin y = true ∧ U y = U b * 2 ^ (j + 1) ∧ (U y).natAbs < KK E from ⟨hlty, hy2, by rw [hy3, HC.out.2.2.1, Int.pow_succ, Int.mul_comm 2, Int.mul_assoc], by omega⟩)
      have e3 : wrap64 ((n : Int) - j - 1) = (n : Int) - ((j + 1 : Nat) : Int) := by rw [w64s (by omega) (by omega)]; omega
      have HJ2 := Aside0.mk hj2
      clear hy1 hy2 hy3 hlty hb2 nd hlt ht1 ht2 HC hj2 hj
      go_wp2_with (first | simp only [hc1] | simp only [hc2])
      refine ⟨⟨y, j + 1, _, rfl, HR, by rw [← e3], ⟨HJ2.out⟩, rfl⟩, ?_⟩
      have := HJ2.out
      rw [e3]
      simp only [ival]
      omega
end Go.Proofs.YtdbdhgimokaooaaDoor
namespace Go.Proofs.YtdbdhgimokaooaaDoor
open Go Go.RowKit Go.Proofs.YtdbdhgimokaooaaDoor.Fl Go.Proofs.YtdbdhgimokaooaaDoor.Fx Go.Proofs.YtdbdhgimokaooaaDoor.X Go.Proofs.YtdbdhgimokaooaaDoor.Pur Go.Proofs.YtdbdhgimokaooaaDoorW.PrintWords Go.Proofs.YtdbdhgimokaooaaDoorW.PrintLast Go.Proofs.YtdbdhgimokaooaaDoorW.PrintMore Go.Proofs.YtdbdhgimokaooaaDoor.Math Go.Proofs.YtdbdhgimokaooaaDoor.Big
set_option linter.unusedVariables false
set_option linter.unusedSimpArgs false
attribute [local go_sem] run_add run_sub run_mul run_quo run_neg
theorem vn_bound {x : Nat} (h : x < 2 ^ 64) (hf : isFin x = true) : (vn x).natAbs < 9007199254740992 := by
 unfold vn
 by_cases hz : U x = 0
 ·rw [if_pos hz]; decide
 ·rw [if_neg hz, signed_eq, Int.pow_zero, Int.mul_one]
  have : ∀ y : Nat, y % 4503599627370496 < 4503599627370496 := fun y => Nat.mod_lt _ (by omega)
  have := this (nrm x).1
  rw [Int.natAbs_mul]
  split <;> simp <;> omega
theorem dyfit_small {n p : Int} (hn : n.natAbs < 9007199254740992) (h0 : -3000 ≤ p) (h1 : p ≤ 3000) : dyfit n p = ((dymk n p).1, (dymk n p).2.1, (dymk n p).2.2, 0) := by
 unfold dyfit dymk
 by_cases hz : n = 0
 ·rw [if_pos hz, if_pos hz]
 ·rw [if_neg hz, if_neg hz]
  have hl : (limbs (oddp n).natAbs).length ≤ 3 := limbs_length_le (k := 3) (by
   unfold oddp
   exact Nat.lt_of_le_of_lt (Int.natAbs_ediv_le_natAbs _ _) (Nat.lt_trans hn (by decide)))
  have hb := (limbs_len_iff (oddp n) 3).1 hl
  have ht : tz n < 53 := by
   have hs := ctz_spec (show n.natAbs ≠ 0 from by omega)
   have hle : 2 ^ tz n ≤ n.natAbs := Nat.le_of_dvd (by omega) (Nat.dvd_of_mod_eq_zero hs.z)
   have : 2 ^ tz n < 2 ^ 53 := Nat.lt_of_le_of_lt hle (Nat.lt_of_lt_of_le hn (by decide))
   exact (Nat.pow_lt_pow_iff_right (by omega : 1 < 2)).1 this
  rw [if_pos ⟨by omega, by omega, by omega⟩]
theorem dyO_fin {x : Nat} (h : x < 2 ^ 64) (hf : isFin x = true) : dyO x = ((dyS x).1, (dyS x).2.1, (dyS x).2.2, 0) := by
 unfold dyO dyS
 rw [hf, if_pos rfl, dyfit_small (vn_bound h hf) (vp_bound h hf).1 (vp_bound h hf).2]
def spec_DyadicOf.f (k : Nat) (a0 : Nat) : Option (Int × List Int × Int × Int) := if a0 < 18446744073709551616 then some (dyO a0) else none
set_option maxRecDepth 100000 in
theorem spec_DyadicOf.calls (k : Nat) (a0 : Nat) (r1 : Int) (r2 : List Int) (r3 r4 : Int) (w : World) (h : spec_DyadicOf.f k a0 = some (r1, r2, r3, r4)) :
  Calls Tryd.prog 23 #[.float .f64 a0] w fun e w' => ∃ v1_ : Value, e = .returned (.tuple #[.agg #[.int .i64 r1, v1_, .int .i64 r3], .int .i64 r4]) ∧ Kd.R (Kd.int .i64) 2 w' w.heap.size (fun _ => True) v1_ r2 ∧ Below w.heap.size w w' := by
 unfold spec_DyadicOf.f at h
 split at h
 case isFalse => cases h
 rename_i hl
 injection h with h
 have R0 := Aside0.mk (ResD.next (Below.refl w.heap.size w))
 cases hf : isFin a0
 ·unfold dyO at h
  rw [hf] at h
  simp only [Bool.false_eq_true, if_false, Prod.mk.injEq] at h
  obtain ⟨rfl, rfl, rfl, rfl⟩ := h
  have HF := Aside0.mk hf
  clear hf
  go_enter Tryd.func23, Tryd.ntmps23
  go_wp2_with fail
  refine (l01Real_calls a0 _).mono ?_
  rintro e w1 ⟨rfl, n, rfl⟩
  rw [HF.out]
  have R1 := Aside0.mk (R0.out.below (pw_below_drewN (Below.refl _ _) n))
  generalize (w.alloc (.cells #[.int .i64 0, .slice none 0 0, .int .i64 0] 28)).drewN n = w1 at R1 ⊢
  obtain ⟨q0, q1, q2, q3, q4, q5⟩ := R1.out.cells
  go_wp2_with fail
  refine bodyPost_ret (results_ct rfl _ _ w.heap.size 28 #[.int .i64 0, .slice none 0 0, .int .i64 0] (0, 0) _ rfl (R1.out.put _ _ _) Tryd.underlying28 rfl (by kernel_rfl)) rfl ?_
  exact ⟨_, rfl, R1.out.row (own_zero w1 w.heap.size) (by omega) _ _ _, R1.out.low _ _ _⟩
 ·rw [dyO_fin hl hf] at h
  simp only [Prod.mk.injEq] at h
  obtain ⟨rfl, rfl, rfl, rfl⟩ := h
  have HF := Aside0.mk hf
  clear hf
  go_enter Tryd.func23, Tryd.ntmps23
  go_wp2_with fail
  refine (l01Real_calls a0 _).mono ?_
  rintro e w1 ⟨rfl, n, rfl⟩
  rw [HF.out]
  have R1 := Aside0.mk (R0.out.below (pw_below_drewN (Below.refl _ _) n))
  generalize (w.alloc (.cells #[.int .i64 0, .slice none 0 0, .int .i64 0] 28)).drewN n = w1 at R1 ⊢
  go_wp2_with fail
  refine (l03Of_calls a0 hl HF.out _).mono ?_
  rintro e w2 ⟨v1, rfl, hr, hb⟩
  have R2 := Aside0.mk (R1.out.below hb)
  obtain ⟨A1, c1, rfl⟩ := Kd.R_slice hr
  have V1 := Aside0.mk (RO.of (w := w) hr R1.out.lo.size)
  obtain ⟨q0, q1, q2, q3, q4, q5⟩ := R2.out.cells
  clear hb hr
  go_wp2_with fail
  refine bodyPost_ret (results_ct rfl _ _ w.heap.size 28 #[.int .i64 (dyS a0).1, .slice A1 (dyS a0).2.1.length c1, .int .i64 (dyS a0).2.2] (0, 0) _ rfl (R2.out.put _ _ _) Tryd.underlying28 rfl (by kernel_rfl)) rfl ?_
  exact ⟨_, rfl, V1.out.fin R2.out.box (by decide) _ _ _, R2.out.low _ _ _⟩
end Go.Proofs.YtdbdhgimokaooaaDoor
