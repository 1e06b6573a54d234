/- The library's Frexp and Ldexp at finite floats, and impl.valueOf's two numbers. -/
import Derived.Test.YtdbdhgimokaooaaDoorFa
import Derived.Test.YtdbdhgimokaooaaDoorFx1
import Derived.Test.YtdbdhgimokaooaaDoorG9
namespace Go.Proofs.YtdbdhgimokaooaaDoor
open Go Go.RowKit Go.Proofs.YtdbdhgimokaooaaDoor.Fl Go.Proofs.YtdbdhgimokaooaaDoor.Fx Go.Proofs.YtdbdhgimokaooaaDoorW.PrintWords Go.Proofs.YtdbdhgimokaooaaDoorW.PrintLast Go.Proofs.YtdbdhgimokaooaaDoorW.PrintMore
set_option linter.unusedVariables false
set_option linter.unusedSimpArgs false
attribute [local go_sem] run_add run_sub run_mul run_quo run_bits run_frombits run_neg
theorem isInf_calls (x : Nat) (h : x < 2 ^ 64) (hf : isFin x = true) (w : World) : Calls Tryd.prog 112 #[.float .f64 x, .int .i64 0] w fun e w' => e = .returned (.bool false) ∧ w' = w := by
 have hx := notInf hf
 go_enter Tryd.func112, Tryd.ntmps112
 go_wp2_with fail
 refine (abs_calls x h w).mono ?_
 rintro e w1 ⟨rfl, rfl⟩
 go_wp2
 go_ret
 exact ⟨rfl, rfl⟩
theorem isNaN_calls (x : Nat) (hf : isFin x = true) (w : World) : Calls Tryd.prog 113 #[.float .f64 x] w fun e w' => e = .returned (.bool false) ∧ w' = w := by
 have hx : FloatKind.f64.format.order x x = some .eq := by
  show Ieee.double.order x x = _
  rw [order_U hf hf, compare_int_eq.2 rfl]
 go_enter Tryd.func113, Tryd.ntmps113
 go_wp2
 go_ret
 exact ⟨rfl, rfl⟩
def nrm (x : Nat) : Nat × Int := if x % 9223372036854775808 < 4503599627370496 then ((fb .mul x 4841369599423283200).getD 0, -52) else (x, 0)
theorem c52_read : Ieee.double.read 4841369599423283200 = .number false 4503599627370496 0 := by decide
theorem nrm_spec {x : Nat} (h : x < 2 ^ 64) (hf : isFin x = true) (hz : U x ≠ 0) : (nrm x).1 < 2 ^ 64 ∧ isFin (nrm x).1 = true ∧ ¬ (nrm x).1 % 9223372036854775808 < 4503599627370496 ∧ ((nrm x).2 = 0 ∧ U (nrm x).1 = U x ∨ (nrm x).2 = -52 ∧ U (nrm x).1 = U x * 4503599627370496) ∧ (x % 9223372036854775808 < 4503599627370496 → fb .mul x 4841369599423283200 = some (nrm x).1) := by
 unfold nrm
 by_cases hs : x % 9223372036854775808 < 4503599627370496
 ·rw [if_pos hs]
  have hr := read_sub hs
  have hm : x % 9223372036854775808 ≠ 0 := by
   intro e
   apply hz
   have := U_sub hs
   rw [e] at this
   omega
  generalize hmm : x % 9223372036854775808 = m at *
  have e53 : (2 : Nat) ^ 53 = 9007199254740992 := by decide
  have hmul : fb .mul x 4841369599423283200 = some (Ieee.double.nearest (sg x) m (-1022)) := by
   show ((Ieee.double.read x).product (Ieee.double.read 4841369599423283200)).map Ieee.double.write = _
   rw [hr, c52_read]
   simp only [Ieee.Datum.product, Option.map_some]
   show some (Ieee.double.nearest (sg x ^^ false) (m * 4503599627370496) (-1074 + 0)) = _
   have := nearest_shift (sg x ^^ false) m (-1022) 52
   rw [show ((-1022 : Int) - ((52 : Nat) : Int)) = -1074 + 0 from by omega] at this
   rw [show (4503599627370496 : Nat) = 2 ^ 52 from by decide, this]
   cases sg x <;> rfl
  have hl := log2_53 hm (by omega)
  have hlog : m.log2 < 52 := (Nat.log2_lt hm).2 (by rw [show (2 : Nat) ^ 52 = 4503599627370496 from by decide]; exact hs)
  have hu := U_nearest (sg x) (m := m) (p := -1022) (by omega) (by omega) (fun _ => by omega)
  rw [hmul, Option.getD_some]
  have hU : U (Ieee.double.nearest (sg x) m (-1022)) = U x * 4503599627370496 := by
   rw [hu.2, U_of hr, signed_eq, signed_eq]
   rw [show ((-1022 : Int) + 1074).toNat = 52 from rfl, show ((-1074 : Int) + 1074).toNat = 0 from rfl, Int.pow_zero, Int.mul_one, Int.mul_assoc]
   rfl
  have hlt : Ieee.double.nearest (sg x) m (-1022) < 2 ^ 64 := Ieee.double.nearest_lt _ _ _
  refine ⟨hlt, hu.1, ?_, .inr ⟨rfl, hU⟩, fun _ => rfl⟩
  intro hc
  have g1 := U_sub hc
  rw [hU, Int.natAbs_mul, U_sub (by rw [hmm]; exact hs)] at g1
  rw [hmm] at g1
  have : m * 4503599627370496 = (Ieee.double.nearest (sg x) m (-1022)) % 9223372036854775808 := g1
  omega
 ·rw [if_neg hs]
  exact ⟨h, hf, hs, .inl ⟨rfl, rfl⟩, fun g => absurd g hs⟩
set_option maxRecDepth 100000 in
theorem normalize_calls (x : Nat) (h : x < 2 ^ 64) (hf : isFin x = true) (hz : U x ≠ 0) (w : World) : Calls Tryd.prog 114 #[.float .f64 x] w fun e w' => e = .returned (.tuple #[.float .f64 (nrm x).1, .int .i64 (nrm x).2]) ∧ w' = w := by
 have hx := below_least hf
 obtain ⟨-, -, -, -, hm⟩ := nrm_spec h hf hz
 unfold nrm at hm ⊢
 by_cases hs : x % 9223372036854775808 < 4503599627370496
 ·rw [decide_eq_true hs] at hx
  have hm := hm hs
  rw [if_pos hs] at hm ⊢
  obtain ⟨y, hy⟩ : ∃ y, fb .mul x 4841369599423283200 = some y := ⟨_, hm⟩
  rw [hy, Option.getD_some]
  clear hm
  have h1 := fr_of' hy
  have h2 := fn_of' hy
  clear hy
  go_enter Tryd.func114, Tryd.ntmps114
  go_wp2_with fail
  refine (abs_calls x h w).mono ?_
  rintro e w1 ⟨rfl, rfl⟩
  go_wp2
  go_ret2
  exact ⟨rfl, rfl⟩
 ·rw [decide_eq_false hs] at hx
  rw [if_neg hs]
  go_enter Tryd.func114, Tryd.ntmps114
  go_wp2_with fail
  refine (abs_calls x h w).mono ?_
  rintro e w1 ⟨rfl, rfl⟩
  go_wp2
  go_ret2
  exact ⟨rfl, rfl⟩
def frx (x : Nat) : Nat × Int :=
 if U x = 0 then (x, 0) else
  ((nrm x).1 / 9223372036854775808 * 9223372036854775808 + (1022 * 4503599627370496 + (nrm x).1 % 4503599627370496), (nrm x).2 + ((nrm x).1 % 9223372036854775808 / 4503599627370496 : Nat) - 1022)
set_option maxRecDepth 100000 in
theorem frexp_calls (x : Nat) (h : x < 2 ^ 64) (hf : isFin x = true) (w : World) : Calls Tryd.prog 101 #[.float .f64 x] w fun e w' => e = .returned (.tuple #[.float .f64 (frx x).1, .int .i64 (frx x).2]) ∧ w' = w := by
 have hz0 := eq_zero_iff hf
 unfold frx
 by_cases hz : U x = 0
 ·rw [if_pos hz]
  rw [decide_eq_true hz] at hz0
  go_enter Tryd.func101, Tryd.ntmps101
  go_wp2
  go_ret2
  exact ⟨rfl, rfl⟩
 ·rw [if_neg hz]
  rw [decide_eq_false hz] at hz0
  obtain ⟨g1, g2, g3, g4, -⟩ := nrm_spec h hf hz
  have gf := (isFin_iff _).1 g2
  have hn := normalize_calls x h hf hz
  obtain ⟨y, e, hy⟩ : ∃ y e, nrm x = (y, e) := ⟨_, _, rfl⟩
  rw [hy] at g1 g2 g3 g4 gf hn ⊢
  simp only at g1 g2 g3 g4 gf hn ⊢
  have b1 := field_bits g1
  have b2 := put_field g1 (c := 1022) (by omega)
  rw [show ((1022 * 4503599627370496 : Nat) : Int) = 4602678819172646912 from rfl] at b2
  have he : e = 0 ∨ e = -52 := by rcases g4 with ⟨g, -⟩ | ⟨g, -⟩ <;> omega
  have HG := Aside0.mk gf
  clear g4 gf
  go_enter Tryd.func101, Tryd.ntmps101
  go_wp2_with fail
  refine (isInf_calls x h hf w).mono ?_
  rintro e1 w1 ⟨rfl, rfl⟩
  go_wp2_with fail
  refine (isNaN_calls x hf _).mono ?_
  rintro e1 w1 ⟨rfl, rfl⟩
  go_wp2_with fail
  refine (hn _).mono ?_
  rintro e1 w1 ⟨rfl, rfl⟩
  go_wp2
  go_ret2
  have e2 : e + ((y : Int) % 9223372036854775808 / 4503599627370496 - 1023 + 1) = e + ((y % 9223372036854775808 / 4503599627370496 : Nat) : Int) - 1022 := by omega
  refine ⟨?_, rfl⟩
  show Ending.returned (Value.tuple #[Value.float .f64 _, Value.int .i64 (e + ((y : Int) % 9223372036854775808 / 4503599627370496 - 1023 + 1))]) = _
  rw [e2]
theorem Frexp_calls (x : Nat) (h : x < 2 ^ 64) (hf : isFin x = true) (w : World) : Calls Tryd.prog 79 #[.float .f64 x] w fun e w' => e = .returned (.tuple #[.float .f64 (frx x).1, .int .i64 (frx x).2]) ∧ w' = w := by
 go_enter Tryd.func79, Tryd.ntmps79
 go_wp2_with fail
 refine (frexp_calls x h hf w).mono ?_
 rintro e w1 ⟨rfl, rfl⟩
 go_wp2
 go_ret2
 exact ⟨rfl, rfl⟩
def half_ (s f : Nat) : Nat := s * 9223372036854775808 + (1022 * 4503599627370496 + f)
def int_ (s f : Nat) : Nat := s * 9223372036854775808 + (1075 * 4503599627370496 + f)
theorem half_facts {s f : Nat} (hs : s < 2) (hf : f < 4503599627370496) : half_ s f < 2 ^ 64 ∧ half_ s f % 9223372036854775808 = 1022 * 4503599627370496 + f ∧ half_ s f / 9223372036854775808 = s ∧ half_ s f % 4503599627370496 = f := by
 unfold half_
 refine ⟨by omega, by omega, by omega, by omega⟩
theorem one_read : Ieee.double.read 4607182418800017408 = .number false 4503599627370496 (-52) := by decide
theorem int_fin {s f : Nat} (hs : s < 2) (hf : f < 4503599627370496) : Ieee.double.read (int_ s f) = .number (s == 1) (4503599627370496 + f) 0 := by
 have h1 : int_ s f % 9223372036854775808 = 1075 * 4503599627370496 + f := by unfold int_; omega
 have h2 : isFin (int_ s f) = true := by rw [isFin_iff, h1]; omega
 rw [read_norm (by rw [h1]; omega) h2, h1]
 have h3 : int_ s f % 4503599627370496 = f := by unfold int_; omega
 have h4 : (1075 * 4503599627370496 + f) / 4503599627370496 - 1 = 1074 := by omega
 rw [h3, h4]
 have h5 : sg (int_ s f) = (s == 1) := by
  unfold sg int_
  rcases (show s = 0 ∨ s = 1 from by omega) with rfl | rfl
  ·rw [show (0 * 9223372036854775808 + (1075 * 4503599627370496 + f)) / 9223372036854775808 % 2 = 0 from by omega]
  ·rw [show (1 * 9223372036854775808 + (1075 * 4503599627370496 + f)) / 9223372036854775808 % 2 = 1 from by omega]
 rw [h5]
 rfl
theorem one_times {s f : Nat} (hs : s < 2) (hf : f < 4503599627370496) : ∃ y, fb .mul 4607182418800017408 (int_ s f) = some y ∧ Ieee.double.read y = .number (s == 1) (4503599627370496 + f) 0 := by
 have e53 : (2 : Nat) ^ 53 = 9007199254740992 := by decide
 have e52 : (2 : Nat) ^ 52 = 4503599627370496 := by decide
 have hm : 4503599627370496 + f ≠ 0 := by omega
 have hl : (4503599627370496 + f).log2 = 52 := log2_eq (by omega) (by omega)
 refine ⟨Ieee.double.nearest (s == 1) (4503599627370496 + f) 0, ?_, ?_⟩
 ·show ((Ieee.double.read 4607182418800017408).product (Ieee.double.read (int_ s f))).map Ieee.double.write = _
  rw [one_read, int_fin hs hf]
  simp only [Ieee.Datum.product, Option.map_some]
  show some (Ieee.double.nearest (false ^^ (s == 1)) (4503599627370496 * (4503599627370496 + f)) (-52 + 0)) = _
  have := nearest_shift (s == 1) (4503599627370496 + f) 0 52
  rw [show ((0 : Int) - ((52 : Nat) : Int)) = -52 + 0 from by omega, e52] at this
  rw [Nat.mul_comm, Bool.false_xor, this]
 ·obtain ⟨h1, -, -⟩ := read_nearest (s == 1) hm (by omega) (p := 0) (by omega) (by rw [hl]; omega)
  have hlast : lastOf (4503599627370496 + f) 0 = 0 := by unfold lastOf; rw [hl]; rfl
  rw [hlast] at h1
  rw [h1]
  rw [show ((0 : Int) - 0).toNat = 0 from rfl, Nat.pow_zero, Nat.mul_one]
theorem field_i64 {s f : Nat} (hs : s < 2) (hf : f < 4503599627370496) : bits .and .i64 (((half_ s f : Nat) : Int) / 4503599627370496) 2047 = 1022 := by
 have h : 0 ≤ ((half_ s f : Nat) : Int) / 4503599627370496 ∧ ((half_ s f : Nat) : Int) / 4503599627370496 < 2 ^ 12 := by unfold half_; omega
 have := bits_mask .i64 63 (by decide) (fun n h0 h1 => by rw [IntKind.wrap_i64]; omega) 11 (by decide) (((half_ s f : Nat) : Int) / 4503599627370496) h.1 (by omega)
 rw [show ((2 : Int) ^ 11 - 1) = 2047 from rfl] at this
 rw [this]
 unfold half_
 omega
set_option maxRecDepth 100000 in
theorem ldexp_calls (s f : Nat) (hs : s < 2) (hf : f < 4503599627370496) (w : World) : Calls Tryd.prog 103 #[.float .f64 (half_ s f), .int .i64 53] w fun e w' => (∃ y, e = .returned (.float .f64 y) ∧ Ieee.double.read y = .number (s == 1) (4503599627370496 + f) 0) ∧ w' = w := by
 obtain ⟨h1, h2, h3, h4⟩ := half_facts hs hf
 obtain ⟨y, hy, hr⟩ := one_times hs hf
 have g1 := fr_of' hy
 have g2 := fn_of' hy
 have hfin : isFin (half_ s f) = true := by rw [isFin_iff, h2]; omega
 have hnz : U (half_ s f) ≠ 0 := by
  have := U_norm (b := half_ s f) (by rw [h2]; omega) hfin
  intro e
  rw [this] at e
  have := signed_natAbs (sg (half_ s f)) (4503599627370496 + half_ s f % 4503599627370496) (half_ s f % 9223372036854775808 / 4503599627370496 - 1)
  rw [e] at this
  have hp := Nat.mul_pos (show 0 < 4503599627370496 + half_ s f % 4503599627370496 from by omega) (Nat.two_pow_pos (half_ s f % 9223372036854775808 / 4503599627370496 - 1))
  simp only [Int.natAbs_zero] at this
  omega
 have hz0 := eq_zero_iff hfin
 rw [decide_eq_false hnz] at hz0
 have hn := normalize_calls (half_ s f) h1 hfin hnz
 have hnrm : nrm (half_ s f) = (half_ s f, 0) := by unfold nrm; rw [if_neg (by rw [h2]; omega)]
 rw [hnrm] at hn
 have b1 := field_i64 hs hf
 have b2 := put_field h1 (c := 1075) (by omega)
 rw [h3, h4] at b2
 have HR := Aside0.mk hr
 have b3 : ((s * 9223372036854775808 + (1075 * 4503599627370496 + f) : Nat) : Int).toNat = int_ s f := by rw [Int.toNat_natCast]; rfl
 generalize half_ s f = x at *
 have bb : (bits .or .u64 (bits .andNot .u64 (x : Int) 9218868437227405312) 4841369599423283200).toNat = int_ s f := by
  rw [show (4841369599423283200 : Int) = ((1075 * 4503599627370496 : Nat) : Int) from rfl, b2]; exact b3
 clear h2 h3 h4 hnz hnrm hr b2 b3 hy
 go_enter Tryd.func103, Tryd.ntmps103
 go_wp2_with fail
 refine (isInf_calls x h1 hfin w).mono ?_
 rintro e1 w1 ⟨rfl, rfl⟩
 go_wp2_with fail
 refine (isNaN_calls x hfin _).mono ?_
 rintro e1 w1 ⟨rfl, rfl⟩
 go_wp2_with fail
 refine (hn _).mono ?_
 rintro e1 w1 ⟨rfl, rfl⟩
 go_wp2
 go_ret
 simp only [bb, g1, g2]
 exact ⟨⟨y, rfl, HR.out⟩, rfl⟩
theorem Ldexp_calls (s f : Nat) (hs : s < 2) (hf : f < 4503599627370496) (w : World) : Calls Tryd.prog 80 #[.float .f64 (half_ s f), .int .i64 53] w fun e w' => (∃ y, e = .returned (.float .f64 y) ∧ Ieee.double.read y = .number (s == 1) (4503599627370496 + f) 0) ∧ w' = w := by
 go_enter Tryd.func80, Tryd.ntmps80
 go_wp2_with fail
 refine (ldexp_calls s f hs hf w).mono ?_
 rintro e w1 ⟨⟨y, rfl, hy⟩, rfl⟩
 go_wp2
 go_ret
 exact ⟨⟨y, rfl, hy⟩, rfl⟩
theorem Ldexp_zero (x : Nat) (hf : isFin x = true) (hz : U x = 0) (w : World) : Calls Tryd.prog 80 #[.float .f64 x, .int .i64 53] w fun e w' => e = .returned (.float .f64 x) ∧ w' = w := by
 have hz0 := eq_zero_iff hf
 rw [decide_eq_true hz] at hz0
 have hl : Calls Tryd.prog 103 #[.float .f64 x, .int .i64 53] w fun e w' => e = .returned (.float .f64 x) ∧ w' = w := by
  go_enter Tryd.func103, Tryd.ntmps103
  go_wp2
  go_ret
  exact ⟨rfl, rfl⟩
 go_enter Tryd.func80, Tryd.ntmps80
 go_wp2_with fail
 refine hl.mono ?_
 rintro e w1 ⟨rfl, rfl⟩
 go_wp2
 go_ret
 exact ⟨rfl, rfl⟩
theorem toInt_of {y m : Nat} {s : Bool} (h : Ieee.double.read y = .number s m 0) (hm : m < 9223372036854775808) : floatToIntVal .f64 y .i64 = some (Ieee.signed s m 0) := by
 unfold floatToIntVal
 show (match (Ieee.double.read y).toInt .zero with | some n => if IntKind.i64.min ≤ n ∧ n ≤ IntKind.i64.max then some n else none | none => none) = _
 rw [h]
 have e : (Ieee.Datum.number s m 0).toInt .zero = some (Ieee.signed s m 0) := by
  unfold Ieee.Datum.toInt Ieee.Datum.integral
  simp [Ieee.Toward.cut, Nat.mod_one]
 rw [e]
 have hr : IntKind.i64.min ≤ Ieee.signed s m 0 ∧ Ieee.signed s m 0 ≤ IntKind.i64.max := by
  have h1 : IntKind.i64.min = -9223372036854775808 := by decide
  have h2 : IntKind.i64.max = 9223372036854775807 := by decide
  rw [h1, h2]
  unfold Ieee.signed
  rw [Nat.shiftLeft_zero]
  cases s <;> simp <;> omega
 simp only
 rw [if_pos hr]
end Go.Proofs.YtdbdhgimokaooaaDoor
