/- Signs, halving and doubling, sums and products of opposites, sizes and larger parts: plain facts about doubles. No conditions beyond those of each theorem. -/
import Derived.Test.YtdjkcpmoigemdaaG1
import Derived.Test.YtdjkcpmoigemdaaFlP
namespace Go.Proofs.Ytdjkcpmoigemdaa.Fx
open Go Ieee Go.Proofs.Ytdjkcpmoigemdaa Go.Proofs.Ytdjkcpmoigemdaa.Fl
set_option linter.unusedVariables false
set_option linter.unusedSimpArgs false
theorem U_sign {b : Nat} (hb : b < 2 ^ 64) (h : isFin b = true) : (U b < 0 → 9223372036854775808 ≤ b) ∧ (0 < U b → b < 9223372036854775808) ∧ (U b = 0 → b % 9223372036854775808 = 0) := by
 have hs : sg b = decide (9223372036854775808 ≤ b) := by
  unfold sg
  by_cases g : 9223372036854775808 ≤ b
  ·rw [decide_eq_true g, show b / 9223372036854775808 % 2 = 1 from by omega]; rfl
  ·rw [decide_eq_false g, show b / 9223372036854775808 % 2 = 0 from by omega]; rfl
 have key : ∃ m u, U b = signed (sg b) m u ∧ (m = 0 → b % 9223372036854775808 = 0) := by
  by_cases g : b % 9223372036854775808 < 4503599627370496
  ·exact ⟨_, _, U_of (read_sub g), fun h => h⟩
  ·exact ⟨_, _, U_of (read_norm g h), fun h => by omega⟩
 obtain ⟨m, u, e, hz⟩ := key
 have hp : (0 : Int) ≤ (m : Int) * 2 ^ u := Int.mul_nonneg (Int.natCast_nonneg _) (Int.le_of_lt (Int.pow_pos (by omega)))
 rw [signed_eq, hs] at e
 rw [e]
 by_cases g : 9223372036854775808 ≤ b
 ·rw [decide_eq_true g, if_pos rfl]
  refine ⟨fun _ => g, fun h => by omega, fun h => hz ?_⟩
  have : (m : Int) * 2 ^ u = 0 := by omega
  rcases Int.mul_eq_zero.1 this with h | h
  ·omega
  ·exact absurd h (Int.ne_of_gt (Int.pow_pos (by omega)))
 ·rw [decide_eq_false g, if_neg (by decide)]
  refine ⟨fun h => by omega, fun _ => by omega, fun h => hz ?_⟩
  have : (m : Int) * 2 ^ u = 0 := by omega
  rcases Int.mul_eq_zero.1 this with h | h
  ·omega
  ·exact absurd h (Int.ne_of_gt (Int.pow_pos (by omega)))
theorem lt_zero {x : Nat} (h : isFin x = true) : (FloatKind.f64.format.order x 0 == some .lt) = decide (U x < 0) := by
 show (double.order x 0 == some .lt) = _
 rw [order_U h zero_fin, zero_U]
 rcases cmp_cases (U x) 0 with ⟨a, b⟩ | ⟨a, b⟩ | ⟨a, b⟩
 ·rw [a, decide_eq_true b]; rfl
 ·rw [a, decide_eq_false (by omega)]; rfl
 ·rw [a, decide_eq_false (by omega)]; rfl
theorem abs_cases {x : Nat} (hx : x < 2 ^ 64) (h : isFin x = true) : (U x < 0 → Op.negFloat .f64 x = Op.Complex.abs x) ∧ (U x = 0 → Op.Complex.abs x = 0) ∧ (0 < U x → Op.Complex.abs x = x) := by
 obtain ⟨h1, h2, h3⟩ := U_sign hx h
 have e : Op.Complex.abs x = x % 9223372036854775808 := rfl
 refine ⟨fun g => ?_, fun g => ?_, fun g => ?_⟩
 ·have := h1 g
  rw [e, neg_eq hx, if_neg (by omega)]
  omega
 ·rw [e, h3 g]
 ·have := h2 g
  rw [e]
  omega
theorem abs_lt (x : Nat) : Op.Complex.abs x < 2 ^ 63 := Nat.mod_lt _ (by decide)
def lgr (a b : Nat) : Nat := if FloatKind.f64.format.order b a = some .gt then b else a
theorem gt_U {a b : Nat} (ha : isFin a = true) (hb : isFin b = true) : (FloatKind.f64.format.order b a = some .gt ↔ U a < U b) ∧ (FloatKind.f64.format.order b a = some .lt ↔ U b < U a) ∧ (FloatKind.f64.format.order b a = some .eq ↔ U b = U a) := by
 show (double.order b a = some .gt ↔ _) ∧ (double.order b a = some .lt ↔ _) ∧ (double.order b a = some .eq ↔ _)
 rw [order_U hb ha]
 rcases cmp_cases (U b) (U a) with ⟨x, y⟩ | ⟨x, y⟩ | ⟨x, y⟩ <;> rw [x] <;> refine ⟨⟨fun h => ?_, fun h => ?_⟩, ⟨fun h => ?_, fun h => ?_⟩, ⟨fun h => ?_, fun h => ?_⟩⟩ <;> first | omega | rfl | (cases h; done) | (exfalso; omega)
theorem lgr_fin {a b : Nat} (ha : isFin a = true) (hb : isFin b = true) : isFin (lgr a b) = true ∧ (lgr a b = a ∨ lgr a b = b) ∧ U a ≤ U (lgr a b) ∧ U b ≤ U (lgr a b) := by
 unfold lgr
 by_cases h : FloatKind.f64.format.order b a = some .gt
 ·rw [if_pos h]
  have := (gt_U ha hb).1.1 h
  exact ⟨hb, .inr rfl, by omega, by omega⟩
 ·rw [if_neg h]
  have : ¬ U a < U b := fun g => h ((gt_U ha hb).1.2 g)
  exact ⟨ha, .inl rfl, by omega, by omega⟩
theorem twice {x : Nat} (h : isFin x = true) : ∃ s m u, fb .mul x 4611686018427387904 = some (double.nearest s (m * 2 ^ (u + 1)) (-1074)) ∧ m < 2 ^ 53 ∧ U x = signed s m u ∧ double.read x = .number s m ((u : Int) - 1074) := by
 obtain ⟨s, m, p, h1, h2, h3, h4, h5, h6⟩ := U_bound h
 refine ⟨s, m, (p + 1074).toNat, ?_, h2, h6, ?_⟩
 ·show ((double.read x).product (double.read 4611686018427387904)).map double.write = _
  rw [h1, two_read]
  simp only [Datum.product, Option.map_some]
  show some (double.nearest (s ^^ false) (m * 4503599627370496) (p + -51)) = _
  have e1 := nearest_shift s m (p + 1) 52
  have e2 := nearest_shift s m (p + 1) ((p + 1074).toNat + 1)
  rw [show (p + 1 - ((52 : Nat) : Int)) = p + -51 from by omega] at e1
  rw [show (p + 1 - (((p + 1074).toNat + 1 : Nat) : Int)) = -1074 from by omega] at e2
  rw [show (4503599627370496 : Nat) = 2 ^ 52 from by decide, show (s ^^ false) = s from by cases s <;> rfl, e1, e2]
 ·rw [h1]
  congr 1
  omega
theorem zero_nearest (s : Bool) (p : Int) : double.nearest s 0 p = double.word s 0 := by unfold Format.nearest; rw [if_pos rfl]
theorem zero_word (s : Bool) : isFin (double.word s 0) = true ∧ U (double.word s 0) = 0 := by
 have := read_low s (r := 0) (by decide)
 refine ⟨fin_of this, ?_⟩
 rw [U_of this, signed_eq]
 simp
theorem signed_pos (m u : Nat) : signed false m u = ((m * 2 ^ u : Nat) : Int) := by
 unfold signed
 rw [Nat.shiftLeft_eq]
 rfl
theorem near_ge {X m u : Nat} (hm : m < 2 ^ 53) (h : m * 2 ^ u ≤ X) (hf : isFin (double.nearest false X (-1074)) = true) : ((m * 2 ^ u : Nat) : Int) ≤ U (double.nearest false X (-1074)) := by
 by_cases hX : X = 0
 ·subst hX
  rw [zero_nearest, (zero_word false).2]
  omega
 ·rcases nearest_fin false hX with ⟨_, e⟩ | e
  ·rw [e, signed_pos, Nat.pow_zero, Nat.mul_one]
   exact Int.ofNat_le.2 (vo_ge hX hm h)
  ·unfold isFin at hf
   rw [show rd64 _ = _ from e] at hf
   cases hf
theorem near_le {X m u : Nat} (hm : m < 2 ^ 53) (h : X ≤ m * 2 ^ u) (hf : isFin (double.nearest false X (-1074)) = true) : U (double.nearest false X (-1074)) ≤ ((m * 2 ^ u : Nat) : Int) := by
 by_cases hX : X = 0
 ·subst hX
  rw [zero_nearest, (zero_word false).2]
  omega
 ·rcases nearest_fin false hX with ⟨_, e⟩ | e
  ·rw [e, signed_pos, Nat.pow_zero, Nat.mul_one]
   exact Int.ofNat_le.2 (vo_le hX hm h)
  ·unfold isFin at hf
   rw [show rd64 _ = _ from e] at hf
   cases hf
theorem inf_gt {x y : Nat} (hx : isFin x = true) (hy : double.read y = .infinity false) : FloatKind.f64.format.order x y = some .lt := by
 obtain ⟨s, m, p, h1, _⟩ := U_bound hx
 show (double.read x).order (double.read y) = _
 rw [h1, hy]
 rfl
theorem size_between {a b r : Nat} (ha : isFin a = true) (hb : isFin b = true) (a0 : 0 ≤ U a) (b0 : 0 ≤ U b) (hr : fb .add a b = some r) (hf : isFin r = true) :
  FloatKind.f64.format.order r (lgr a b) ≠ some .lt ∧ ∀ y, fb .mul 4611686018427387904 (lgr a b) = some y → FloatKind.f64.format.order r y ≠ some .gt := by
 obtain ⟨s, e1, e2⟩ := add_U ha hb
 rw [e1] at hr
 have hr := Option.some.inj hr
 obtain ⟨m1, m2, m3, m4⟩ := lgr_fin ha hb
 obtain ⟨t, m, u, t1, t2, t3, t4⟩ := twice m1
 have hT : (U a + U b).natAbs = (U a).toNat + (U b).toNat := by omega
 rw [hT] at hr
 have hs : double.nearest s ((U a).toNat + (U b).toNat) (-1074) = double.nearest false ((U a).toNat + (U b).toNat) (-1074) ∨ (U a).toNat + (U b).toNat = 0 := by
  by_cases h0 : U a + U b = 0
  ·right; omega
  ·left
   rw [e2 h0, decide_eq_false (by omega)]
 have hUr : isFin r = true ∧ (∀ m u, m < 2 ^ 53 → m * 2 ^ u ≤ (U a).toNat + (U b).toNat → ((m * 2 ^ u : Nat) : Int) ≤ U r) ∧ (∀ m u, m < 2 ^ 53 → (U a).toNat + (U b).toNat ≤ m * 2 ^ u → U r ≤ ((m * 2 ^ u : Nat) : Int)) := by
  rcases hs with hs | hs
  ·rw [hs] at hr
   subst hr
   exact ⟨hf, fun m u hm h => near_ge hm h hf, fun m u hm h => near_le hm h hf⟩
  ·rw [hs, zero_nearest] at hr
   subst hr
   obtain ⟨z1, z2⟩ := zero_word s
   refine ⟨z1, fun m u hm h => ?_, fun m u hm h => ?_⟩
   ·rw [z2, hs] at *; omega
   ·rw [z2]; omega
 obtain ⟨_, g1, g2⟩ := hUr
 have hP : U (lgr a b) = ((m * 2 ^ u : Nat) : Int) := by
  have h0 : 0 ≤ U (lgr a b) := by omega
  rw [t3] at h0 ⊢
  cases t
  ·exact signed_pos m u
  ·have e : signed true m u = -((m * 2 ^ u : Nat) : Int) := by unfold signed; rw [Nat.shiftLeft_eq]; rfl
   rw [e] at h0 ⊢
   omega
 have hPn : m * 2 ^ u ≤ (U a).toNat + (U b).toNat := by
  rcases m2 with h | h <;> rw [h] at hP <;> omega
 have hP2 : (U a).toNat + (U b).toNat ≤ m * 2 ^ (u + 1) := by
  rw [Nat.pow_succ, ← Nat.mul_assoc]
  omega
 constructor
 ·intro h
  have h3 := (gt_U m1 hf).2.1.1 h
  have := g1 m u t2 hPn
  omega
 ·intro y hy h
  rw [fb_mul_comm, t1] at hy
  have hy := Option.some.inj hy
  have hle := g2 m (u + 1) t2 hP2
  by_cases hX : m * 2 ^ (u + 1) = 0
  ·rw [hX, zero_nearest] at hy
   subst hy
   obtain ⟨z1, z2⟩ := zero_word t
   have := (gt_U z1 hf).1.1 h
   rw [z2] at this
   rw [hX] at hle
   omega
  ·have ht : t = false := by
    cases t
    ·rfl
    ·exfalso
     have e : signed true m u = -((m * 2 ^ u : Nat) : Int) := by unfold signed; rw [Nat.shiftLeft_eq]; rfl
     rw [t3, e] at hP
     have : m * 2 ^ u = 0 := by omega
     rw [Nat.pow_succ, ← Nat.mul_assoc, this] at hX
     exact hX (Nat.zero_mul _)
   subst ht
   subst hy
   rcases nearest_fin false hX with ⟨f1, f2⟩ | f2
   ·have := (gt_U f1 hf).1.1 h
    have h5 := near_ge t2 (Nat.le_refl _) f1
    omega
   ·rw [inf_gt hf f2] at h
    cases h
theorem write_read {x : Nat} (hx : x < 2 ^ 64) (h : isFin x = true) {s : Bool} {m : Nat} {p : Int} (hr : double.read x = .number s m p) : double.nearest s m p = x := by
 have hs : double.word (sg x) (x % 9223372036854775808) = x := by
  unfold Format.word sg
  rw [sw]
  by_cases g : 9223372036854775808 ≤ x
  ·rw [show x / 9223372036854775808 % 2 = 1 from by omega]
   simp
   omega
  ·rw [show x / 9223372036854775808 % 2 = 0 from by omega]
   simp
   omega
 by_cases g : x % 9223372036854775808 < 4503599627370496
 ·rw [read_sub g] at hr
  injection hr with r1 r2 r3
  subst r1 r2 r3
  by_cases hX : x % 9223372036854775808 = 0
  ·rw [hX, zero_nearest]
   rw [hX] at hs
   exact hs
  ·rw [nearest_unit _ hX]
   have e0 : eo (x % 9223372036854775808) = 0 := by
    unfold eo
    have : (x % 9223372036854775808).log2 < 52 := (Nat.log2_lt hX).2 (by rw [show (2 : Nat) ^ 52 = 4503599627370496 from by decide]; exact g)
    omega
   have e1 : rungOf (x % 9223372036854775808) = x % 9223372036854775808 := by
    obtain ⟨c, hc, hk, _, h0⟩ := ko_spec hX
    unfold rungOf
    rw [hk, h0 e0, e0, Nat.pow_zero, Nat.div_one]
    omega
   rw [e1, hs]
 ·rw [read_norm g h] at hr
  injection hr with r1 r2 r3
  subst r1 r2 r3
  have hb := (isFin_iff x).1 h
  have hl : (4503599627370496 + x % 4503599627370496).log2 = 52 := log2_eq (by rw [show (2 : Nat) ^ 52 = 4503599627370496 from by decide]; omega) (by rw [show (2 : Nat) ^ (52 + 1) = 9007199254740992 from by decide]; omega)
  rw [nearest_def _ (by omega)]
  have e : lastOf (4503599627370496 + x % 4503599627370496) (-1074 + ((x % 9223372036854775808 / 4503599627370496 - 1 : Nat) : Int)) = -1074 + ((x % 9223372036854775808 / 4503599627370496 - 1 : Nat) : Int) := by
   unfold lastOf
   rw [hl]
   omega
  rw [e, Int.sub_self, show (Int.toNat 0) = 0 from rfl, Nat.shiftLeft_zero, cut0]
  have e2 : (-1074 + ((x % 9223372036854775808 / 4503599627370496 - 1 : Nat) : Int) + 1074).toNat * 4503599627370496 + (4503599627370496 + x % 4503599627370496) = x % 9223372036854775808 := by omega
  rw [e2, Nat.min_eq_left (by omega), hs]
theorem half_read : double.read 4602678819172646912 = .number false 4503599627370496 (-53) := by decide
theorem half_of {y : Nat} {s : Bool} {m : Nat} {p : Int} (h : double.read y = .number s m p) : fb .mul y 4602678819172646912 = some (double.nearest s m (p - 1)) := by
 show ((double.read y).product (double.read 4602678819172646912)).map double.write = _
 rw [h, half_read]
 simp only [Datum.product, Option.map_some]
 show some (double.nearest (s ^^ false) (m * 4503599627370496) (p + -53)) = _
 have e1 := nearest_shift s m (p - 1) 52
 rw [show (p - 1 - ((52 : Nat) : Int)) = p + -53 from by omega] at e1
 rw [show (4503599627370496 : Nat) = 2 ^ 52 from by decide, show (s ^^ false) = s from by cases s <;> rfl, e1]
theorem quo_of {y : Nat} {s : Bool} {m : Nat} {p : Int} (h : double.read y = .number s m p) (h53 : m < 2 ^ 53) : fb .quo y 4611686018427387904 = some (double.nearest s m (p - 1)) := by
 show ((double.read y).quotient (double.fractionBits + 2) (double.read 4611686018427387904)).map double.write = _
 rw [h, two_read]
 simp only [Datum.quotient]
 rw [if_neg (by decide)]
 simp only [Option.map_some]
 have hl : m.log2 ≤ 52 := by
  by_cases hm : m = 0
  ·subst hm; decide
  ·exact log2_53 hm h53
 have e0 : double.fractionBits + 2 + Nat.log2 4503599627370496 - m.log2 = 106 - m.log2 := by
  rw [show Nat.log2 4503599627370496 = 52 from by decide]; rfl
 rw [e0]
 have e1 : m <<< (106 - m.log2) = (m * 2 ^ (54 - m.log2)) * 4503599627370496 := by
  rw [Nat.shiftLeft_eq, show (4503599627370496 : Nat) = 2 ^ 52 from by decide, Nat.mul_assoc, ← Nat.pow_add]
  congr 2
  omega
 rw [e1, Nat.mul_div_cancel _ (by decide), Nat.mul_mod_left]
 show some (double.nearest (s ^^ false) (2 * (m * 2 ^ (54 - m.log2)) + 0) (p - -51 - ((106 - m.log2 : Nat) : Int) - 1)) = _
 have := nearest_shift (s ^^ false) m (p - 1) (55 - m.log2)
 rw [show (p - 1 - ((55 - m.log2 : Nat) : Int)) = p - -51 - ((106 - m.log2 : Nat) : Int) - 1 from by omega] at this
 rw [Nat.add_zero, show 2 * (m * 2 ^ (54 - m.log2)) = m * 2 ^ (55 - m.log2) from by rw [show 55 - m.log2 = (54 - m.log2) + 1 from by omega, Nat.pow_succ]; generalize 2 ^ (54 - m.log2) = q; rw [Nat.mul_left_comm, Nat.mul_comm 2 q], this]
 cases s <;> rfl
theorem half_eq {y : Nat} (h : isN y = false) : fb .mul y 4602678819172646912 = fb .quo y 4611686018427387904 := by
 cases hr : double.read y with
 | nan s t => unfold isN at h; rw [show rd64 y = _ from hr] at h; cases h
 | infinity s =>
  show ((double.read y).product (double.read 4602678819172646912)).map double.write = ((double.read y).quotient (double.fractionBits + 2) (double.read 4611686018427387904)).map double.write
  rw [hr, two_read, half_read]
  cases s <;> rfl
 | number s m p =>
  obtain ⟨s', m', p', h1, h2, _⟩ := read_fin (fin_of hr)
  rw [hr] at h1
  injection h1 with r1 r2 r3
  subst r1 r2 r3
  rw [half_of hr, quo_of hr h2]
theorem double_back {x y : Nat} (hx : x < 2 ^ 64) (h : isFin x = true) (hd : fb .mul x 4611686018427387904 = some y) (hy : isFin y = true) : fb .mul y 4602678819172646912 = some x := by
 obtain ⟨s, m, u, t1, t2, t3, t4⟩ := twice h
 rw [t1] at hd
 have hd := Option.some.inj hd
 by_cases hm : m = 0
 ·subst hm
  rw [Nat.zero_mul, zero_nearest] at hd
  have hw : double.nearest s 0 ((u : Int) - 1074) = x := write_read hx h t4
  rw [zero_nearest] at hw
  rw [half_of (show double.read y = .number s 0 (-1074) from by rw [← hd]; exact read_low s (by decide)), zero_nearest, hw]
 ·have hX : m * 2 ^ (u + 1) ≠ 0 := Nat.mul_ne_zero hm (Nat.ne_of_gt (Nat.two_pow_pos _))
  rw [← hd] at hy ⊢
  rcases nearest_fin s hX with ⟨f1, f2⟩ | f2
  ·have hv : vo (m * 2 ^ (u + 1)) = m * 2 ^ (u + 1) := Nat.le_antisymm (vo_le hX t2 (Nat.le_refl _)) (vo_ge hX t2 (Nat.le_refl _))
   rw [hv] at f2
   generalize double.nearest s (m * 2 ^ (u + 1)) (-1074) = z at f1 f2 ⊢
   obtain ⟨s', m', p', g1, g2, g3, g4, g5, g6⟩ := U_bound f1
   rw [half_of g1]
   rw [g6, signed_eq, signed_eq] at f2
   have hw : double.nearest s m ((u : Int) - 1074) = x := write_read hx h t4
   have e2 := nearest_shift s m ((u : Int) - 1074) (u + 1)
   have e1 := nearest_shift s' m' (p' - 1) (p' + 1074).toNat
   rw [show (u : Int) - 1074 - ((u + 1 : Nat) : Int) = -1075 from by omega] at e2
   rw [show p' - 1 - ((p' + 1074).toNat : Int) = -1075 from by omega] at e1
   have hpow : (0 : Int) < ((m * 2 ^ (u + 1) : Nat) : Int) := by omega
   have hn : ((m' * 2 ^ (p' + 1074).toNat : Nat) : Int) = (m' : Int) * 2 ^ (p' + 1074).toNat := by push_cast; rfl
   rw [← hn] at f2
   rw [Int.pow_zero, Int.mul_one] at f2
   have hn0 : (0 : Int) ≤ ((m' * 2 ^ (p' + 1074).toNat : Nat) : Int) := Int.natCast_nonneg _
   have hss : s' = s ∧ m' * 2 ^ (p' + 1074).toNat = m * 2 ^ (u + 1) := by
    generalize m' * 2 ^ (p' + 1074).toNat = A at f2 hn0 ⊢
    generalize m * 2 ^ (u + 1) = B at f2 hpow ⊢
    cases s' <;> cases s <;> simp at f2 <;> constructor <;> first | rfl | omega | (exfalso; omega)
   obtain ⟨r1, r2⟩ := hss
   rw [r1, r2] at e1
   rw [r1, ← e1, e2, hw]
  ·unfold isFin at hy
   rw [show rd64 _ = _ from f2] at hy
   cases hy
end Go.Proofs.Ytdjkcpmoigemdaa.Fx
