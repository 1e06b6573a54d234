/- The tests for finite floats and the absolute value, walked. -/
import Derived.Test.YtdjkcpmoigemdaaProg
import Derived.Test.YtdjkcpmoigemdaaG0
import Derived.Laws.Externs
import Derived.Laws.BitsAllLaws
import Derived.BigRegion
import Derived.Test.YtdjkcpmoigemdaaFm1
namespace Go.Proofs.Ytdjkcpmoigemdaa
open Go Go.Proofs.Ytdjkcpmoigemdaa.Fl
set_option linter.unusedVariables false
set_option linter.unusedSimpArgs false
attribute [local go_sem] run_add run_sub run_mul run_quo
theorem isReal_calls (x : Nat) (w : World) : Calls Try.prog 31 #[.float .f64 x] w fun e w' => e = .returned (.bool (isFin x)) ∧ ∃ n, w' = w.drewN n := by
 have hf := fin_test x w
 go_enter Try.func31, Try.ntmps31
 go_wp2
 go_ret
 exact ⟨rfl, _, rfl⟩
theorem l01Real_calls (x : Nat) (w : World) : Calls Try.prog 37 #[.float .f64 x] w fun e w' => e = .returned (.bool (isFin x)) ∧ ∃ n, w' = w.drewN n := by
 have hf := fin_test x w
 go_enter Try.func37, Try.ntmps37
 go_wp2
 go_ret
 exact ⟨rfl, _, rfl⟩
theorem run_bits (x : Nat) (w : World) : (callFunc 73 #[.float .f64 x]).run Try.prog w = .ok (.value (.int .u64 x)) w := by
 rw [run_callFunc_extern (e := Extern.MathFloatBits.float64bits) Try.func73 (by kernel_rfl) (by kernel_rfl) (by kernel_rfl) (by kernel_rfl)]
 rfl
theorem run_frombits (x : Int) (w : World) : (callFunc 72 #[.int .u64 x]).run Try.prog w = .ok (.value (.float .f64 x.toNat)) w := by
 rw [run_callFunc_extern (e := Extern.MathFloatBits.float64frombits) Try.func72 (by kernel_rfl) (by kernel_rfl) (by kernel_rfl) (by kernel_rfl)]
 rfl
theorem abs_bits {x : Nat} (h : x < 2 ^ 64) : (bits .andNot .u64 (x : Int) 9223372036854775808).toNat = Op.Complex.abs x := by
 rw [u64_andNot x 9223372036854775808 (by omega) (by omega) (by omega) (by omega)]
 rw [Int.toNat_natCast, Int.toNat_natCast]
 show x &&& (2 ^ 63 - 1) = x % 2 ^ 63
 rw [Nat.and_two_pow_sub_one_eq_mod]
attribute [local go_sem] run_bits run_frombits
set_option maxRecDepth 100000 in
theorem abs_calls (x : Nat) (h : x < 2 ^ 64) (w : World) : Calls Try.prog 69 #[.float .f64 x] w fun e w' => e = .returned (.float .f64 (Op.Complex.abs x)) ∧ w' = w := by
 have hx := abs_bits h
 go_enter Try.func69, Try.ntmps69
 go_wp2
 go_ret
 exact ⟨by simp [hx], rfl⟩
end Go.Proofs.Ytdjkcpmoigemdaa
namespace Go.Proofs.Ytdjkcpmoigemdaa
open Go Go.Proofs.Ytdjkcpmoigemdaa.Fl
set_option linter.unusedVariables false
set_option linter.unusedSimpArgs false
attribute [local go_sem] run_add run_sub run_mul run_quo run_cadd run_csub
def fit (r i : Nat) : Nat × Nat × Int := if isFin r && isFin i then (r, i, 0) else (0, 0, 3)
def fitO (r i : Option Nat) : Nat × Nat × Int := match r, i with
 | some x, some y => fit x y
 | _, _ => (0, 0, 3)
theorem isFin_nan {b : Nat} (h : can b = none) : isFin b = false := by
 unfold can at h
 split at h
 ·rename_i hn
  obtain ⟨s, t, hh⟩ := nan_cases hn
  unfold isFin; rw [hh]
 ·cases h
theorem fit_can {r i : Nat} {o p : Option Nat} (hr : can r = o) (hi : can i = p) : fit r i = fitO o p := by
 subst hr; subst hi
 unfold fitO
 cases h1 : can r with
 | none => simp [fit, isFin_nan h1]
 | some x =>
  cases h2 : can i with
  | none => simp [fit, isFin_nan h2]
  | some y => rw [can_some h1, can_some h2]
def wide2 (f : Nat → Nat → Nat → Nat → Option Nat × Option Nat) (a b c d : Nat) : Nat × Nat × Int :=
 if isFin a && isFin b then (if isFin c && isFin d then fitO (f a b c d).1 (f a b c d).2 else (0, 0, 1)) else (0, 0, 1)
def addO (a b c d : Nat) : Option Nat × Option Nat := (fop .add (can a) (can c), fop .add (can b) (can d))
def subO (a b c d : Nat) : Option Nat × Option Nat := (fop .sub (can a) (can c), fop .sub (can b) (can d))
def mulO (a b c d : Nat) : Option Nat × Option Nat := (fop .sub (fop .mul (can a) (can c)) (fop .mul (can b) (can d)), fop .add (fop .mul (can a) (can d)) (fop .mul (can b) (can c)))
def Qt (w : World) (R : Value → Prop) : Ending → World → Prop := fun e w' => (∃ v, e = .returned v ∧ R v) ∧ ∃ n, w' = w.drewN n
theorem Qt.mk {w : World} {R : Value → Prop} {v : Value} {n : Nat} (h : R v) : Qt w R (.returned v) (w.drewN n) := ⟨⟨v, rfl, h⟩, n, rfl⟩
def parts (p : Nat × Nat × Int) : Value := .tuple #[.complex .f64 p.1 p.2.1, .int .i64 p.2.2]
def Cx (f : Option Nat × Option Nat) (v : Value) : Prop := ∃ r i, v = .complex .f64 r i ∧ can r = f.1 ∧ can i = f.2
theorem isFinite_calls (a b : Nat) (w : World) : Calls Try.prog 47 #[.complex .f64 a b] w fun e w' => e = .returned (.bool (isFin a && isFin b)) ∧ ∃ n, w' = w.drewN n := by
 cases ha : isFin a
 ·go_enter Try.func47, Try.ntmps47
  go_wp2_with fail
  refine (isReal_calls a w).mono ?_
  rintro e w1 ⟨rfl, n, rfl⟩
  rw [ha]
  go_wp2
  go_ret
  exact ⟨rfl, _, rfl⟩
 ·go_enter Try.func47, Try.ntmps47
  go_wp2_with fail
  refine (isReal_calls a w).mono ?_
  rintro e w1 ⟨rfl, n, rfl⟩
  rw [ha]
  go_wp2_with fail
  refine (isReal_calls b _).mono ?_
  rintro e w1 ⟨rfl, m, rfl⟩
  go_wp2
  go_ret
  exact ⟨by simp, _, rfl⟩
theorem l01Finite_calls (a b : Nat) (w : World) : Calls Try.prog 50 #[.complex .f64 a b] w fun e w' => e = .returned (.bool (isFin a && isFin b)) ∧ ∃ n, w' = w.drewN n := by
 cases ha : isFin a
 ·go_enter Try.func50, Try.ntmps50
  go_wp2_with fail
  refine (l01Real_calls a w).mono ?_
  rintro e w1 ⟨rfl, n, rfl⟩
  rw [ha]
  go_wp2
  go_ret
  exact ⟨rfl, _, rfl⟩
 ·go_enter Try.func50, Try.ntmps50
  go_wp2_with fail
  refine (l01Real_calls a w).mono ?_
  rintro e w1 ⟨rfl, n, rfl⟩
  rw [ha]
  go_wp2_with fail
  refine (l01Real_calls b _).mono ?_
  rintro e w1 ⟨rfl, m, rfl⟩
  go_wp2
  go_ret
  exact ⟨by simp, _, rfl⟩
theorem add_calls (a b c d : Nat) (w : World) : Calls Try.prog 58 #[.complex .f64 a b, .complex .f64 c d] w fun e w' => Qt w (Cx (addO a b c d)) e w' := by
 go_enter Try.func58, Try.ntmps58
 go_wp2
 go_ret
 exact ⟨⟨_, rfl, _, _, rfl, can_fr _ _ _ _, can_fr _ _ _ _⟩, _, rfl⟩
theorem subtract_calls (a b c d : Nat) (w : World) : Calls Try.prog 46 #[.complex .f64 a b, .complex .f64 c d] w fun e w' => Qt w (Cx (subO a b c d)) e w' := by
 go_enter Try.func46, Try.ntmps46
 go_wp2
 go_ret
 exact ⟨⟨_, rfl, _, _, rfl, can_fr _ _ _ _, can_fr _ _ _ _⟩, _, rfl⟩
theorem multiply_calls (a b c d : Nat) (w : World) : Calls Try.prog 45 #[.complex .f64 a b, .complex .f64 c d] w fun e w' => Qt w (Cx (mulO a b c d)) e w' := by
 go_enter Try.func45, Try.ntmps45
 go_wp2
 go_ret
 exact ⟨⟨_, rfl, _, _, rfl, by simp only [can_fr, mulO], by simp only [can_fr, mulO]⟩, _, rfl⟩
theorem l01Times_calls (a b c d : Nat) (w : World) : Calls Try.prog 64 #[.complex .f64 a b, .complex .f64 c d] w fun e w' => Qt w (Cx (mulO a b c d)) e w' := by
 go_enter Try.func64, Try.ntmps64
 go_wp2
 go_ret
 exact ⟨⟨_, rfl, _, _, rfl, by simp only [can_fr, mulO], by simp only [can_fr, mulO]⟩, _, rfl⟩
end Go.Proofs.Ytdjkcpmoigemdaa
namespace Go.Proofs.Ytdjkcpmoigemdaa.Fx
open Go Ieee Go.Proofs.Ytdjkcpmoigemdaa Go.Proofs.Ytdjkcpmoigemdaa.Fl
set_option linter.unusedVariables false
set_option linter.unusedSimpArgs false
theorem word_lt (s : Bool) {r : Nat} (h : r ≤ 9218868437227405312) : double.word s r < 2 ^ 64 := by
 unfold Format.word
 rw [sw]
 split <;> omega
theorem word_neg (s : Bool) {r : Nat} (h : r ≤ 9218868437227405312) : double.word (!s) r = Op.negFloat .f64 (double.word s r) := by
 rw [neg_eq (word_lt s h)]
 unfold Format.word
 rw [sw]
 cases s
 ·simp; omega
 ·simp; omega
theorem nearest_neg (s : Bool) (m : Nat) (p : Int) : double.nearest (!s) m p = Op.negFloat .f64 (double.nearest s m p) := by
 by_cases hm : m = 0
 ·subst hm
  rw [zero_nearest, zero_nearest]
  exact word_neg s (by omega)
 ·rw [nearest_def _ hm, nearest_def _ hm, cut_sign (!s) s]
  exact word_neg s (Nat.min_le_right _ _)
theorem write_opp {d : Datum} (h : d.isNaN = false) : double.write d.opposite = Op.negFloat .f64 (double.write d) := by
 cases d with
 | number s m p => exact nearest_neg s m p
 | infinity s => exact word_neg s (by rw [ir]; exact Nat.le_refl _)
 | nan s t => cases h
theorem product_opp (d e : Datum) : d.product e.opposite = (d.product e).map Datum.opposite := by
 cases d <;> cases e <;> simp only [Datum.product, Datum.opposite, Option.map_none, Option.map_some]
 ·congr 2; rename_i s _ _ t _ _; cases s <;> cases t <;> rfl
 ·split <;> simp; rename_i s _ _ t _; cases s <;> cases t <;> rfl
 ·split <;> simp; rename_i s t _ _ _; cases s <;> cases t <;> rfl
 ·congr 2; rename_i s t; cases s <;> cases t <;> rfl
theorem fb_mul_neg {x y : Nat} (hy : y < 2 ^ 64) : fb .mul x (Op.negFloat .f64 y) = (fb .mul x y).map (Op.negFloat .f64) := by
 show ((double.read x).product (double.read (Op.negFloat .f64 y))).map double.write = (((double.read x).product (double.read y)).map double.write).map _
 rw [read_neg hy, product_opp]
 cases hp : (double.read x).product (double.read y) with
 | none => rfl
 | some d =>
  simp only [Option.map_some]
  rw [write_opp (product_notnan hp)]
theorem neg_neg {y : Nat} (hy : y < 2 ^ 64) : Op.negFloat .f64 (Op.negFloat .f64 y) = y := by
 show (y ^^^ 2 ^ 63) ^^^ 2 ^ 63 = y
 rw [Nat.xor_assoc, Nat.xor_self, Nat.xor_zero]
theorem neg_lt' {x : Nat} (h : x < 2 ^ 64) : Op.negFloat .f64 x < 2 ^ 64 := Nat.xor_lt_two_pow h (by decide)
theorem fb_lt {op : BinOp} {x y r : Nat} (h : fb op x y = some r) : r < 2 ^ 64 := by
 unfold fb floatBits at h
 split at h
 ·exact double.add_lt h
 ·exact double.sub_lt h
 ·exact double.mul_lt h
 ·exact double.div_lt h
 ·cases h
theorem fb_neg_mul {x y : Nat} (hx : x < 2 ^ 64) : fb .mul (Op.negFloat .f64 x) y = (fb .mul x y).map (Op.negFloat .f64) := by
 rw [fb_mul_comm, fb_mul_neg hx, fb_mul_comm]
theorem fb_neg_neg {x y : Nat} (hx : x < 2 ^ 64) (hy : y < 2 ^ 64) : fb .mul (Op.negFloat .f64 x) (Op.negFloat .f64 y) = fb .mul x y := by
 rw [fb_mul_neg hy, fb_neg_mul hx]
 cases h : fb .mul x y with
 | none => rfl
 | some r => simp only [Option.map_some]; rw [neg_neg (fb_lt h)]
theorem U_neg {x : Nat} (hx : x < 2 ^ 64) (h : isFin x = true) : U (Op.negFloat .f64 x) = -U x := by
 obtain ⟨s, m, p, h1, h2, h3, h4, h5, h6⟩ := U_bound h
 have : double.read (Op.negFloat .f64 x) = .number (!s) m p := by rw [read_neg hx, h1]; rfl
 rw [U_of this, h6, signed_eq, signed_eq]
 cases s <;> simp
theorem fin_terms {x y r : Nat} (h : fb .add x y = some r) (hf : isFin r = true) : isFin x = true ∧ isFin y = true := by
 have hw : ∀ s, isFin (double.write (.infinity s)) = false := by intro s; cases s <;> decide
 have h' : ((double.read x).sum (double.read y)).map double.write = some r := h
 cases hx : double.read x <;> cases hy : double.read y <;> rw [hx, hy] at h' <;> simp only [Datum.sum, Option.map_none, Option.map_some] at h' <;> first | (cases h'; done) | skip
 ·exact ⟨fin_of hx, fin_of hy⟩
 ·rw [← Option.some.inj h', hw] at hf; cases hf
 ·rw [← Option.some.inj h', hw] at hf; cases hf
 ·split at h'
  ·simp only [Option.map_some] at h'
   rw [← Option.some.inj h', hw] at hf; cases hf
  ·cases h'
theorem order_refl {a b : Nat} (ha : isFin a = true) (hb : isFin b = true) (h : U a = U b) : FloatKind.f64.format.order a b = some .eq := (gt_U hb ha).2.2.2 h
theorem fb_add_neg {x y r : Nat} (hx : x < 2 ^ 64) (hy : y < 2 ^ 64) (h : fb .add x y = some r) (hf : isFin r = true) :
  ∃ r', fb .add (Op.negFloat .f64 x) (Op.negFloat .f64 y) = some r' ∧ isFin r' = true ∧ FloatKind.f64.format.order r' (Op.negFloat .f64 r) = some .eq := by
 obtain ⟨fx, fy⟩ := fin_terms h hf
 have fx' : isFin (Op.negFloat .f64 x) = true := by rw [isFin_neg hx]; exact fx
 have fy' : isFin (Op.negFloat .f64 y) = true := by rw [isFin_neg hy]; exact fy
 have hr := fb_lt h
 have fr' : isFin (Op.negFloat .f64 r) = true := by rw [isFin_neg hr]; exact hf
 obtain ⟨s, e1, e2⟩ := add_U fx fy
 obtain ⟨t, g1, g2⟩ := add_U fx' fy'
 rw [U_neg hx fx, U_neg hy fy] at g1 g2
 rw [e1] at h
 have h := Option.some.inj h
 have hT : (-U x + -U y).natAbs = (U x + U y).natAbs := by omega
 rw [hT] at g1
 refine ⟨_, g1, ?_⟩
 by_cases h0 : U x + U y = 0
 ·have : (U x + U y).natAbs = 0 := by omega
  rw [this, zero_nearest] at h ⊢
  obtain ⟨z1, z2⟩ := zero_word t
  refine ⟨z1, order_refl z1 fr' ?_⟩
  rw [U_neg hr hf, ← h, z2, (zero_word s).2]
  rfl
 ·have hs := e2 h0
  have ht := g2 (by omega)
  have hst : t = !s := by
   rw [hs, ht]
   by_cases hl : U x + U y < 0
   ·rw [decide_eq_true hl, decide_eq_false (by omega)]; rfl
   ·rw [decide_eq_false hl, decide_eq_true (by omega)]; rfl
  rw [hst, nearest_neg, h]
  exact ⟨fr', order_refl fr' fr' rfl⟩
theorem fb_mul_some {x y : Nat} (hx : isFin x = true) (hy : isFin y = true) : ∃ r, fb .mul x y = some r := by
 obtain ⟨s, m, p, h1, _⟩ := U_bound hx
 obtain ⟨t, n, q, g1, _⟩ := U_bound hy
 refine ⟨double.nearest (s ^^ t) (m * n) (p + q), ?_⟩
 show ((double.read x).product (double.read y)).map double.write = _
 rw [h1, g1]
 rfl
theorem can_fin {x : Nat} (h : isFin x = true) : can x = some x := by
 unfold can
 rw [isN_fin h]
 rfl
theorem conj_mul {a b c d r i : Nat} (ha : a < 2 ^ 64) (hb : b < 2 ^ 64) (hc : c < 2 ^ 64) (hd : d < 2 ^ 64) (h : wide2 mulO a b c d = (r, i, 0)) :
  (isFin a && isFin b) = true ∧ (isFin c && isFin d) = true ∧ isFin r = true ∧ isFin i = true ∧ i < 2 ^ 64 ∧ ∃ i', wide2 mulO a (Op.negFloat .f64 b) c (Op.negFloat .f64 d) = (r, i', 0) ∧ isFin i' = true ∧ FloatKind.f64.format.order i' (Op.negFloat .f64 i) = some .eq := by
 unfold wide2 at h
 cases h1 : (isFin a && isFin b)
 ·rw [h1] at h; simp at h
 cases h2 : (isFin c && isFin d)
 ·rw [h1, h2] at h; simp at h
 rw [h1, h2, if_pos rfl, if_pos rfl] at h
 rw [Bool.and_eq_true] at h1 h2
 have fb' : isFin (Op.negFloat .f64 b) = true := by rw [isFin_neg hb]; exact h1.2
 have fd' : isFin (Op.negFloat .f64 d) = true := by rw [isFin_neg hd]; exact h2.2
 have e1 := can_fin h1.1
 have e2 := can_fin h1.2
 have e3 := can_fin h2.1
 have e4 := can_fin h2.2
 have e5 := can_fin fb'
 have e6 := can_fin fd'
 obtain ⟨P, hP⟩ := fb_mul_some h1.1 h2.2
 obtain ⟨Q, hQ⟩ := fb_mul_some h1.2 h2.1
 have hm : mulO a b c d = (fop .sub (fb .mul a c) (fb .mul b d), fb .add P Q) := by
  unfold mulO fop
  simp only [e1, e2, e3, e4, Option.bind_some, hP, hQ]
 have hm' : mulO a (Op.negFloat .f64 b) c (Op.negFloat .f64 d) = (fop .sub (fb .mul a c) (fb .mul b d), fb .add (Op.negFloat .f64 P) (Op.negFloat .f64 Q)) := by
  unfold mulO fop
  simp only [e1, e3, e5, e6, Option.bind_some]
  rw [fb_neg_neg hb hd, fb_mul_neg hd, fb_neg_mul hb, hP, hQ]
  rfl
 rw [hm] at h
 cases k1 : fop .sub (fb .mul a c) (fb .mul b d) with
 | none => rw [k1] at h; simp [fitO] at h
 | some u =>
  cases k2 : fb .add P Q with
  | none => rw [k1, k2] at h; simp [fitO] at h
  | some v =>
   rw [k1, k2] at h
   simp only [fitO, fit] at h
   cases k3 : (isFin u && isFin v)
   ·rw [k3] at h; simp at h
   rw [k3, if_pos rfl] at h
   simp only [Prod.mk.injEq, and_true] at h
   obtain ⟨rfl, rfl⟩ := h
   rw [Bool.and_eq_true] at k3
   obtain ⟨i', g1, g2, g3⟩ := fb_add_neg (fb_lt hP) (fb_lt hQ) k2 k3.2
   refine ⟨by simp [h1], by simp [h2], k3.1, k3.2, fb_lt k2, i', ?_, g2, g3⟩
   unfold wide2
   rw [h1.1, fb', h2.1, fd', hm', k1, g1]
   simp [fitO, fit, k3.1, g2]
def stp (f : Nat → Nat → Nat → Nat → Option Nat × Option Nat) (p q c d : Nat) : Option (Nat × Nat) := match (f p q c d).1, (f p q c d).2 with
 | some r, some i => if isFin r && isFin i then some (r, i) else none
 | _, _ => none
theorem stp_of {f : Nat → Nat → Nat → Nat → Option Nat × Option Nat} {p q c d r i : Nat} (hr : can r = (f p q c d).1) (hi : can i = (f p q c d).2) : stp f p q c d = if isFin r && isFin i then some (r, i) else none := by
 unfold stp
 rw [← hr, ← hi]
 cases h1 : can r with
 | none => simp [isFin_nan h1]
 | some x =>
  cases h2 : can i with
  | none => simp [isFin_nan h2]
  | some y => rw [can_some h1, can_some h2]
def itO (f : Nat → Nat → Nat → Nat → Option Nat × Option Nat) : Nat → Nat → List (Nat × Nat) → Option (Nat × Nat)
 | p, q, [] => some (p, q)
 | p, q, z :: zs => (stp f p q z.1 z.2).bind fun o => itO f o.1 o.2 zs
def itR (o : Option (Nat × Nat)) : Nat × Nat × Int := match o with
 | some (r, i) => (r, i, 0)
 | none => (0, 0, 3)
def powW (a b : Nat) (k : Int) : Nat × Nat × Int :=
 if isFin a && isFin b then (if 0 ≤ k ∧ k ≤ 64 then itR (itO mulO 4607182418800017408 0 (List.replicate k.toNat (a, b))) else (0, 0, 2)) else (0, 0, 1)
def finL (zs : List (Nat × Nat)) : Bool := zs.all fun z => isFin z.1 && isFin z.2
def listW (f : Nat → Nat → Nat → Nat → Option Nat × Option Nat) (p q : Nat) (zs : List (Nat × Nat)) : Nat × Nat × Int :=
 if 100 < zs.length then (0, 0, 2) else if finL zs then itR (itO f p q zs) else (0, 0, 1)
theorem pow_list {a b : Nat} {k : Int} {r i : Nat} (h : powW a b k = (r, i, 0)) : 0 ≤ k ∧ k ≤ 64 ∧ listW mulO 4607182418800017408 0 (List.replicate k.toNat (a, b)) = (r, i, 0) := by
 unfold powW at h
 cases h1 : (isFin a && isFin b)
 ·rw [h1] at h; simp at h
 rw [h1, if_pos rfl] at h
 by_cases hk : 0 ≤ k ∧ k ≤ 64
 ·rw [if_pos hk] at h
  refine ⟨hk.1, hk.2, ?_⟩
  unfold listW finL
  rw [List.length_replicate, if_neg (by omega)]
  have : (List.replicate k.toNat (a, b)).all (fun z => isFin z.1 && isFin z.2) = true := by
   rw [List.all_eq_true]
   intro z hz
   rw [List.eq_of_mem_replicate hz]
   exact h1
  rw [this, if_pos rfl]
  exact h
 ·rw [if_neg hk] at h; simp at h
def rep (f : Option Nat → Option Nat) : Nat → Option Nat → Option Nat
 | 0, o => o
 | n + 1, o => rep f n (f o)
theorem rep_snoc (f : Option Nat → Option Nat) (n : Nat) : ∀ o, rep f (n + 1) o = f (rep f n o) := by
 induction n with
 | zero => intro o; rfl
 | succ n ih => intro o; exact ih (f o)
def dbl (o : Option Nat) : Option Nat := fop .mul o (some 4611686018427387904)
def hlf (o : Option Nat) : Option Nat := fop .mul o (some 4602678819172646912)
def hlq (o : Option Nat) : Option Nat := fop .quo o (some 4611686018427387904)
theorem dbl_inf {x : Nat} (h : isFin x = false) (hn : isN x = false) : ∃ y, dbl (some x) = some y ∧ isFin y = false ∧ isN y = false := by
 cases hr : double.read x with
 | nan s t => unfold isN at hn; rw [show rd64 x = _ from hr] at hn; cases hn
 | number s m p => rw [fin_of hr] at h; cases h
 | infinity s =>
  refine ⟨double.write (.infinity (s ^^ false)), ?_, ?_, ?_⟩
  ·show ((double.read x).product (double.read 4611686018427387904)).map double.write = _
   rw [hr, two_read]
   rfl
  ·cases s <;> decide
  ·cases s <;> decide
theorem rep_inf (n : Nat) : ∀ {x y : Nat}, isFin x = false → isN x = false → rep dbl n (some x) = some y → isFin y = false := by
 induction n with
 | zero => intro x y h hn hr; rw [← Option.some.inj hr]; exact h
 | succ n ih =>
  intro x y h hn hr
  obtain ⟨z, z1, z2, z3⟩ := dbl_inf h hn
  unfold rep at hr
  rw [z1] at hr
  exact ih z2 z3 hr
theorem rep_back (n : Nat) : ∀ {x y : Nat}, x < 2 ^ 64 → isFin x = true → rep dbl n (some x) = some y → isFin y = true → rep hlf n (some y) = some x := by
 induction n with
 | zero => intro x y hx h hr hy; rw [← Option.some.inj hr]; rfl
 | succ n ih =>
  intro x y hx h hr hy
  unfold rep at hr
  cases hd : fb .mul x 4611686018427387904 with
  | none =>
   obtain ⟨s, m, u, t1, _⟩ := twice h
   rw [t1] at hd
   cases hd
  | some z =>
   have e : dbl (some x) = some z := hd
   rw [e] at hr
   cases hz : isFin z
   ·have := rep_inf n hz (fb_notnan hd) hr
    rw [this] at hy
    cases hy
   ·have := ih (fb_lt hd) hz hr hy
    rw [rep_snoc, this]
    exact double_back hx h hd hz
theorem hlf_hlq (o : Option Nat) (h : ∀ x, o = some x → isN x = false) : hlf o = hlq o := by
 cases o with
 | none => rfl
 | some x => exact half_eq (h x rfl)
theorem hlq_nan {o : Option Nat} {x : Nat} (h : hlq o = some x) : isN x = false := by
 cases o with
 | none => cases h
 | some y => exact fb_notnan (show fb .quo y 4611686018427387904 = some x from h)
theorem rep_hlq (n : Nat) : ∀ o, (∀ x, o = some x → isN x = false) → rep hlf n o = rep hlq n o := by
 induction n with
 | zero => intro o h; rfl
 | succ n ih =>
  intro o h
  show rep hlf n (hlf o) = rep hlq n (hlq o)
  rw [hlf_hlq o h]
  exact ih _ (fun x hx => hlq_nan hx)
theorem can_isN {x y : Nat} (h : can x = some y) : isN y = false := by
 have := can_some h
 subst this
 unfold can at h
 split at h
 ·cases h
 ·rename_i g; simpa using g
def scK (k : Int) (o : Option Nat) : Option Nat := if k < 0 then rep hlf (-k).toNat o else rep dbl k.toNat o
def scaleW (a b : Nat) (k : Int) : Nat × Nat × Int :=
 if isFin a && isFin b then (if -2200 ≤ k ∧ k ≤ 2200 then fitO (scK k (can a)) (scK k (can b)) else (0, 0, 2)) else (0, 0, 1)
theorem fitO_zero' {o p : Option Nat} {r i : Nat} (h : fitO o p = (r, i, 0)) : o = some r ∧ p = some i ∧ isFin r = true ∧ isFin i = true := by
 cases o with
 | none => simp [fitO] at h
 | some x =>
  cases p with
  | none => simp [fitO] at h
  | some y =>
   simp only [fitO, fit] at h
   cases k : (isFin x && isFin y)
   ·rw [k] at h; simp at h
   ·rw [k, if_pos rfl] at h
    simp only [Prod.mk.injEq, and_true] at h
    obtain ⟨rfl, rfl⟩ := h
    rw [Bool.and_eq_true] at k
    exact ⟨rfl, rfl, k.1, k.2⟩
theorem scale_back {a b r i : Nat} {k : Int} (ha : a < 2 ^ 64) (hb : b < 2 ^ 64) (hk : 0 ≤ k) (h : scaleW a b k = (r, i, 0)) : scaleW r i (-k) = (a, b, 0) := by
 unfold scaleW at h
 cases h1 : (isFin a && isFin b)
 ·rw [h1] at h; simp at h
 rw [h1, if_pos rfl] at h
 by_cases hk2 : -2200 ≤ k ∧ k ≤ 2200
 ·rw [if_pos hk2] at h
  rw [Bool.and_eq_true] at h1
  obtain ⟨q1, q2, q3, q4⟩ := fitO_zero' h
  unfold scK at q1 q2
  rw [if_neg (by omega), can_fin h1.1] at q1
  rw [if_neg (by omega), can_fin h1.2] at q2
  have b1 := rep_back _ ha h1.1 q1 q3
  have b2 := rep_back _ hb h1.2 q2 q4
  unfold scaleW scK
  rw [q3, q4, Bool.and_self, if_pos rfl, if_pos (by omega), can_fin q3, can_fin q4]
  by_cases h0 : -k < 0
  ·rw [if_pos h0, Int.neg_neg, if_pos h0, b1, b2]
   simp [fitO, fit, h1]
  ·have : k = 0 := by omega
   subst this
   rw [if_neg h0, if_neg h0]
   have z : (0 : Int).toNat = 0 := rfl
   rw [z] at b1 b2
   have c1 : some r = some a := b1
   have c2 : some i = some b := b2
   show fitO (some r) (some i) = _
   rw [c1, c2]
   simp [fitO, fit, h1]
 ·rw [if_neg hk2] at h; simp at h
end Go.Proofs.Ytdjkcpmoigemdaa.Fx
namespace Go.Proofs.Ytdjkcpmoigemdaa
open Go Go.Proofs.Ytdjkcpmoigemdaa.Fl
set_option linter.unusedVariables false
set_option linter.unusedSimpArgs false
attribute [local go_sem] run_add run_sub run_mul run_quo run_cadd run_csub run_bits run_frombits
def quoO (a b c d : Nat) : Option Nat × Option Nat :=
  if absGe c d then
    (fop .quo (fop .add (can a) (fop .mul (can b) (fop .quo (can d) (can c)))) (fop .add (can c) (fop .mul (fop .quo (can d) (can c)) (can d))),
     fop .quo (fop .sub (can b) (fop .mul (can a) (fop .quo (can d) (can c)))) (fop .add (can c) (fop .mul (fop .quo (can d) (can c)) (can d))))
  else
    (fop .quo (fop .add (fop .mul (can a) (fop .quo (can c) (can d))) (can b)) (fop .add (can d) (fop .mul (fop .quo (can c) (can d)) (can c))),
     fop .quo (fop .sub (fop .mul (can b) (fop .quo (can c) (can d))) (can a)) (fop .add (can d) (fop .mul (fop .quo (can c) (can d)) (can c))))
def isZ (c d : Nat) : Bool := (FloatKind.f64.format.order c 0 == some .eq) && (FloatKind.f64.format.order d 0 == some .eq)
set_option maxRecDepth 100000 in
theorem divide_calls (a b c d : Nat) (hc : c < 2 ^ 64) (hd : d < 2 ^ 64) (w : World) : Calls Try.prog 67 #[.complex .f64 a b, .complex .f64 c d] w fun e w' => Qt w (Cx (quoO a b c d)) e w' := by
  unfold quoO
  cases hg : absGe c d
  all_goals
    have hg2 := hg
    unfold absGe at hg2
    go_enter Try.func67, Try.ntmps67
    go_wp2_with fail
    refine (abs_calls c hc w).mono ?_
    rintro e w1 ⟨rfl, rfl⟩
    go_wp2_with fail
    refine (abs_calls d hd _).mono ?_
    rintro e w1 ⟨rfl, rfl⟩
    go_wp2
    go_ret
    exact ⟨⟨_, rfl, _, _, rfl, by simp [can_fr], by simp [can_fr]⟩, _, rfl⟩
theorem isFin_inf {x : Nat} (h : isFin x = true) : Op.Complex.isInf x = false := by
  unfold isFin at h
  show (Ieee.double.read x).isInfinity = false
  cases hx : Ieee.double.read x <;> first | rfl | (rw [show rd64 x = _ from hx] at h; cases h)
theorem run_cmp (op : BinOp) {P : Program} (x y : Nat) (w : World) (h : op = .eql) : (Op.Complex.cmp op .f64 x y).run P w = .ok (FloatKind.f64.format.order x y == some .eq) w := by
  subst h
  simp [Op.Complex.cmp, Op.floatCmp, asBool]
theorem run_cquo {P : Program} (t : TypeId) (a b c d : Nat) (w : World) (ha : isFin a = true) (hb : isFin b = true) (hc : isFin c = true) (hd : isFin d = true) (hz : isZ c d = false) :
    ∃ e f n, (binOp .quo t (.complex .f64 a b) (.complex .f64 c d)).run P w = .ok (.complex .f64 e f) (w.drewN n) ∧ can e = (quoO a b c d).1 ∧ can f = (quoO a b c d).2 := by
  have ia := isFin_inf ha; have ib := isFin_inf hb; have ic := isFin_inf hc; have id_ := isFin_inf hd
  have hz' := hz
  unfold isZ at hz'
  have key : ∃ e f n, (Op.Complex.quotient a b c d).run P w = .ok (e, f) (w.drewN n) ∧ can e = (quoO a b c d).1 ∧ can f = (quoO a b c d).2 := by
    unfold quoO Op.Complex.quotient
    cases hg : absGe c d
    all_goals
      simp only [Sem.run_bind, run_ccmp_geq, hg, Result.andThen_ok, Bool.false_eq_true, if_false, if_true, Op.Complex.mul, Op.Complex.sub, Op.Complex.add, Op.Complex.quo, run_carith4 (op := .mul) rfl, run_carith4 (op := .sub) rfl, run_carith4 (op := .add) rfl, run_carith4 (op := .quo) rfl, run_cmp _ _ _ _ rfl, Sem.run_pure, hz', ia, ib, ic, id_, Bool.false_and, Bool.or_self, ite_self, World.drewN_drewN]
      exact ⟨_, _, _, rfl, by simp only [can_fr], by simp only [can_fr]⟩
  obtain ⟨e, f, n, hq, h1, h2⟩ := key
  exact ⟨e, f, n, by simp [binOp, Op.complexOp, Op.Complex.conv, hq], h1, h2⟩
def divW (a b c d : Nat) : Nat × Nat × Int :=
  if isFin a && isFin b then (if isFin c && isFin d then (if isZ c d then (0, 0, 5) else fitO (quoO a b c d).1 (quoO a b c d).2) else (0, 0, 1)) else (0, 0, 1)
end Go.Proofs.Ytdjkcpmoigemdaa
namespace Go.Proofs.Ytdjkcpmoigemdaa
open Go Go.Proofs.Ytdjkcpmoigemdaa.Fl Ieee
set_option linter.unusedVariables false
set_option linter.unusedSimpArgs false
attribute [local go_sem] run_add run_sub run_mul run_quo run_cadd run_csub
theorem cmpI (x y : Int) : compare x y = .eq ↔ x = y := by
 show compareOfLessAndEq x y = .eq ↔ _
 unfold compareOfLessAndEq
 split
 ·constructor
  ·intro h; cases h
  ·intro h; omega
 ·split
  ·simp_all
  ·constructor
   ·intro h; cases h
   ·intro h; omega
theorem order_self {a : Nat} (h : isN a = false) : FloatKind.f64.format.order a a = some .eq := by
 show (double.read a).order (double.read a) = some .eq
 unfold isN at h
 cases ha : double.read a with
 | nan s t => rw [show rd64 a = _ from ha] at h; cases h
 | infinity s => cases s <;> rfl
 | number s m p =>
  show some (compare _ _) = _
  rw [(cmpI _ _).2 rfl]
theorem order_nan {a : Nat} (h : isN a = true) (b : Nat) : FloatKind.f64.format.order a b = none := by
 show (double.read a).order (double.read b) = none
 obtain ⟨s, t, hh⟩ := nan_cases h
 rw [show double.read a = _ from hh]; cases double.read b <;> rfl
theorem one_over {a : Nat} (h : FloatKind.f64.format.order a 0 = some .eq) : ∃ r, fb .quo 4607182418800017408 a = some r ∧ isN r = false := by
 have z : double.read 0 = .number false 0 double.leastPlace := by decide
 have u : double.read 4607182418800017408 = .number false 4503599627370496 (-52) := by decide
 have h' : (double.read a).order (double.read 0) = some .eq := h
 rw [z] at h'
 cases ha : double.read a with
 | nan s t => rw [ha] at h'; cases h'
 | infinity s => rw [ha] at h'; cases s <;> cases h'
 | number s m p =>
  rw [ha] at h'
  have hm : m = 0 := by
   simp only [Datum.order, Option.some.injEq] at h'
   have := (cmpI _ _).1 h'
   generalize (p - min p double.leastPlace).toNat = k at this
   generalize (double.leastPlace - min p double.leastPlace).toNat = k' at this
   have hs : m <<< k = 0 := by
    unfold signed at this
    generalize m <<< k = q at this
    rw [Nat.zero_shiftLeft] at this
    cases s <;> simp at this <;> omega
   rw [Nat.shiftLeft_eq] at hs
   have hp := Nat.two_pow_pos k
   rcases Nat.mul_eq_zero.1 hs with h | h
   ·exact h
   ·omega
  subst hm
  refine ⟨double.write (.infinity (false ^^ s)), ?_, write_isN rfl⟩
  show ((double.read 4607182418800017408).quotient (double.fractionBits + 2) (double.read a)).map double.write = _
  rw [u, ha]
  simp [Datum.quotient]
theorem fr_of {op : BinOp} {x y r : Nat} (h : fb op x y = some r) (w : World) : fr op x y w = r := by unfold fr; rw [h]; rfl
theorem fn_of {op : BinOp} {x y r : Nat} (h : fb op x y = some r) : fn op x y = 0 := by unfold fn; rw [h]; rfl
set_option maxRecDepth 100000 in
theorem float5_self (a : Nat) (w : World) : Calls Try.prog 52 #[.float .f64 a, .float .f64 a] w fun e w' => e = .returned (.bool true) ∧ ∃ n, w' = w.drewN n := by
 cases hn : isN a
 ·have he := order_self hn
  by_cases hz : FloatKind.f64.format.order a 0 = some .eq
  ·obtain ⟨r, hr, hnr⟩ := one_over hz
   have ho := order_self hnr
   have hf := fr_of hr
   go_enter Try.func52, Try.ntmps52
   go_wp2
   go_ret
   exact ⟨rfl, _, rfl⟩
  ·have hz2 : (FloatKind.f64.format.order a 0 == some .eq) = false := by simpa using hz
   have hz3 : (FloatKind.f64.format.order a 0 != some .eq) = true := by simpa using hz
   clear hz
   go_enter Try.func52, Try.ntmps52
   go_wp2
   go_ret
   exact ⟨rfl, 0, rfl⟩
 ·have he := order_nan hn a
  go_enter Try.func52, Try.ntmps52
  go_wp2
  go_ret
  exact ⟨rfl, 0, rfl⟩
set_option maxRecDepth 100000 in
theorem same5_self (a b : Nat) (w : World) : Calls Try.prog 16 #[.complex .f64 a b, .complex .f64 a b] w fun e w' => e = .returned (.bool true) ∧ ∃ n, w' = w.drewN n := by
 go_enter Try.func16, Try.ntmps16
 go_wp2_with fail
 refine (float5_self a w).mono ?_
 rintro e w1 ⟨rfl, n, rfl⟩
 go_wp2_with fail
 refine (float5_self b _).mono ?_
 rintro e w1 ⟨rfl, m, rfl⟩
 go_wp2
 go_ret
 exact ⟨rfl, _, rfl⟩
end Go.Proofs.Ytdjkcpmoigemdaa
