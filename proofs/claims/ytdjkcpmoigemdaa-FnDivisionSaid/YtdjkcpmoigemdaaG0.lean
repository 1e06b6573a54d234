/- What an operation on floats gives at every operand, also where the result is a NaN (whose bits the tape draws), and the laws of sums, products and quotients that the statements on wide numbers need. No conditions beyond those of each theorem. -/
import Derived.WalkLawsBesides
import Derived.Deep.Draws
import Derived.WalkKit
import Derived.Tactics
import Derived.Tactics2
import Derived.KernelRfl
namespace Go.Proofs.Ytdjkcpmoigemdaa.Fl
open Go Ieee
set_option linter.unusedVariables false
set_option linter.unusedSimpArgs false
abbrev rd64 (b : Nat) : Datum := double.read b
def isN (b : Nat) : Bool := (rd64 b).isNaN
def can (b : Nat) : Option Nat := if isN b then none else some b
def isFin (b : Nat) : Bool := rd64 b matches .number ..
def fb (op : BinOp) (x y : Nat) : Option Nat := floatBits op .f64 x y
def fop (op : BinOp) (x y : Option Nat) : Option Nat := x.bind fun a => y.bind fun b => fb op a b
def nanb (x y : Nat) (w : World) : Nat := (Question.nanBits .f64 x y).cut (w.tape w.drawn (Question.nanBits .f64 x y))
def fr (op : BinOp) (x y : Nat) (w : World) : Nat := (fb op x y).getD (nanb x y w)
def fn (op : BinOp) (x y : Nat) : Nat := if (fb op x y).isSome then 0 else 1
def arith4 (op : BinOp) : Bool := op == .add || op == .sub || op == .mul || op == .quo
theorem arith4_cases {op : BinOp} (h : arith4 op = true) : op = .add ∨ op = .sub ∨ op = .mul ∨ op = .quo := by
 cases op <;> first | (exact absurd h (by decide)) | simp
section
variable {P : Program}
theorem run_arith {op : BinOp} (h : arith4 op = true) (x y : Nat) (w : World) : (Op.floatArith op .f64 x y).run P w = .ok (.float .f64 (fr op x y w)) (w.drewN (fn op x y)) := by
 unfold fr fn
 cases hb : fb op x y with
 | some r =>
  simp only [Option.getD_some, Option.isSome_some, if_true]
  exact run_floatArith w hb
 | none =>
  simp only [Option.getD_none, Option.isSome_none]
  rcases arith4_cases h with rfl | rfl | rfl | rfl <;> simp only [fb, floatBits] at hb <;> (simp [Op.floatArith, hb, Question.forced, nanb]; rfl)
theorem run_bin (t : TypeId) {op : BinOp} (h : arith4 op = true) (x y : Nat) (w : World) : (binOp op t (.float .f64 x) (.float .f64 y)).run P w = .ok (.float .f64 (fr op x y w)) (w.drewN (fn op x y)) := by
 have := run_arith (P := P) h x y w
 rcases arith4_cases h with rfl | rfl | rfl | rfl <;> simpa [binOp] using this
theorem run_add (t : TypeId) (x y : Nat) (w : World) : (binOp .add t (.float .f64 x) (.float .f64 y)).run P w = .ok (.float .f64 (fr .add x y w)) (w.drewN (fn .add x y)) := run_bin t rfl x y w
theorem run_sub (t : TypeId) (x y : Nat) (w : World) : (binOp .sub t (.float .f64 x) (.float .f64 y)).run P w = .ok (.float .f64 (fr .sub x y w)) (w.drewN (fn .sub x y)) := run_bin t rfl x y w
theorem run_mul (t : TypeId) (x y : Nat) (w : World) : (binOp .mul t (.float .f64 x) (.float .f64 y)).run P w = .ok (.float .f64 (fr .mul x y w)) (w.drewN (fn .mul x y)) := run_bin t rfl x y w
theorem run_quo (t : TypeId) (x y : Nat) (w : World) : (binOp .quo t (.float .f64 x) (.float .f64 y)).run P w = .ok (.float .f64 (fr .quo x y w)) (w.drewN (fn .quo x y)) := run_bin t rfl x y w
theorem run_carith4 {op : BinOp} (h : arith4 op = true) (x y : Nat) (w : World) : (Op.Complex.arith op .f64 x y).run P w = .ok (fr op x y w) (w.drewN (fn op x y)) := by
 simp [Op.Complex.arith, run_arith h]
theorem run_cadd (t : TypeId) (a b c d : Nat) (w : World) : (binOp .add t (.complex .f64 a b) (.complex .f64 c d)).run P w = .ok (.complex .f64 (fr .add a c w) (fr .add b d (w.drewN (fn .add a c)))) ((w.drewN (fn .add a c)).drewN (fn .add b d)) := by
 simp [binOp, Op.complexOp, run_carith4 (op := .add) rfl]
theorem run_csub (t : TypeId) (a b c d : Nat) (w : World) : (binOp .sub t (.complex .f64 a b) (.complex .f64 c d)).run P w = .ok (.complex .f64 (fr .sub a c w) (fr .sub b d (w.drewN (fn .sub a c)))) ((w.drewN (fn .sub a c)).drewN (fn .sub b d)) := by
 simp [binOp, Op.complexOp, run_carith4 (op := .sub) rfl]
theorem run_neg (b : Nat) (w : World) : (Op.unary .neg (.float .f64 b)).run P w = .ok (.float .f64 (Op.negFloat .f64 b)) w := rfl
theorem run_cneg (a b : Nat) (w : World) : (Op.unary .neg (.complex .f64 a b)).run P w = .ok (.complex .f64 (Op.negFloat .f64 a) (Op.negFloat .f64 b)) w := rfl
end
theorem nanb_lt (x y : Nat) (w : World) : nanb x y w < 2 ^ 64 := by
 show (w.tape w.drawn (Question.nanBits .f64 x y) % 2) * 2 ^ 63 + 0x7ff0000000000000 + 1 + (w.tape w.drawn (Question.nanBits .f64 x y) / 2) % (2 ^ 52 - 1) < 2 ^ 64
 generalize w.tape w.drawn (Question.nanBits .f64 x y) = t
 have h1 : t % 2 < 2 := Nat.mod_lt _ (by omega)
 have h2 : t / 2 % (2 ^ 52 - 1) < 2 ^ 52 - 1 := Nat.mod_lt _ (by decide)
 omega
theorem sw : double.signWeight = 9223372036854775808 := by decide
theorem ir : double.infRung = 9218868437227405312 := by decide
theorem bn : double.binade = 4503599627370496 := by decide
theorem isN_iff (b : Nat) : isN b = true ↔ 9218868437227405312 < b % 9223372036854775808 := by
 unfold isN rd64 Format.read
 simp only [sw, ir, bn]
 split
 ·simp [Datum.isNaN]; omega
 ·split
  ·simp [Datum.isNaN]; omega
  ·split
   ·simp [Datum.isNaN]; omega
   ·simp [Datum.isNaN]; omega
theorem nanb_nan (x y : Nat) (w : World) : isN (nanb x y w) = true := by
 rw [isN_iff]
 show _ < ((w.tape w.drawn (Question.nanBits .f64 x y) % 2) * 2 ^ 63 + 0x7ff0000000000000 + 1 + (w.tape w.drawn (Question.nanBits .f64 x y) / 2) % (2 ^ 52 - 1)) % _
 generalize w.tape w.drawn (Question.nanBits .f64 x y) = t
 have h1 : t % 2 < 2 := Nat.mod_lt _ (by omega)
 have h2 : t / 2 % (2 ^ 52 - 1) < 2 ^ 52 - 1 := Nat.mod_lt _ (by decide)
 generalize t / 2 % (2 ^ 52 - 1) = b at h2 ⊢
 generalize t % 2 = a at h1 ⊢
 rcases (show a = 0 ∨ a = 1 from by omega) with rfl | rfl <;> omega
theorem word_isN (neg : Bool) {r : Nat} (h : r ≤ 9218868437227405312) : isN (double.word neg r) = false := by
 have hh : ¬ isN (double.word neg r) = true := by
  rw [isN_iff]
  unfold Format.word
  rw [sw]
  split <;> omega
 simpa using hh
theorem write_isN {d : Datum} (h : d.isNaN = false) : isN (double.write d) = false := by
 cases d with
 | number neg m p =>
  show isN (double.nearest neg m p) = false
  unfold Format.nearest
  split
  ·exact word_isN _ (by omega)
  ·refine word_isN _ ?_
   rw [← ir]
   exact Nat.min_le_right _ _
 | infinity neg => exact word_isN _ (by rw [ir]; exact Nat.le_refl _)
 | nan neg f => cases h
theorem sum_notnan {d e r : Datum} (h : d.sum e = some r) : r.isNaN = false := by
 cases d <;> cases e <;> simp only [Datum.sum] at h <;> first | (cases h; done) | skip
 ·cases h; rfl
 ·cases h; rfl
 ·cases h; rfl
 ·split at h <;> cases h; rfl
theorem product_notnan {d e r : Datum} (h : d.product e = some r) : r.isNaN = false := by
 cases d <;> cases e <;> simp only [Datum.product] at h <;> first | (cases h; done) | skip
 ·cases h; rfl
 ·split at h <;> cases h; rfl
 ·split at h <;> cases h; rfl
 ·cases h; rfl
theorem quotient_notnan {n : Nat} {d e r : Datum} (h : d.quotient n e = some r) : r.isNaN = false := by
 cases d <;> cases e <;> simp only [Datum.quotient] at h <;> first | (cases h; done) | skip
 ·split at h
  ·split at h <;> cases h; rfl
  ·cases h; rfl
 ·cases h; rfl
 ·cases h; rfl
theorem fb_notnan {op : BinOp} {x y r : Nat} (h : fb op x y = some r) : isN r = false := by
 unfold fb floatBits at h
 split at h
 ·obtain ⟨d, hd, rfl⟩ := Option.map_eq_some_iff.1 h; exact write_isN (sum_notnan hd)
 ·obtain ⟨d, hd, rfl⟩ := Option.map_eq_some_iff.1 h; exact write_isN (sum_notnan hd)
 ·obtain ⟨d, hd, rfl⟩ := Option.map_eq_some_iff.1 h; exact write_isN (product_notnan hd)
 ·obtain ⟨d, hd, rfl⟩ := Option.map_eq_some_iff.1 h; exact write_isN (quotient_notnan hd)
 ·cases h
theorem nan_cases {d : Datum} (h : d.isNaN = true) : ∃ s t, d = .nan s t := by
 cases d <;> first | (cases h; done) | exact ⟨_, _, rfl⟩
theorem fb_nan {op : BinOp} {x y : Nat} (h : isN x = true ∨ isN y = true) : fb op x y = none := by
 have e : ∀ b, isN b = true → ∃ s t, double.read b = .nan s t := fun b hb => nan_cases hb
 have p : ∀ f : Datum → Datum → Option Datum, (∀ s t d, f (.nan s t) d = none) → (∀ s t d, f d (.nan s t) = none) → f (double.read x) (double.read y) = none := by
  intro f h1 h2
  rcases h with h | h
  ·obtain ⟨s, t, hh⟩ := e _ h; rw [hh]; exact h1 _ _ _
  ·obtain ⟨s, t, hh⟩ := e _ h; rw [hh]; exact h2 _ _ _
 unfold fb floatBits
 split
 ·show (((double.read x).sum (double.read y)).map double.write) = none
  rw [p Datum.sum (fun _ _ d => by cases d <;> rfl) (fun _ _ d => by cases d <;> rfl)]; rfl
 ·show (((double.read x).sum (double.read y).opposite).map double.write) = none
  rw [p (fun a b => a.sum b.opposite) (fun _ _ d => by cases d <;> rfl) (fun _ _ d => by cases d <;> rfl)]; rfl
 ·show (((double.read x).product (double.read y)).map double.write) = none
  rw [p Datum.product (fun _ _ d => by cases d <;> rfl) (fun _ _ d => by cases d <;> rfl)]; rfl
 ·show Option.map double.write (Datum.quotient (double.fractionBits + 2) (double.read x) (double.read y)) = none
  rw [p (Datum.quotient (double.fractionBits + 2)) (fun _ _ d => by cases d <;> rfl) (fun _ _ d => by cases d <;> rfl)]; rfl
 ·rfl
theorem can_fr (op : BinOp) (x y : Nat) (w : World) : can (fr op x y w) = fop op (can x) (can y) := by
 unfold fr
 by_cases h : isN x = true ∨ isN y = true
 ·rw [fb_nan h, Option.getD_none, can, if_pos (nanb_nan _ _ _)]
  rcases h with h | h
  ·simp [fop, can, h]
  ·unfold fop; cases can x <;> simp [can, h]
 ·have hx : isN x = false := by cases e : isN x <;> simp_all
  have hy : isN y = false := by cases e : isN y <;> simp_all
  simp only [fop, can, hx, hy, Bool.false_eq_true, if_false, Option.bind_some]
  cases hb : fb op x y with
  | none => rw [Option.getD_none, if_pos (nanb_nan _ _ _)]
  | some r => rw [Option.getD_some, if_neg (by rw [fb_notnan hb]; simp)]
theorem fr_lt (op : BinOp) (x y : Nat) (w : World) : fr op x y w < 2 ^ 64 := by
 unfold fr
 cases hb : fb op x y with
 | none => exact nanb_lt _ _ _
 | some r =>
  unfold fb floatBits at hb
  split at hb
  ·exact double.add_lt hb
  ·exact double.sub_lt hb
  ·exact double.mul_lt hb
  ·exact double.div_lt hb
  ·cases hb
theorem can_some {b r : Nat} (h : can b = some r) : b = r := by
 unfold can at h
 split at h <;> cases h; rfl
theorem fin_test (x : Nat) (w : World) : (FloatKind.f64.format.order (fr .sub x x w) 0 == some .eq) = isFin x := by
 have z : double.read 0 = .number false 0 double.leastPlace := by decide
 have nn : ∀ b, isN b = true → double.order b 0 = none := by
  intro b hb
  obtain ⟨s, t, hh⟩ := nan_cases hb
  unfold Format.order
  rw [show double.read b = .nan s t from hh, z]; rfl
 show (double.order (fr .sub x x w) 0 == some .eq) = isFin x
 cases hx : double.read x with
 | nan s t =>
  have : isN x = true := by unfold isN; rw [show rd64 x = _ from hx]; rfl
  have hf : fb .sub x x = none := fb_nan (.inl this)
  unfold fr
  rw [hf, Option.getD_none, nn _ (nanb_nan _ _ _)]
  unfold isFin; rw [show rd64 x = _ from hx]; rfl
 | infinity s =>
  have hf : fb .sub x x = none := by
   show ((double.read x).sum (double.read x).opposite).map double.write = none
   rw [hx]; cases s <;> rfl
  unfold fr
  rw [hf, Option.getD_none, nn _ (nanb_nan _ _ _)]
  unfold isFin; rw [show rd64 x = _ from hx]; rfl
 | number s m p =>
  have hf : fb .sub x x = some 0 := by
   show ((double.read x).sum (double.read x).opposite).map double.write = some 0
   rw [hx]
   simp only [Datum.opposite, Datum.sum, Option.map_some]
   have e : signed s m (p - min p p).toNat + signed (!s) m (p - min p p).toNat = 0 := by
    unfold signed; cases s <;> simp <;> omega
   rw [e]
   simp only [if_true, Int.natAbs_zero]
   have e2 : (s && !s) = false := by cases s <;> rfl
   rw [e2]
   show some (double.nearest false 0 _) = some 0
   unfold Format.nearest; rfl
  unfold fr
  rw [hf, Option.getD_some]
  unfold isFin; rw [show rd64 x = _ from hx]
  show (double.order 0 0 == some Ordering.eq) = true
  decide
theorem fr_of' {op : BinOp} {x y r : Nat} (h : fb op x y = some r) : ∀ w : World, fr op x y w = r := fun w => by unfold fr; rw [h]; rfl
theorem fn_of' {op : BinOp} {x y r : Nat} (h : fb op x y = some r) : fn op x y = 0 := by unfold fn; rw [h]; rfl
end Go.Proofs.Ytdjkcpmoigemdaa.Fl
namespace Go.Proofs.Ytdjkcpmoigemdaa.Fx
open Go Ieee Go.Proofs.Ytdjkcpmoigemdaa.Fl
set_option linter.unusedVariables false
set_option linter.unusedSimpArgs false
theorem lp : double.leastPlace = -1074 := by decide
theorem log2_eq {n k : Nat} (h0 : 2 ^ k ≤ n) (h1 : n < 2 ^ (k + 1)) : n.log2 = k := by
 have hn : n ≠ 0 := by have := Nat.two_pow_pos k; omega
 have a := (Nat.log2_lt hn).2 h1
 have b : ¬ n.log2 < k := fun h => by have := (Nat.log2_lt hn).1 h; omega
 omega
theorem log2_le {n : Nat} (hn : n ≠ 0) : 2 ^ n.log2 ≤ n := Nat.log2_self_le hn
theorem log2_gt (n : Nat) : n < 2 ^ (n.log2 + 1) := Nat.lt_log2_self
theorem log2_shift {m k : Nat} (hm : m ≠ 0) : (m * 2 ^ k).log2 = m.log2 + k := by
 refine log2_eq ?_ ?_
 ·rw [Nat.pow_add]; exact Nat.mul_le_mul_right _ (log2_le hm)
 ·rw [show m.log2 + k + 1 = m.log2 + 1 + k from by omega, Nat.pow_add]; exact Nat.mul_lt_mul_of_pos_right (log2_gt m) (Nat.two_pow_pos k)
theorem cut0 (neg : Bool) (n : Nat) : Toward.even.cut neg n 0 = n := by
 unfold Toward.cut
 simp [Nat.mod_one]
def lastOf (m : Nat) (p : Int) : Int := max (p + m.log2 - 52) (-1074)
theorem nearest_def (s : Bool) {m : Nat} (hm : m ≠ 0) (p : Int) : double.nearest s m p = double.word s (min ((lastOf m p + 1074).toNat * 4503599627370496 + Toward.even.cut s (m <<< (p - lastOf m p).toNat) (lastOf m p - p).toNat) 9218868437227405312) := by
 unfold Format.nearest
 rw [if_neg hm]
 simp only [lp, bn, ir]
 unfold lastOf
 show double.word s (min ((max (p + m.log2 - 52) (-1074) - -1074).toNat * 4503599627370496 + _) _) = _
 rw [Int.sub_neg]
 rfl
theorem read_word (s : Bool) {r : Nat} (h : r < 9223372036854775808) : double.word s r / 9223372036854775808 % 2 = s.toNat ∧ double.word s r % 9223372036854775808 = r := by
 unfold Format.word
 rw [sw]
 cases s
 ·simp; omega
 ·simp; omega
theorem read_low (s : Bool) {r : Nat} (h : r < 4503599627370496) : double.read (double.word s r) = .number s r (-1074) := by
 obtain ⟨h1, h2⟩ := read_word s (show r < 9223372036854775808 from by omega)
 unfold Format.read
 simp only [sw, bn, ir, lp, h1, h2]
 rw [if_pos h]
 cases s <;> rfl
theorem read_high (s : Bool) {e f : Nat} (hf : f < 4503599627370496) (he : e < 2046) : double.read (double.word s ((e + 1) * 4503599627370496 + f)) = .number s (4503599627370496 + f) (-1074 + e) := by
 obtain ⟨h1, h2⟩ := read_word s (show (e + 1) * 4503599627370496 + f < 9223372036854775808 from by omega)
 unfold Format.read
 simp only [sw, bn, ir, lp, h1, h2]
 rw [if_neg (by omega), if_pos (by omega)]
 have e1 : ((e + 1) * 4503599627370496 + f) % 4503599627370496 = f := by omega
 have e2 : ((e + 1) * 4503599627370496 + f) / 4503599627370496 = e + 1 := by omega
 rw [e1, e2]
 have e3 : (((e + 1 - 1 : Nat)) : Int) = (e : Int) := by omega
 rw [e3]
 cases s <;> rfl
theorem read_nearest (s : Bool) {m : Nat} {p : Int} (hm : m ≠ 0) (h53 : m < 2 ^ 53) (hp : -1074 ≤ p) (hbig : p + m.log2 < 1024) :
  double.read (double.nearest s m p) = .number s (m * 2 ^ (p - lastOf m p).toNat) (lastOf m p) ∧ lastOf m p ≤ p ∧ -1074 ≤ lastOf m p := by
 have hl : m.log2 < 53 := (Nat.log2_lt hm).2 h53
 have hle : lastOf m p ≤ p := by unfold lastOf; omega
 have hge : -1074 ≤ lastOf m p := by unfold lastOf; omega
 refine ⟨?_, hle, hge⟩
 rw [nearest_def s hm]
 have e0 : (lastOf m p - p).toNat = 0 := by omega
 rw [e0, cut0, Nat.shiftLeft_eq]
 obtain ⟨d, hd⟩ : ∃ d : Nat, d = (p - lastOf m p).toNat := ⟨_, rfl⟩
 rw [← hd]
 have hlog := log2_shift (k := d) hm
 have hm2 : m * 2 ^ d ≠ 0 := Nat.mul_ne_zero hm (Nat.ne_of_gt (Nat.two_pow_pos d))
 have hlo := log2_le hm2
 have hhi := log2_gt (m * 2 ^ d)
 rw [hlog] at hlo hhi
 generalize hk : m * 2 ^ d = k at *
 by_cases hlow : p + m.log2 - 52 ≤ -1074
 ·have e1 : lastOf m p = -1074 := by unfold lastOf; omega
  have hd2 : m.log2 + d ≤ 52 := by omega
  have hk53 : k < 2 ^ 53 := Nat.lt_of_lt_of_le hhi (Nat.pow_le_pow_right (by omega) (by omega))
  rw [e1]
  have e2 : ((-1074 : Int) + 1074).toNat * 4503599627370496 + k = k := by simp
  rw [e2, Nat.min_eq_left (by omega)]
  by_cases hc : k < 4503599627370496
  ·exact read_low s hc
  ·obtain ⟨f, hf⟩ : ∃ f, k = 4503599627370496 + f := ⟨k - 4503599627370496, by omega⟩
   have := read_high s (e := 0) (f := f) (by omega) (by omega)
   rw [Nat.zero_add, Nat.one_mul, ← hf] at this
   simpa using this
 ·have e1 : lastOf m p = p + m.log2 - 52 := by unfold lastOf; omega
  have hd2 : m.log2 + d = 52 := by omega
  rw [hd2] at hlo hhi
  have e3 : (2 : Nat) ^ 52 = 4503599627370496 := by decide
  have e4 : (2 : Nat) ^ (52 + 1) = 9007199254740992 := by decide
  rw [e3] at hlo
  rw [e4] at hhi
  obtain ⟨e, he⟩ : ∃ e : Nat, (e : Int) = lastOf m p + 1074 := ⟨(lastOf m p + 1074).toNat, by omega⟩
  have e5 : (lastOf m p + 1074).toNat = e := by omega
  rw [e5]
  have he2 : e < 2046 := by omega
  rw [Nat.min_eq_left (by omega)]
  obtain ⟨f, hf⟩ : ∃ f, k = 4503599627370496 + f := ⟨k - 4503599627370496, by omega⟩
  have := read_high s (e := e) (f := f) (by omega) he2
  rw [show (e + 1) * 4503599627370496 + f = e * 4503599627370496 + (4503599627370496 + f) from by omega, ← hf] at this
  rw [this]
  congr 1
  omega
theorem read_fin {b : Nat} (h : isFin b = true) : ∃ s m p, double.read b = .number s m p ∧ m < 2 ^ 53 ∧ -1074 ≤ p ∧ p ≤ 971 ∧ (m < 2 ^ 52 → p = -1074) := by
 have e3 : (2 : Nat) ^ 52 = 4503599627370496 := by decide
 have e4 : (2 : Nat) ^ 53 = 9007199254740992 := by decide
 unfold isFin at h
 rw [show rd64 b = double.read b from rfl] at h
 unfold Format.read at h ⊢
 simp only [sw, bn, ir, lp] at h ⊢
 rw [e3, e4]
 generalize b % 9223372036854775808 = r at h ⊢
 by_cases c1 : r < 4503599627370496
 ·rw [if_pos c1]
  exact ⟨_, _, _, rfl, by omega, by omega, by omega, fun _ => rfl⟩
 ·rw [if_neg c1] at h ⊢
  by_cases c2 : r < 9218868437227405312
  ·rw [if_pos c2]
   exact ⟨_, _, _, rfl, by omega, by omega, by omega, fun h => by omega⟩
  ·rw [if_neg c2] at h
   by_cases c3 : r = 9218868437227405312
   ·rw [if_pos c3] at h; cases h
   ·rw [if_neg c3] at h; cases h
def U (b : Nat) : Int := match double.read b with
 | .number s m p => signed s m (p + 1074).toNat
 | _ => 0
theorem U_of {b m : Nat} {s : Bool} {p : Int} (h : double.read b = .number s m p) : U b = signed s m (p + 1074).toNat := by unfold U; rw [h]
theorem fin_of {b m : Nat} {s : Bool} {p : Int} (h : double.read b = .number s m p) : isFin b = true := by unfold isFin; rw [show rd64 b = _ from h]
theorem signed_eq (s : Bool) (m u : Nat) : signed s m u = (if s then -1 else 1) * ((m : Int) * 2 ^ u) := by
 unfold signed
 rw [Nat.shiftLeft_eq]
 cases s <;> simp
theorem signed_shift (s : Bool) (m d u : Nat) : signed s (m * 2 ^ d) u = signed s m (d + u) := by
 rw [signed_eq, signed_eq]
 congr 1
 push_cast
 rw [Int.mul_assoc, ← Int.pow_add]
theorem U_nearest (s : Bool) {m : Nat} {p : Int} (h53 : m < 2 ^ 53) (hp : -1074 ≤ p) (hbig : m ≠ 0 → p + m.log2 < 1024) : isFin (double.nearest s m p) = true ∧ U (double.nearest s m p) = signed s m (p + 1074).toNat := by
 by_cases hm : m = 0
 ·subst hm
  have e : double.nearest s 0 p = double.word s 0 := by unfold Format.nearest; rw [if_pos rfl]
  rw [e]
  have h := read_low s (r := 0) (by decide)
  refine ⟨fin_of h, ?_⟩
  rw [U_of h, signed_eq, signed_eq]
  simp
 ·obtain ⟨h, h1, h2⟩ := read_nearest s hm h53 hp (hbig hm)
  refine ⟨fin_of h, ?_⟩
  rw [U_of h, signed_shift]
  congr 1
  omega
theorem cut_shift (s : Bool) {n : Nat} (hn : n ≠ 0) (k d : Nat) : Toward.even.cut s (n * 2 ^ k) (d + k) = Toward.even.cut s n d := by
 unfold Toward.cut
 have e1 : min (d + k) ((n * 2 ^ k).log2 + 2) = min d (n.log2 + 2) + k := by rw [log2_shift hn]; omega
 rw [e1]
 generalize min d (n.log2 + 2) = g
 simp only [Nat.shiftLeft_eq, Nat.one_mul]
 rw [Nat.pow_add]
 have hp := Nat.two_pow_pos k
 rw [Nat.mul_div_mul_right _ _ hp, Nat.mul_mod_mul_right]
 generalize n % 2 ^ g = r
 generalize (2 : Nat) ^ g = G
 generalize n / G = q
 generalize (2 : Nat) ^ k = K at hp
 have a1 : decide (G * K < 2 * (r * K)) = decide (G < 2 * r) := by
  rw [← Nat.mul_assoc]
  by_cases h : G < 2 * r
  ·rw [decide_eq_true h, decide_eq_true (Nat.mul_lt_mul_of_pos_right h hp)]
  ·rw [decide_eq_false h, decide_eq_false (fun h2 => h (Nat.lt_of_mul_lt_mul_right h2))]
 have a2 : (G * K == 2 * (r * K)) = (G == 2 * r) := by
  rw [← Nat.mul_assoc]
  by_cases h : G = 2 * r
  ·rw [h]; simp
  ·rw [beq_eq_false_iff_ne.2 h, beq_eq_false_iff_ne.2 (fun h2 => h (Nat.eq_of_mul_eq_mul_right hp h2))]
 simp only [a1, a2]
theorem lastOf_shift {m : Nat} (hm : m ≠ 0) (p : Int) (k : Nat) : lastOf (m * 2 ^ k) (p - k) = lastOf m p := by
 unfold lastOf
 rw [log2_shift hm]
 omega
theorem nearest_shift (s : Bool) (m : Nat) (p : Int) (k : Nat) : double.nearest s (m * 2 ^ k) (p - k) = double.nearest s m p := by
 by_cases hm : m = 0
 ·subst hm
  unfold Format.nearest
  simp
 ·have hm2 : m * 2 ^ k ≠ 0 := Nat.mul_ne_zero hm (Nat.ne_of_gt (Nat.two_pow_pos k))
  rw [nearest_def s hm2, nearest_def s hm, lastOf_shift hm]
  generalize lastOf m p = L
  have key : Toward.even.cut s ((m * 2 ^ k) <<< (p - k - L).toNat) (L - (p - k)).toNat = Toward.even.cut s (m <<< (p - L).toNat) (L - p).toNat := by
   rw [Nat.shiftLeft_eq, Nat.shiftLeft_eq]
   by_cases h : p ≤ L
   ·rw [show (p - k - L).toNat = 0 from by omega, show (p - L).toNat = 0 from by omega, show (L - (p - k)).toNat = (L - p).toNat + k from by omega, Nat.pow_zero, Nat.mul_one, Nat.mul_one]
    exact cut_shift s hm k _
   ·by_cases h2 : L ≤ p - k
    ·rw [show (L - (p - k)).toNat = 0 from by omega, show (L - p).toNat = 0 from by omega, Nat.mul_assoc, ← Nat.pow_add, show k + (p - k - L).toNat = (p - L).toNat from by omega]
    ·rw [show (p - k - L).toNat = 0 from by omega, show (L - p).toNat = 0 from by omega, Nat.pow_zero, Nat.mul_one, show (L - (p - k)).toNat = 0 + (L - (p - k)).toNat from by omega]
     have e : m * 2 ^ k = (m * 2 ^ (p - L).toNat) * 2 ^ (L - (p - k)).toNat := by
      rw [Nat.mul_assoc, ← Nat.pow_add, show (p - L).toNat + (L - (p - k)).toNat = k from by omega]
     rw [e]
     exact cut_shift s (Nat.mul_ne_zero hm (Nat.ne_of_gt (Nat.two_pow_pos _))) _ 0
  rw [key]
theorem two_read : double.read 4611686018427387904 = .number false 4503599627370496 (-51) := by decide
theorem log2_53 {m : Nat} (hm : m ≠ 0) (h : m < 2 ^ 53) : m.log2 ≤ 52 := by have := (Nat.log2_lt hm).2 h; omega
theorem pow_cast (k : Nat) : ((2 ^ k : Nat) : Int) = 2 ^ k := by norm_cast
theorem U_bound {b : Nat} (h : isFin b = true) : ∃ s m p, double.read b = .number s m p ∧ m < 2 ^ 53 ∧ -1074 ≤ p ∧ p ≤ 971 ∧ (m < 2 ^ 52 → p = -1074) ∧ U b = signed s m (p + 1074).toNat := by
 obtain ⟨s, m, p, h1, h2, h3, h4, h5⟩ := read_fin h
 exact ⟨s, m, p, h1, h2, h3, h4, h5, U_of h1⟩
theorem signed_natAbs (s : Bool) (m u : Nat) : (signed s m u).natAbs = m * 2 ^ u := by
 unfold signed
 rw [Nat.shiftLeft_eq]
 cases s
 ·exact Int.natAbs_natCast _
 ·show (-((m * 2 ^ u : Nat) : Int)).natAbs = _
  rw [Int.natAbs_neg, Int.natAbs_natCast]
theorem signed_succ (s : Bool) (m u : Nat) : signed s m (u + 1) = 2 * signed s m u := by
 unfold signed
 rw [Nat.shiftLeft_eq, Nat.shiftLeft_eq, Nat.pow_succ, ← Nat.mul_assoc]
 generalize m * 2 ^ u = q
 cases s
 ·show ((q * 2 : Nat) : Int) = 2 * ((q : Nat) : Int)
  omega
 ·show -((q * 2 : Nat) : Int) = 2 * -((q : Nat) : Int)
  omega
theorem log2_of_bound {m u k : Nat} (hm : m ≠ 0) (h : m * 2 ^ u < 2 ^ k) : m.log2 + u < k := by
 have h9 : 2 ^ (m.log2 + u) < 2 ^ k := by
  rw [Nat.pow_add]
  exact Nat.lt_of_le_of_lt (Nat.mul_le_mul_right _ (log2_le hm)) h
 exact (Nat.pow_lt_pow_iff_right (by omega : 1 < 2)).1 h9
theorem mul_two {x : Nat} (h : isFin x = true) {k : Nat} (hk : k = 2097) (hb : (U x).natAbs < 2 ^ k) : ∃ y, fb .mul x 4611686018427387904 = some y ∧ isFin y = true ∧ U y = 2 * U x := by
 obtain ⟨s, m, p, h1, h2, h3, h4, h5, h6⟩ := U_bound h
 rw [h6, signed_natAbs] at hb
 refine ⟨double.nearest s m (p + 1), ?_, ?_⟩
 ·show ((double.read x).product (double.read 4611686018427387904)).map double.write = _
  rw [h1, two_read]
  simp only [Datum.product, Option.map_some]
  show some (double.nearest (s ^^ false) (m * 4503599627370496) (p + -51)) = _
  have := nearest_shift (s ^^ false) m (p + 1) 52
  rw [show (p + 1 - ((52 : Nat) : Int)) = p + -51 from by omega] at this
  rw [show (4503599627370496 : Nat) = 2 ^ 52 from by decide, this]
  cases s <;> rfl
 ·have hu := U_nearest s h2 (p := p + 1) (by omega) (fun hm => by have := log2_of_bound hm hb; omega)
  refine ⟨hu.1, ?_⟩
  rw [hu.2, h6, show (p + 1 + 1074).toNat = (p + 1074).toNat + 1 from by omega, signed_succ]
theorem half_two {x : Nat} (h : isFin x = true) {k : Nat} (hk : k = 54) (hb : 2 ^ k ≤ (U x).natAbs) : ∃ y, fb .quo x 4611686018427387904 = some y ∧ isFin y = true ∧ U x = 2 * U y := by
 obtain ⟨s, m, p, h1, h2, h3, h4, h5, h6⟩ := U_bound h
 rw [h6, signed_natAbs] at hb
 have hm : m ≠ 0 := by
  intro e
  subst e
  rw [Nat.zero_mul] at hb
  have := Nat.two_pow_pos k
  omega
 have hl := log2_53 hm h2
 have hp : -1073 ≤ p := by
  have : ¬ p = -1074 := by
   intro e
   subst e
   rw [show ((-1074 : Int) + 1074).toNat = 0 from rfl, Nat.pow_zero, Nat.mul_one] at hb
   have : (2 : Nat) ^ k = 2 * 2 ^ 53 := by subst hk; decide
   omega
  omega
 refine ⟨double.nearest s m (p - 1), ?_, ?_⟩
 ·show ((double.read x).quotient (double.fractionBits + 2) (double.read 4611686018427387904)).map double.write = _
  rw [h1, two_read]
  simp only [Datum.quotient]
  rw [if_neg (by decide)]
  simp only [Option.map_some]
  have e0 : double.fractionBits + 2 + Nat.log2 4503599627370496 - m.log2 = 106 - m.log2 := by
   rw [show Nat.log2 4503599627370496 = 52 from by decide]; rfl
  rw [e0]
  have e1 : m <<< (106 - m.log2) = (m * 2 ^ (54 - m.log2)) * 4503599627370496 := by
   rw [Nat.shiftLeft_eq, show (4503599627370496 : Nat) = 2 ^ 52 from by decide, Nat.mul_assoc, ← Nat.pow_add]
   congr 2
   omega
  rw [e1, Nat.mul_div_cancel _ (by decide), Nat.mul_mod_left]
  show some (double.nearest (s ^^ false) (2 * (m * 2 ^ (54 - m.log2)) + 0) (p - -51 - ((106 - m.log2 : Nat) : Int) - 1)) = _
  have := nearest_shift (s ^^ false) m (p - 1) (55 - m.log2)
  rw [show (p - 1 - ((55 - m.log2 : Nat) : Int)) = p - -51 - ((106 - m.log2 : Nat) : Int) - 1 from by omega] at this
  rw [Nat.add_zero, show 2 * (m * 2 ^ (54 - m.log2)) = m * 2 ^ (55 - m.log2) from by rw [show 55 - m.log2 = (54 - m.log2) + 1 from by omega, Nat.pow_succ]; generalize 2 ^ (54 - m.log2) = q; rw [Nat.mul_left_comm, Nat.mul_comm 2 q], this]
  cases s <;> rfl
 ·have hu := U_nearest s h2 (p := p - 1) (by omega) (fun hm => by omega)
  refine ⟨hu.1, ?_⟩
  rw [hu.2, h6, show (p + 1074).toNat = (p - 1 + 1074).toNat + 1 from by omega, signed_succ]
theorem order_U {x y : Nat} (hx : isFin x = true) (hy : isFin y = true) : double.order x y = some (compare (U x) (U y)) := by
 obtain ⟨s, m, p, h1, h2, h3, h4, h5, h6⟩ := U_bound hx
 obtain ⟨t, n, q, g1, g2, g3, g4, g5, g6⟩ := U_bound hy
 show (double.read x).order (double.read y) = _
 rw [h1, g1, h6, g6]
 simp only [Datum.order]
 congr 1
 have e1 : signed s m (p + 1074).toNat = signed s m (p - min p q).toNat * 2 ^ (min p q + 1074).toNat := by
  rw [show (p + 1074).toNat = (p - min p q).toNat + (min p q + 1074).toNat from by omega, signed_eq, signed_eq, Int.pow_add, Int.mul_assoc, Int.mul_assoc]
 have e2 : signed t n (q + 1074).toNat = signed t n (q - min p q).toNat * 2 ^ (min p q + 1074).toNat := by
  rw [show (q + 1074).toNat = (q - min p q).toNat + (min p q + 1074).toNat from by omega, signed_eq, signed_eq, Int.pow_add, Int.mul_assoc, Int.mul_assoc]
 rw [e1, e2]
 have hp : (0 : Int) < 2 ^ (min p q + 1074).toNat := Int.pow_pos (by omega)
 generalize (2 : Int) ^ (min p q + 1074).toNat = K at hp
 generalize signed s m (p - min p q).toNat = a
 generalize signed t n (q - min p q).toNat = b
 show compareOfLessAndEq a b = compareOfLessAndEq (a * K) (b * K)
 unfold compareOfLessAndEq
 by_cases h : a < b
 ·rw [if_pos h, if_pos (Int.mul_lt_mul_of_pos_right h hp)]
 ·rw [if_neg h, if_neg (fun h2 => h (Int.lt_of_mul_lt_mul_right h2 (Int.le_of_lt hp)))]
  by_cases h3 : a = b
  ·rw [if_pos h3, if_pos (by rw [h3])]
  ·rw [if_neg h3, if_neg (fun h4 => h3 (Int.eq_of_mul_eq_mul_right (Int.ne_of_gt hp) h4))]
end Go.Proofs.Ytdjkcpmoigemdaa.Fx
