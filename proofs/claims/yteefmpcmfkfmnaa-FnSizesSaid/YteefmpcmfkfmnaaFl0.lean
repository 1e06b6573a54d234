/- What an operation on floats gives at every operand, also where the result is a NaN (whose bits the tape draws), and the laws of sums, products and quotients that the statements on wide numbers need. No conditions beyond those of each theorem. -/
import Derived.WalkLawsBesides
import Derived.Deep.Draws
import Derived.WalkKit
import Derived.Tactics
import Derived.Tactics2
import Derived.KernelRfl
namespace Go.Proofs.Yteefmpcmfkfmnaa.Fl
open Go Ieee
set_option linter.unusedVariables false
set_option linter.unusedSimpArgs false

abbrev rd64 (b : Nat) : Datum := double.read b
def isN (b : Nat) : Bool := (rd64 b).isNaN
/-- The bits of a float that is no NaN; of any NaN: none. -/
def can (b : Nat) : Option Nat := if isN b then none else some b
def isFin (b : Nat) : Bool := rd64 b matches .number ..
def fb (op : BinOp) (x y : Nat) : Option Nat := floatBits op .f64 x y
/-- An operation over floats of which NaNs are one. -/
def fop (op : BinOp) (x y : Option Nat) : Option Nat := x.bind fun a => y.bind fun b => fb op a b
def nanb (x y : Nat) (w : World) : Nat := (Question.nanBits .f64 x y).cut (w.tape w.drawn (Question.nanBits .f64 x y))
def fr (op : BinOp) (x y : Nat) (w : World) : Nat := (fb op x y).getD (nanb x y w)
def fn (op : BinOp) (x y : Nat) : Nat := if (fb op x y).isSome then 0 else 1
def arith4 (op : BinOp) : Bool := op == .add || op == .sub || op == .mul || op == .quo
theorem arith4_cases {op : BinOp} (h : arith4 op = true) : op = .add ∨ op = .sub ∨ op = .mul ∨ op = .quo := by
  cases op <;> first | (exact absurd h (by decide)) | simp
section
variable {P : Program}
theorem run_arith {op : BinOp} (h : arith4 op = true) (x y : Nat) (w : World) : (Op.floatArith op .f64 x y).run P w = .ok (.float .f64 (fr op x y w)) (w.drewN (fn op x y)) := by
  unfold fr fn
  cases hb : fb op x y with
  | some r =>
    simp only [Option.getD_some, Option.isSome_some, if_true]
    exact run_floatArith w hb
  | none =>
    simp only [Option.getD_none, Option.isSome_none]
    rcases arith4_cases h with rfl | rfl | rfl | rfl <;> simp only [fb, floatBits] at hb <;> (simp [Op.floatArith, hb, Question.forced, nanb]; rfl)
theorem run_bin (t : TypeId) {op : BinOp} (h : arith4 op = true) (x y : Nat) (w : World) : (binOp op t (.float .f64 x) (.float .f64 y)).run P w = .ok (.float .f64 (fr op x y w)) (w.drewN (fn op x y)) := by
  have := run_arith (P := P) h x y w
  rcases arith4_cases h with rfl | rfl | rfl | rfl <;> simpa [binOp] using this
theorem run_add (t : TypeId) (x y : Nat) (w : World) : (binOp .add t (.float .f64 x) (.float .f64 y)).run P w = .ok (.float .f64 (fr .add x y w)) (w.drewN (fn .add x y)) := run_bin t rfl x y w
theorem run_sub (t : TypeId) (x y : Nat) (w : World) : (binOp .sub t (.float .f64 x) (.float .f64 y)).run P w = .ok (.float .f64 (fr .sub x y w)) (w.drewN (fn .sub x y)) := run_bin t rfl x y w
theorem run_mul (t : TypeId) (x y : Nat) (w : World) : (binOp .mul t (.float .f64 x) (.float .f64 y)).run P w = .ok (.float .f64 (fr .mul x y w)) (w.drewN (fn .mul x y)) := run_bin t rfl x y w
theorem run_quo (t : TypeId) (x y : Nat) (w : World) : (binOp .quo t (.float .f64 x) (.float .f64 y)).run P w = .ok (.float .f64 (fr .quo x y w)) (w.drewN (fn .quo x y)) := run_bin t rfl x y w
theorem run_carith4 {op : BinOp} (h : arith4 op = true) (x y : Nat) (w : World) : (Op.Complex.arith op .f64 x y).run P w = .ok (fr op x y w) (w.drewN (fn op x y)) := by
  simp [Op.Complex.arith, run_arith h]
theorem run_cadd (t : TypeId) (a b c d : Nat) (w : World) : (binOp .add t (.complex .f64 a b) (.complex .f64 c d)).run P w = .ok (.complex .f64 (fr .add a c w) (fr .add b d (w.drewN (fn .add a c)))) ((w.drewN (fn .add a c)).drewN (fn .add b d)) := by
  simp [binOp, Op.complexOp, run_carith4 (op := .add) rfl]
theorem run_csub (t : TypeId) (a b c d : Nat) (w : World) : (binOp .sub t (.complex .f64 a b) (.complex .f64 c d)).run P w = .ok (.complex .f64 (fr .sub a c w) (fr .sub b d (w.drewN (fn .sub a c)))) ((w.drewN (fn .sub a c)).drewN (fn .sub b d)) := by
  simp [binOp, Op.complexOp, run_carith4 (op := .sub) rfl]
theorem run_neg (b : Nat) (w : World) : (Op.unary .neg (.float .f64 b)).run P w = .ok (.float .f64 (Op.negFloat .f64 b)) w := rfl
theorem run_cneg (a b : Nat) (w : World) : (Op.unary .neg (.complex .f64 a b)).run P w = .ok (.complex .f64 (Op.negFloat .f64 a) (Op.negFloat .f64 b)) w := rfl
end
theorem nanb_lt (x y : Nat) (w : World) : nanb x y w < 2 ^ 64 := by
  show (w.tape w.drawn (Question.nanBits .f64 x y) % 2) * 2 ^ 63 + 0x7ff0000000000000 + 1 + (w.tape w.drawn (Question.nanBits .f64 x y) / 2) % (2 ^ 52 - 1) < 2 ^ 64
  generalize w.tape w.drawn (Question.nanBits .f64 x y) = t
  have h1 : t % 2 < 2 := Nat.mod_lt _ (by omega)
  have h2 : t / 2 % (2 ^ 52 - 1) < 2 ^ 52 - 1 := Nat.mod_lt _ (by decide)
  omega
theorem sw : double.signWeight = 9223372036854775808 := by decide
theorem ir : double.infRung = 9218868437227405312 := by decide
theorem bn : double.binade = 4503599627370496 := by decide
theorem isN_iff (b : Nat) : isN b = true ↔ 9218868437227405312 < b % 9223372036854775808 := by
  unfold isN rd64 Format.read
  simp only [sw, ir, bn]
  split
  · simp [Datum.isNaN]; omega
  · split
    · simp [Datum.isNaN]; omega
    · split
      · simp [Datum.isNaN]; omega
      · simp [Datum.isNaN]; omega
theorem nanb_nan (x y : Nat) (w : World) : isN (nanb x y w) = true := by
  rw [isN_iff]
  show _ < ((w.tape w.drawn (Question.nanBits .f64 x y) % 2) * 2 ^ 63 + 0x7ff0000000000000 + 1 + (w.tape w.drawn (Question.nanBits .f64 x y) / 2) % (2 ^ 52 - 1)) % _
  generalize w.tape w.drawn (Question.nanBits .f64 x y) = t
  have h1 : t % 2 < 2 := Nat.mod_lt _ (by omega)
  have h2 : t / 2 % (2 ^ 52 - 1) < 2 ^ 52 - 1 := Nat.mod_lt _ (by decide)
  generalize t / 2 % (2 ^ 52 - 1) = b at h2 ⊢
  generalize t % 2 = a at h1 ⊢
  rcases (show a = 0 ∨ a = 1 from by omega) with rfl | rfl <;> omega
theorem word_isN (neg : Bool) {r : Nat} (h : r ≤ 9218868437227405312) : isN (double.word neg r) = false := by
  have hh : ¬ isN (double.word neg r) = true := by
    rw [isN_iff]
    unfold Format.word
    rw [sw]
    split <;> omega
  simpa using hh
theorem write_isN {d : Datum} (h : d.isNaN = false) : isN (double.write d) = false := by
  cases d with
  | number neg m p =>
    show isN (double.nearest neg m p) = false
    unfold Format.nearest
    split
    · exact word_isN _ (by omega)
    · refine word_isN _ ?_
      rw [← ir]
      exact Nat.min_le_right _ _
  | infinity neg => exact word_isN _ (by rw [ir]; exact Nat.le_refl _)
  | nan neg f => cases h
theorem sum_notnan {d e r : Datum} (h : d.sum e = some r) : r.isNaN = false := by
  cases d <;> cases e <;> simp only [Datum.sum] at h <;> first | (cases h; done) | skip
  · cases h; rfl
  · cases h; rfl
  · cases h; rfl
  · split at h <;> cases h; rfl
theorem product_notnan {d e r : Datum} (h : d.product e = some r) : r.isNaN = false := by
  cases d <;> cases e <;> simp only [Datum.product] at h <;> first | (cases h; done) | skip
  · cases h; rfl
  · split at h <;> cases h; rfl
  · split at h <;> cases h; rfl
  · cases h; rfl
theorem quotient_notnan {n : Nat} {d e r : Datum} (h : d.quotient n e = some r) : r.isNaN = false := by
  cases d <;> cases e <;> simp only [Datum.quotient] at h <;> first | (cases h; done) | skip
  · split at h
    · split at h <;> cases h; rfl
    · cases h; rfl
  · cases h; rfl
  · cases h; rfl
/-- A result that is not drawn is no NaN. -/
theorem fb_notnan {op : BinOp} {x y r : Nat} (h : fb op x y = some r) : isN r = false := by
  unfold fb floatBits at h
  split at h
  · obtain ⟨d, hd, rfl⟩ := Option.map_eq_some_iff.1 h; exact write_isN (sum_notnan hd)
  · obtain ⟨d, hd, rfl⟩ := Option.map_eq_some_iff.1 h; exact write_isN (sum_notnan hd)
  · obtain ⟨d, hd, rfl⟩ := Option.map_eq_some_iff.1 h; exact write_isN (product_notnan hd)
  · obtain ⟨d, hd, rfl⟩ := Option.map_eq_some_iff.1 h; exact write_isN (quotient_notnan hd)
  · cases h
theorem nan_cases {d : Datum} (h : d.isNaN = true) : ∃ s t, d = .nan s t := by
  cases d <;> first | (cases h; done) | exact ⟨_, _, rfl⟩
theorem fb_nan {op : BinOp} {x y : Nat} (h : isN x = true ∨ isN y = true) : fb op x y = none := by
  have e : ∀ b, isN b = true → ∃ s t, double.read b = .nan s t := fun b hb => nan_cases hb
  have p : ∀ f : Datum → Datum → Option Datum, (∀ s t d, f (.nan s t) d = none) → (∀ s t d, f d (.nan s t) = none) → f (double.read x) (double.read y) = none := by
    intro f h1 h2
    rcases h with h | h
    · obtain ⟨s, t, hh⟩ := e _ h; rw [hh]; exact h1 _ _ _
    · obtain ⟨s, t, hh⟩ := e _ h; rw [hh]; exact h2 _ _ _
  unfold fb floatBits
  split
  · show (((double.read x).sum (double.read y)).map double.write) = none
    rw [p Datum.sum (fun _ _ d => by cases d <;> rfl) (fun _ _ d => by cases d <;> rfl)]; rfl
  · show (((double.read x).sum (double.read y).opposite).map double.write) = none
    rw [p (fun a b => a.sum b.opposite) (fun _ _ d => by cases d <;> rfl) (fun _ _ d => by cases d <;> rfl)]; rfl
  · show (((double.read x).product (double.read y)).map double.write) = none
    rw [p Datum.product (fun _ _ d => by cases d <;> rfl) (fun _ _ d => by cases d <;> rfl)]; rfl
  · show Option.map double.write (Datum.quotient (double.fractionBits + 2) (double.read x) (double.read y)) = none
    rw [p (Datum.quotient (double.fractionBits + 2)) (fun _ _ d => by cases d <;> rfl) (fun _ _ d => by cases d <;> rfl)]; rfl
  · rfl
/-- **What an operation gives, but for a NaN's bits.** -/
theorem can_fr (op : BinOp) (x y : Nat) (w : World) : can (fr op x y w) = fop op (can x) (can y) := by
  unfold fr
  by_cases h : isN x = true ∨ isN y = true
  · rw [fb_nan h, Option.getD_none, can, if_pos (nanb_nan _ _ _)]
    rcases h with h | h
    · simp [fop, can, h]
    · unfold fop; cases can x <;> simp [can, h]
  · have hx : isN x = false := by cases e : isN x <;> simp_all
    have hy : isN y = false := by cases e : isN y <;> simp_all
    simp only [fop, can, hx, hy, Bool.false_eq_true, if_false, Option.bind_some]
    cases hb : fb op x y with
    | none => rw [Option.getD_none, if_pos (nanb_nan _ _ _)]
    | some r => rw [Option.getD_some, if_neg (by rw [fb_notnan hb]; simp)]
theorem fr_lt (op : BinOp) (x y : Nat) (w : World) : fr op x y w < 2 ^ 64 := by
  unfold fr
  cases hb : fb op x y with
  | none => exact nanb_lt _ _ _
  | some r =>
    unfold fb floatBits at hb
    split at hb
    · exact double.add_lt hb
    · exact double.sub_lt hb
    · exact double.mul_lt hb
    · exact double.div_lt hb
    · cases hb
theorem can_some {b r : Nat} (h : can b = some r) : b = r := by
  unfold can at h
  split at h <;> cases h; rfl
/-- The test x - x == 0. -/
theorem fin_test (x : Nat) (w : World) : (FloatKind.f64.format.order (fr .sub x x w) 0 == some .eq) = isFin x := by
  have z : double.read 0 = .number false 0 double.leastPlace := by decide
  have nn : ∀ b, isN b = true → double.order b 0 = none := by
    intro b hb
    obtain ⟨s, t, hh⟩ := nan_cases hb
    unfold Format.order
    rw [show double.read b = .nan s t from hh, z]; rfl
  show (double.order (fr .sub x x w) 0 == some .eq) = isFin x
  cases hx : double.read x with
  | nan s t =>
    have : isN x = true := by unfold isN; rw [show rd64 x = _ from hx]; rfl
    have hf : fb .sub x x = none := fb_nan (.inl this)
    unfold fr
    rw [hf, Option.getD_none, nn _ (nanb_nan _ _ _)]
    unfold isFin; rw [show rd64 x = _ from hx]; rfl
  | infinity s =>
    have hf : fb .sub x x = none := by
      show ((double.read x).sum (double.read x).opposite).map double.write = none
      rw [hx]; cases s <;> rfl
    unfold fr
    rw [hf, Option.getD_none, nn _ (nanb_nan _ _ _)]
    unfold isFin; rw [show rd64 x = _ from hx]; rfl
  | number s m p =>
    have hf : fb .sub x x = some 0 := by
      show ((double.read x).sum (double.read x).opposite).map double.write = some 0
      rw [hx]
      simp only [Datum.opposite, Datum.sum, Option.map_some]
      have e : signed s m (p - min p p).toNat + signed (!s) m (p - min p p).toNat = 0 := by
        unfold signed; cases s <;> simp <;> omega
      rw [e]
      simp only [if_true, Int.natAbs_zero]
      have e2 : (s && !s) = false := by cases s <;> rfl
      rw [e2]
      show some (double.nearest false 0 _) = some 0
      unfold Format.nearest; rfl
    unfold fr
    rw [hf, Option.getD_some]
    unfold isFin; rw [show rd64 x = _ from hx]
    show (double.order 0 0 == some Ordering.eq) = true
    decide
theorem fr_of' {op : BinOp} {x y r : Nat} (h : fb op x y = some r) : ∀ w : World, fr op x y w = r := fun w => by unfold fr; rw [h]; rfl
theorem fn_of' {op : BinOp} {x y r : Nat} (h : fb op x y = some r) : fn op x y = 0 := by unfold fn; rw [h]; rfl
end Go.Proofs.Yteefmpcmfkfmnaa.Fl
