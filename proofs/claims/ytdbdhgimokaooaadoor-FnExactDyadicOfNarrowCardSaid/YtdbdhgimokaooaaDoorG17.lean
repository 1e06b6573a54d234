/- The contract of impl.WholeOf in plain words. Condition: the argument is an int64. -/
import Derived.Test.YtdbdhgimokaooaaDoorG6
import Derived.Test.YtdbdhgimokaooaaDoorMathM
import Derived.Test.YtdbdhgimokaooaaDoorBnd1
import Derived.Test.YtdbdhgimokaooaaDoorBigE
/- The contracts of impl.binary, impl.AddWholes, impl.SubtractWholes and impl.MultiplyWholes in plain words. Condition: at most 1000000000 limbs. -/
/- The contracts of impl.shifted, impl.TwosIn and impl.ShiftWhole in plain words. Conditions: at most 1000000000 limbs; the library's table holds its numbers. -/
namespace Go.Proofs.YtdbdhgimokaooaaDoor
open Go.RowKit Go.Proofs.YtdbdhgimokaooaaDoorW.PrintWords Go.Proofs.YtdbdhgimokaooaaDoorW.PrintLast Go.Proofs.YtdbdhgimokaooaaDoor.Math Go.Proofs.YtdbdhgimokaooaaDoor.Big
set_option linter.unusedVariables false
set_option linter.unusedSimpArgs false
theorem alloc_size (w : World) (o : Obj) : (w.alloc o).heap.size = w.heap.size + 1 := by simp
structure ResAt (w wr : World) (b : Nat) : Prop where
 lo : Below w.heap.size w wr
 box : wr.heap[b]? = some (.cells #[.int .i64 0, .slice none 0 0] 26 (0, 0))
 ge : w.heap.size ≤ b
theorem ResAt.below {w wr w1 : World} {b : Nat} (h : ResAt w wr b) (hb : Below wr.heap.size wr w1) : ResAt w w1 b := ⟨h.lo.trans (hb.mono h.lo.size), blk_below h.box hb, h.ge⟩
theorem ResAt.next {w wr : World} (h : Below w.heap.size w wr) : ResAt w (wr.alloc (.cells #[.int .i64 0, .slice none 0 0] 26)) wr.heap.size :=
 ⟨h.alloc h.size _, heap_alloc_new wr _, h.size⟩
theorem ResAt.cells {w wr : World} {b : Nat} (h : ResAt w wr b) : wr.cell? ⟨b, 0, none⟩ = some (.int .i64 0) ∧ wr.cell? ⟨b, 1, none⟩ = some (.slice none 0 0) ∧ wr.frozen? ⟨b, 0, none⟩ = false ∧ wr.frozen? ⟨b, 1, none⟩ = false :=
 ⟨(blk_cell h.box 0).trans rfl, (blk_cell h.box 1).trans rfl, blk_frozen h.box 0, blk_frozen h.box 1⟩
theorem ResAt.put {w wr : World} {b : Nat} (h : ResAt w wr b) (a v : Value) : ((wr.setCell ⟨b, 0, none⟩ a).setCell ⟨b, 1, none⟩ v).heap[b]? = some (.cells #[a, v] 26 (0, 0)) :=
 blk_put (cs := #[a, .slice none 0 0]) (blk_put (cs := #[.int .i64 0, .slice none 0 0]) h.box 0 _ rfl) 1 _ rfl
theorem ResAt.low {w wr : World} {b : Nat} (h : ResAt w wr b) (a v : Value) : Below w.heap.size w ((wr.setCell ⟨b, 0, none⟩ a).setCell ⟨b, 1, none⟩ v) :=
 (h.lo.setCell (show w.heap.size ≤ (⟨b, 0, none⟩ : Addr).block from h.ge) _).setCell (show w.heap.size ≤ (⟨b, 1, none⟩ : Addr).block from h.ge) _
theorem ResAt.row {w wr : World} {b base : Nat} {u : Value} {xs : List Int} (h : ResAt w wr b) (hr : wr.ownsRow base 2 1 u xs.length (nums .i64 xs)) (hb : w.heap.size ≤ base) (a v : Value) :
  Kd.R (Kd.int .i64) 2 ((wr.setCell ⟨b, 0, none⟩ a).setCell ⟨b, 1, none⟩ v) w.heap.size (fun _ => True) u xs :=
 Kd.R_of_own (own_weaken (row_store (row_store hr h.box) (blk_put (cs := #[.int .i64 0, .slice none 0 0]) h.box 0 a rfl)) hb) (fun _ _ => trivial)
end Go.Proofs.YtdbdhgimokaooaaDoor
namespace Go.Proofs.YtdbdhgimokaooaaDoor
open Go.RowKit Go.Proofs.YtdbdhgimokaooaaDoorW.PrintWords Go.Proofs.YtdbdhgimokaooaaDoorW.PrintLast Go.Proofs.YtdbdhgimokaooaaDoorW.PrintMore Go.Proofs.YtdbdhgimokaooaaDoor.Math Go.Proofs.YtdbdhgimokaooaaDoor.Big
set_option linter.unusedVariables false
set_option linter.unusedSimpArgs false
theorem goesv_ {P : Program} {ops : Array Oper} {Q : Exit → Act → World → Prop} {oi : Oper} {N : Option Tmp} {a : Act} {w : World} {K : Act → World → Prop} {f : FuncId} {fn : Func} {o : Operand} {ys : Array Operand} {ts : Array TypeId} (hf : P.funcs[f]? = some fn) (hname : (fn.name == "runtime.NumGoroutine") = false) (hb : fn.body.isSome = true) (args : Array Value)
  (hw : Region.wanted oi (yielded ops a.tmps) = true) (hN : oi.dst = N) (hop : oi.op = .call { callee := .value o, args := ys, argTypes := ts }) (hev : a.eval o = .func (.func f) #[] #[]) (hargs : ys.map a.eval = args)
  (h : Calls P f args w fun e w' => ∃ v, e = .returned v ∧ K (a.put N v) w') : if Region.wanted oi (yielded ops a.tmps) = true then Oper.wp P oi a w K Q else K (a.put N undef) w := by
 refine call_ f args hw hN ?_ h
 have he := enters_ hf hname hb args w
 unfold execOp
 simp [hop, resolve, Deferred.ofValue, invoke, hev, hargs, he]
theorem ResAt.own {w wr : World} {b base : Nat} {u : Value} {xs : List Int} (h : ResAt w wr b) (hr : wr.ownsRow base 2 1 u xs.length (nums .i64 xs)) (hb : w.heap.size ≤ base) (a v : Value) :
  ((wr.setCell ⟨b, 0, none⟩ a).setCell ⟨b, 1, none⟩ v).ownsRow w.heap.size 2 1 u xs.length (nums .i64 xs) :=
 own_weaken (row_store (row_store hr h.box) (blk_put (cs := #[.int .i64 0, .slice none 0 0]) h.box 0 a rfl)) hb
def Makes (f : Nat) (op : Int → Int → Int) : Prop := ∀ (x y : Nat) (n k : Int) (w0 w : World), Big w x n 200 → Big w y k 200 → x ≠ y → w0.heap.size ≤ x → w0.heap.size ≤ y → Below w0.heap.size w0 w →
 Calls Tryd.prog f #[.pointer (some ⟨x, 0, none⟩), .pointer (some ⟨y, 0, none⟩)] w fun e w' => ∃ z, e = .returned (.pointer (some ⟨z, 0, none⟩)) ∧ Big w' z (op n k) 500 ∧ Below w0.heap.size w0 w'
theorem Makes.at_ {f : Nat} {op : Int → Int → Int} (h : Makes f op) (x y : Nat) (n k : Int) (w0 w : World) (hx : Big w x n 200) (hy : Big w y k 200) (hne : x ≠ y) (h1 : w0.heap.size ≤ x) (h2 : w0.heap.size ≤ y) (h3 : Below w0.heap.size w0 w) :
 Calls Tryd.prog f #[.pointer (some ⟨x, 0, none⟩), .pointer (some ⟨y, 0, none⟩)] w fun e w' => ∃ z, e = .returned (.pointer (some ⟨z, 0, none⟩)) ∧ Big w' z (op n k) 500 ∧ Below w0.heap.size w0 w' := h x y n k w0 w hx hy hne h1 h2 h3
theorem own_zero (w : World) (base : Nat) : w.ownsRow base 2 1 (.slice none 0 0) ([] : List Int).length (nums .i64 []) := own_nil _ _ _ _
end Go.Proofs.YtdbdhgimokaooaaDoor
namespace Go.Proofs.YtdbdhgimokaooaaDoor
open Go.RowKit Go.Proofs.YtdbdhgimokaooaaDoorW.PrintWords Go.Proofs.YtdbdhgimokaooaaDoorW.PrintLast Go.Proofs.YtdbdhgimokaooaaDoorW.PrintMore Go.Proofs.YtdbdhgimokaooaaDoor.Math Go.Proofs.YtdbdhgimokaooaaDoor.Big
set_option linter.unusedVariables false
set_option linter.unusedSimpArgs false
structure OneBox (w wr : World) (a : Int) (A : Option Addr) (c : Nat) (l : List Int) : Prop where
 lo : Below w.heap.size w wr
 x : wr.heap[w.heap.size]? = some (.cells #[.int .i64 a, .slice A l.length c] 26 (0, 0))
theorem OneBox.start (w : World) (a : Int) (A : Option Addr) (c : Nat) (l : List Int) : OneBox w (w.alloc (.cells #[.int .i64 a, .slice A l.length c] 26)) a A c l := ⟨(Below.refl _ _).alloc (Nat.le_refl _) _, heap_alloc_new w _⟩
theorem OneBox.below {w wr w1 : World} {a : Int} {A : Option Addr} {c : Nat} {l : List Int} (h : OneBox w wr a A c l) (hb : Below wr.heap.size wr w1) : OneBox w w1 a A c l := ⟨h.lo.trans (hb.mono h.lo.size), blk_below h.x hb⟩
theorem OneBox.cells {w wr : World} {a : Int} {A : Option Addr} {c : Nat} {l : List Int} (h : OneBox w wr a A c l) : wr.cell? ⟨w.heap.size, 0, none⟩ = some (.int .i64 a) ∧ wr.cell? ⟨w.heap.size, 1, none⟩ = some (.slice A l.length c) :=
 ⟨(blk_cell h.x 0).trans rfl, (blk_cell h.x 1).trans rfl⟩
theorem below_drawn {w w1 : World} (h : Drawn0 w w1) : Below w.heap.size w w1 := h.below
theorem between_of (k lo hi : Int) (w : World) (b : Bool) (h : b = (decide (lo ≤ k) && decide (k ≤ hi))) :
  Calls Tryd.prog 40 #[.int .i64 k, .int .i64 lo, .int .i64 hi] w fun e w' => e = .returned (.bool b) ∧ Below w.heap.size w w' := by
 refine (A.impl_between.calls k lo hi b w ?_).mono ?_
 ·unfold A.impl_between.f
  subst h
  by_cases g : k ≥ lo
  ·rw [if_pos g, decide_eq_true (show lo ≤ k from g), Bool.true_and]
  ·rw [if_neg g, decide_eq_false (show ¬ lo ≤ k from g), Bool.false_and]
 ·rintro e w' ⟨rfl, hd⟩
  exact ⟨rfl, below_drawn hd⟩
def shv (n k : Int) : Int := if 0 ≤ k then n * 2 ^ k.toNat else n / 2 ^ (-k).toNat
set_option maxHeartbeats 1000000 in
theorem shifted_calls (x : Nat) (n k : Int) (m : Nat) (w : World) (hx : Big w x n m) (hm : m ≤ 100000) (h0 : -100000 ≤ k) (h1 : k ≤ 100000) (hT : Tab w) :
  Calls Tryd.prog 98 #[.pointer (some ⟨x, 0, none⟩), .int .i64 k] w fun e w' => ∃ z, e = .returned (.pointer (some ⟨z, 0, none⟩)) ∧ w.heap.size ≤ z ∧ Big w' z (shv n k) (m + 4000) ∧ Below w.heap.size w w' := by
 have HX := Aside0.mk (hx.below (below_alloc (Below.refl _ _) (.cells #[.bool false, .slice none 0 0] 82)))
 have HT := Aside0.mk (hT.below (below_alloc (Below.refl _ _) (.cells #[.bool false, .slice none 0 0] 82)))
 have HN := Aside0.mk (is_new w)
 have HL := Aside0.mk ((Below.refl w.heap.size w).alloc (Nat.le_refl _) (.cells #[.bool false, .slice none 0 0] 82))
 clear hx hT
 unfold shv
 by_cases hk : 0 ≤ k
 ·obtain ⟨j, rfl⟩ := Int.eq_ofNat_of_zero_le hk
  rw [if_pos hk, Int.toNat_natCast]
  go_enter Tryd.func98, Tryd.ntmps98
  go_wp2_with fail
  refine (lsh_calls w.heap.size x j n m _ HN.out HX.out (by omega) (by omega)).mono ?_
  rintro e w1 ⟨rfl, hb, hg⟩
  have HB := Aside0.mk hb
  have HG := Aside0.mk (below_of_grown HL.out hg (Nat.le_refl _))
  clear hb hg
  go_wp2
  go_ret
  exact ⟨_, rfl, Nat.le_refl _, HB.out.more (by omega), HG.out⟩
 ·obtain ⟨j, hj⟩ : ∃ j : Nat, -k = j := ⟨(-k).toNat, by omega⟩
  rw [if_neg hk, hj, Int.toNat_natCast]
  have hw : wrap64 (-k) = (j : Int) := by rw [w64s (by omega) (by omega)]; exact hj
  go_enter Tryd.func98, Tryd.ntmps98
  go_wp2_with fail
  refine (rsh_any w.heap.size x j n m _ HN.out HX.out (by omega) (by omega) HT.out).mono ?_
  rintro e w1 ⟨rfl, hb, hg⟩
  have HB := Aside0.mk hb
  have HG := Aside0.mk (below_of_grown HL.out hg (Nat.le_refl _))
  clear hb hg
  go_wp2
  go_ret
  exact ⟨_, rfl, Nat.le_refl _, HB.out.more (by omega), HG.out⟩
theorem tz_lt {n : Int} (hn : n ≠ 0) {j : Nat} (h : n.natAbs < 2 ^ j) : tz n < j := by
 have h1 := ctz_spec (show n.natAbs ≠ 0 from by omega)
 have h2 := Nat.le_of_dvd (by omega) (Nat.dvd_of_mod_eq_zero h1.z)
 exact (Nat.pow_lt_pow_iff_right (by omega)).1 (Nat.lt_of_le_of_lt h2 h)
end Go.Proofs.YtdbdhgimokaooaaDoor
/- The walk of (impl.number).dyadic: a value becomes an exact number. Conditions: the pointer leads to a bigInt of at most 20000 digits, the power is small, the library's table holds its numbers. -/
namespace Go.Proofs.YtdbdhgimokaooaaDoor
open Go.RowKit Go.Proofs.YtdbdhgimokaooaaDoor.Math Go.Proofs.YtdbdhgimokaooaaDoor.Big
set_option linter.unusedVariables false
set_option linter.unusedSimpArgs false
theorem tz_dvd {n : Int} (h : n ≠ 0) : (2 : Int) ^ tz n ∣ n := by
 have h1 := ctz_spec (show n.natAbs ≠ 0 from by omega)
 have h2 := Nat.dvd_of_mod_eq_zero h1.z
 rw [← Int.natAbs_dvd_natAbs, Int.natAbs_pow]
 exact h2
def oddp (n : Int) : Int := n / 2 ^ tz n
theorem oddp_mul {n : Int} (h : n ≠ 0) : oddp n * 2 ^ tz n = n := Int.ediv_mul_cancel (tz_dvd h)
theorem oddp_abs {n : Int} (h : n ≠ 0) : (oddp n).natAbs = n.natAbs / 2 ^ tz n := by
 have h1 := congrArg Int.natAbs (oddp_mul h)
 rw [Int.natAbs_mul, Int.natAbs_pow] at h1
 have hp := Nat.two_pow_pos (tz n)
 rw [← h1]
 exact (Nat.mul_div_cancel _ hp).symm
theorem oddp_odd {n : Int} (h : n ≠ 0) : (oddp n).natAbs % 2 = 1 := by
 rw [oddp_abs h]
 exact (ctz_spec (show n.natAbs ≠ 0 from by omega)).o
theorem oddp_ne {n : Int} (h : n ≠ 0) : oddp n ≠ 0 := by
 have := oddp_odd h
 intro e
 rw [e] at this
 simp at this
theorem oddp_sgn {n : Int} (h : n ≠ 0) : sgn (oddp n) = sgn n := by
 have h1 := oddp_mul h
 have h2 := two_pow_pos (tz n)
 have h3 := oddp_ne h
 generalize oddp n = w at h1 h3 ⊢
 generalize (2 : Int) ^ tz n = p at h1 h2
 unfold sgn
 by_cases hw : w < 0
 ·have : w * p < 0 := Int.mul_neg_of_neg_of_pos hw h2
  rw [if_pos hw, if_pos (by omega)]
 ·have : 0 < w * p := Int.mul_pos (by omega) h2
  rw [if_neg hw, if_neg h3, if_neg (by omega), if_neg h]
theorem oddp_cn {n : Int} (h : n ≠ 0) : cn (oddp n) = (sgn n, limbs (oddp n).natAbs) := by rw [cn, oddp_sgn h]
def dymk (n p : Int) : Int × List Int × Int := if n = 0 then (0, [], 0) else (sgn n, limbs (oddp n).natAbs, p + tz n)
def dyfit (n p : Int) : Int × List Int × Int × Int :=
 if n = 0 then (0, [], 0, 0) else if blen (oddp n) ≤ 4800 ∧ (-5000 ≤ p + tz n ∧ p + tz n ≤ 5000) then (sgn n, limbs (oddp n).natAbs, p + tz n, 0) else (0, [], 0, 3)
theorem tz_mul {n : Int} (h : n ≠ 0) (j : Nat) : tz (n * 2 ^ j) = tz n + j := by
 have h1 := ctz_spec (show n.natAbs ≠ 0 from by omega)
 unfold tz
 rw [Int.natAbs_mul, Int.natAbs_pow]
 refine ctz_of ⟨?_, ?_⟩
 ·show n.natAbs * 2 ^ j % 2 ^ (ctz n.natAbs + j) = 0
  rw [Nat.pow_add, Nat.mul_mod_mul_right, h1.z, Nat.zero_mul]
 ·show n.natAbs * 2 ^ j / 2 ^ (ctz n.natAbs + j) % 2 = 1
  rw [Nat.pow_add, Nat.mul_div_mul_right _ _ (Nat.two_pow_pos j)]
  exact h1.o
theorem oddp_shift {n : Int} (h : n ≠ 0) (j : Nat) : oddp (n * 2 ^ j) = oddp n := by
 unfold oddp
 rw [tz_mul h, Int.pow_add, Int.mul_ediv_mul_of_pos_left _ _ (two_pow_pos j)]
theorem mul_ne {n : Int} (h : n ≠ 0) (j : Nat) : n * 2 ^ j ≠ 0 := by
 intro e
 rcases Int.mul_eq_zero.1 e with g | g
 ·exact h g
 ·have := two_pow_pos j
  omega
theorem sgn_shift (n : Int) (j : Nat) : sgn (n * 2 ^ j) = sgn n := by
 have hp := two_pow_pos j
 generalize (2 : Int) ^ j = p at hp
 unfold sgn
 by_cases hw : n < 0
 ·have : n * p < 0 := Int.mul_neg_of_neg_of_pos hw hp
  rw [if_pos hw, if_pos this]
 ·by_cases hz : n = 0
  ·subst hz
   simp
  ·have : 0 < n * p := Int.mul_pos (by omega) hp
   rw [if_neg hw, if_neg hz, if_neg (by omega), if_neg (by omega)]
theorem dymk_shift (n p : Int) (j : Nat) : dymk (n * 2 ^ j) p = dymk n (p + j) := by
 unfold dymk
 by_cases h : n = 0
 ·subst h
  simp
 ·rw [if_neg h, if_neg (mul_ne h j), tz_mul h, oddp_shift h, sgn_shift]
  have e : p + ((tz n + j : Nat) : Int) = p + (j : Int) + (tz n : Int) := by omega
  rw [e]
end Go.Proofs.YtdbdhgimokaooaaDoor
namespace Go.Proofs.YtdbdhgimokaooaaDoor
open Go.RowKit Go.Proofs.YtdbdhgimokaooaaDoorW.PrintWords Go.Proofs.YtdbdhgimokaooaaDoorW.PrintLast Go.Proofs.YtdbdhgimokaooaaDoorW.PrintMore Go.Proofs.YtdbdhgimokaooaaDoor.Math Go.Proofs.YtdbdhgimokaooaaDoor.Big
set_option linter.unusedVariables false
set_option linter.unusedSimpArgs false
theorem row_storeT {T : TypeId} (hT : T ≠ 2) {w : World} {base b i : Nat} {v u : Value} {n : Nat} {xs : List Value} {cs : Array Value} (h : w.ownsRow base 2 1 v n xs) (hb : w.heap[b]? = some (.cells cs T (0, 0))) : (w.setCell ⟨b, i, none⟩ u).ownsRow base 2 1 v n xs := by
 refine own_move h (fun k hk => ?_)
 obtain ⟨cells, hc⟩ := own_typed h k hk
 refine Below.heap_setCell w ⟨b, i, none⟩ u k ?_
 rintro rfl
 rw [hc] at hb
 injection hb with hb
 injection hb with _ hb
 exact hT hb.symm
structure ResD (w wr : World) (b : Nat) : Prop where
 lo : Below w.heap.size w wr
 box : wr.heap[b]? = some (.cells #[.int .i64 0, .slice none 0 0, .int .i64 0] 28 (0, 0))
 ge : w.heap.size ≤ b
theorem ResD.below {w wr w1 : World} {b : Nat} (h : ResD w wr b) (hb : Below wr.heap.size wr w1) : ResD w w1 b := ⟨h.lo.trans (hb.mono h.lo.size), blk_below h.box hb, h.ge⟩
theorem ResD.next {w wr : World} (h : Below w.heap.size w wr) : ResD w (wr.alloc (.cells #[.int .i64 0, .slice none 0 0, .int .i64 0] 28)) wr.heap.size :=
 ⟨h.alloc h.size _, heap_alloc_new wr _, h.size⟩
theorem ResD.alloc {w wr : World} {b : Nat} (h : ResD w wr b) (o : Obj) : ResD w (wr.alloc o) b := h.below (below_alloc (Below.refl _ _) o)
theorem ResD.set {w wr : World} {b g : Nat} (h : ResD w wr b) (hne : b ≠ g) (hg : w.heap.size ≤ g) (j : Nat) (v : Value) : ResD w (wr.setCell ⟨g, j, none⟩ v) b :=
 ⟨h.lo.setCell (show w.heap.size ≤ (⟨g, j, none⟩ : Addr).block from hg) _, blk_far h.box hne v, h.ge⟩
theorem ResD.cells {w wr : World} {b : Nat} (h : ResD w wr b) : wr.cell? ⟨b, 0, none⟩ = some (.int .i64 0) ∧ wr.cell? ⟨b, 1, none⟩ = some (.slice none 0 0) ∧ wr.cell? ⟨b, 2, none⟩ = some (.int .i64 0) ∧ wr.frozen? ⟨b, 0, none⟩ = false ∧ wr.frozen? ⟨b, 1, none⟩ = false ∧ wr.frozen? ⟨b, 2, none⟩ = false :=
 ⟨(blk_cell h.box 0).trans rfl, (blk_cell h.box 1).trans rfl, (blk_cell h.box 2).trans rfl, blk_frozen h.box 0, blk_frozen h.box 1, blk_frozen h.box 2⟩
theorem ResD.put {w wr : World} {b : Nat} (h : ResD w wr b) (a v e : Value) : (((wr.setCell ⟨b, 0, none⟩ a).setCell ⟨b, 1, none⟩ v).setCell ⟨b, 2, none⟩ e).heap[b]? = some (.cells #[a, v, e] 28 (0, 0)) :=
 blk_put (cs := #[a, v, .int .i64 0]) (blk_put (cs := #[a, .slice none 0 0, .int .i64 0]) (blk_put (cs := #[.int .i64 0, .slice none 0 0, .int .i64 0]) h.box 0 _ rfl) 1 _ rfl) 2 _ rfl
theorem ResD.low {w wr : World} {b : Nat} (h : ResD w wr b) (a v e : Value) : Below w.heap.size w (((wr.setCell ⟨b, 0, none⟩ a).setCell ⟨b, 1, none⟩ v).setCell ⟨b, 2, none⟩ e) :=
 ((h.lo.setCell (show w.heap.size ≤ (⟨b, 0, none⟩ : Addr).block from h.ge) _).setCell (show w.heap.size ≤ (⟨b, 1, none⟩ : Addr).block from h.ge) _).setCell (show w.heap.size ≤ (⟨b, 2, none⟩ : Addr).block from h.ge) _
theorem ResD.own {w wr : World} {b base : Nat} {u : Value} {xs : List Int} (h : ResD w wr b) (hr : wr.ownsRow base 2 1 u xs.length (nums .i64 xs)) (hb : w.heap.size ≤ base) (a v e : Value) :
  (((wr.setCell ⟨b, 0, none⟩ a).setCell ⟨b, 1, none⟩ v).setCell ⟨b, 2, none⟩ e).ownsRow w.heap.size 2 1 u xs.length (nums .i64 xs) :=
 own_weaken (row_storeT (by decide) (row_storeT (by decide) (row_storeT (by decide) hr h.box) (blk_put (cs := #[.int .i64 0, .slice none 0 0, .int .i64 0]) h.box 0 a rfl)) (blk_put (cs := #[a, .slice none 0 0, .int .i64 0]) (blk_put (cs := #[.int .i64 0, .slice none 0 0, .int .i64 0]) h.box 0 a rfl) 1 v rfl)) hb
theorem ResD.row {w wr : World} {b base : Nat} {u : Value} {xs : List Int} (h : ResD w wr b) (hr : wr.ownsRow base 2 1 u xs.length (nums .i64 xs)) (hb : w.heap.size ≤ base) (a v e : Value) :
  Kd.R (Kd.int .i64) 2 (((wr.setCell ⟨b, 0, none⟩ a).setCell ⟨b, 1, none⟩ v).setCell ⟨b, 2, none⟩ e) w.heap.size (fun _ => True) u xs := Kd.R_of_own (h.own hr hb a v e) (fun _ _ => trivial)
theorem big_tz {w : World} {b : Nat} {n : Int} {m : Nat} (h : Big w b n m) (hm : m ≤ 1000000) (hn : n ≠ 0) : tz n < 32 * m := by
 obtain ⟨ng, xs, A, c, ho, hv, hl⟩ := h.opd hm
 refine tz_lt hn ?_
 have h0 := val_nonneg ho.ok
 have h1 := val_lt ho.ok
 have h2 := pow_mono hl
 have h3 := cast_pow32 m
 have e : n.natAbs = (val xs).toNat := by rw [hv]; cases ng <;> simp [bval] <;> omega
 rw [e]
 clear e hv hn ho
 generalize val xs = v at h0 h1 ⊢
 generalize (2 : Nat) ^ (32 * m) = p at h3 ⊢
 generalize (4294967296 : Int) ^ m = q at h2 h3
 generalize (4294967296 : Int) ^ xs.length = s at h1 h2
 omega
structure NumBox (w wr : World) (x : Nat) (p : Int) : Prop where
 lo : Below w.heap.size w wr
 x : wr.heap[w.heap.size]? = some (.cells #[.pointer (some ⟨x, 0, none⟩), .int .i64 p] 62 (0, 0))
theorem NumBox.start (w : World) (x : Nat) (p : Int) : NumBox w (w.alloc (.cells #[.pointer (some ⟨x, 0, none⟩), .int .i64 p] 62)) x p := ⟨(Below.refl _ _).alloc (Nat.le_refl _) _, heap_alloc_new w _⟩
theorem NumBox.below {w wr w1 : World} {x : Nat} {p : Int} (h : NumBox w wr x p) (hb : Below wr.heap.size wr w1) : NumBox w w1 x p := ⟨h.lo.trans (hb.mono h.lo.size), blk_below h.x hb⟩
theorem NumBox.cells {w wr : World} {x : Nat} {p : Int} (h : NumBox w wr x p) : wr.cell? ⟨w.heap.size, 0, none⟩ = some (.pointer (some ⟨x, 0, none⟩)) ∧ wr.cell? ⟨w.heap.size, 1, none⟩ = some (.int .i64 p) :=
 ⟨(blk_cell h.x 0).trans rfl, (blk_cell h.x 1).trans rfl⟩
set_option maxRecDepth 100000 in
set_option maxHeartbeats 4000000 in
theorem dyadic_calls (x : Nat) (n p : Int) (m : Nat) (w : World) (hx : Big w x n m) (hm : m ≤ 20000) (hp0 : -1000000 ≤ p) (hp1 : p ≤ 1000000) (hT : Tab w) (r1 : Int) (r2 : List Int) (r3 r4 : Int) (h : dyfit n p = (r1, r2, r3, r4)) :
  Calls Tryd.prog 42 #[.agg #[.pointer (some ⟨x, 0, none⟩), .int .i64 p]] w fun e w' => ∃ v1, e = .returned (.tuple #[.agg #[.int .i64 r1, v1, .int .i64 r3], .int .i64 r4]) ∧ w'.ownsRow w.heap.size 2 1 v1 r2.length (nums .i64 r2) ∧ Below w.heap.size w w' := by
 have R0 := Aside0.mk (ResD.next (NumBox.start w x p).lo)
 have N0 := Aside0.mk ((NumBox.start w x p).below (below_alloc (Below.refl _ _) (.cells #[.int .i64 0, .slice none 0 0, .int .i64 0] 28)))
 have HX := Aside0.mk hx
 have HT := Aside0.mk hT
 have HH := Aside0.mk h
 clear hx hT h
 rw [alloc_size] at R0
 obtain ⟨p0, p1⟩ := N0.out.cells
 go_enter Tryd.func42, Tryd.ntmps42
 go_wp2_with fail
 refine (sign_calls x n m _ (HX.out.below N0.out.lo)).mono ?_
 rintro e w1 ⟨rfl, hw1⟩
 subst w1
 generalize hw0 : (w.alloc (.cells #[.pointer (some ⟨x, 0, none⟩), .int .i64 p] 62)).alloc (.cells #[.int .i64 0, .slice none 0 0, .int .i64 0] 28) = w2 at R0 N0 p0 p1 ⊢
 clear hw0
 by_cases hn : n = 0
 ·have hs : sgn n = 0 := by rw [hn]; rfl
  rw [hs]
  have hh := HH.out
  rw [dyfit, if_pos hn] at hh
  simp only [Prod.mk.injEq] at hh
  obtain ⟨rfl, rfl, rfl, rfl⟩ := hh
  obtain ⟨q0, q1, q2, q3, q4, q5⟩ := R0.out.cells
  go_wp2_with fail
  refine bodyPost_ret (results_ct rfl _ _ (w.heap.size + 1) 28 #[.int .i64 0, .slice none 0 0, .int .i64 0] (0, 0) _ rfl (R0.out.put _ _ _) Tryd.underlying28 rfl (by kernel_rfl)) rfl ?_
  exact ⟨_, rfl, R0.out.own (own_zero _ (w.heap.size + 3)) (by omega) _ _ _, R0.out.low _ _ _⟩
 ·have hs0 : (sgn n == 0) = false := by
   rw [beq_eq_false_iff_ne]
   unfold sgn
   split
   ·omega
   ·omega
  have hz := big_tz HX.out (by omega) hn
  have hn2 := oddp_sgn hn
  have hod : oddp n = n / 2 ^ tz n := rfl
  have hh := HH.out
  rw [dyfit, if_neg hn] at hh
  generalize htz : tz n = q at hz hod hh
  have HQ := Aside0.mk htz
  clear htz
  have HS := Aside0.mk hn2
  clear hn2
  go_wp2_with fail
  refine (tz_calls x n m _ (HX.out.below N0.out.lo) (by omega) (HT.out.below N0.out.lo)).mono ?_
  rintro e w3 ⟨rfl, hw3⟩
  subst w3
  rw [HQ.out]
  have hq1 : wrap64 (q : Int) = (q : Int) := w64s (by omega) (by omega)
  have hq2 : wrap64 (p + (q : Int)) = p + (q : Int) := w64s (by omega) (by omega)
  have HOD := Aside0.mk hod
  have HHH := Aside0.mk hh
  clear hod hh
  have p0' := fun o => pw_cell_below (below_alloc (Below.refl w2.heap.size w2) o) p0
  go_wp2_with fail
  refine (rsh_any w2.heap.size x q n m _ (is_new w2) ((HX.out.below N0.out.lo).below (below_alloc (Below.refl _ _) _)) (by omega) (by omega) ((HT.out.below N0.out.lo).below (below_alloc (Below.refl _ _) _))).mono ?_
  rintro e w3 ⟨rfl, hb3, hg3⟩
  have L3 := Aside0.mk (below_of_grown ((Below.refl w2.heap.size w2).alloc (Nat.le_refl _) _) hg3 (Nat.le_refl _))
  have HB3 := Aside0.mk hb3
  clear hb3 hg3 p0'
  go_wp2_with fail
  by_cases hbl : blen (oddp n) ≤ 4800
  ·have hwf : wfit (n / 2 ^ q) = (sgn n, limbs (oddp n).natAbs, 0) := by rw [← HOD.out, wfit, if_pos hbl, HS.out]
   refine (whole_calls w2.heap.size (n / 2 ^ q) (m + 2) _ HB3.out (by omega) _ _ _ hwf).mono ?_
   rintro e w4 ⟨v, rfl, hr, hb4⟩
   obtain ⟨A1, k1, rfl⟩ := own_slice hr
   have L4 := Aside0.mk (L3.out.trans (hb4.mono L3.out.size))
   have R4 := Aside0.mk (R0.out.below L4.out)
   have N4 := Aside0.mk (N0.out.below L4.out)
   obtain ⟨c0, c1⟩ := N4.out.cells
   have HR := Aside0.mk hr
   have HBL := Aside0.mk hbl
   clear hr hb4 p0 p1 hwf hbl
   generalize limbs (oddp n).natAbs = l1 at HR HHH ⊢
   generalize sgn n = s1 at HHH hs0 ⊢
   have c1' := fun o => pw_cell_below (below_alloc (Below.refl w4.heap.size w4) o) c1
   go_wp2_with fail
   have hcore := HHH.out
   by_cases hin : -5000 ≤ p + (q : Int) ∧ p + (q : Int) ≤ 5000
   ·rw [if_pos ⟨HBL.out, hin⟩] at hcore
    simp only [Prod.mk.injEq] at hcore
    obtain ⟨rfl, rfl, rfl, rfl⟩ := hcore
    refine (between_of (p + (q : Int)) (-5000) 5000 _ true (by simp [hin])).mono ?_
    rintro e w5 ⟨rfl, hb5⟩
    have x7 := blk_below (heap_alloc_new (w4.alloc (.cells #[.int .i64 s1, .slice A1 l1.length k1] 26)) (.cells #[.int .i64 s1, .slice A1 l1.length k1, .int .i64 (p + (q : Int))] 28)) hb5
    rw [alloc_size] at x7
    have L5 := (below_alloc (below_alloc (Below.refl w4.heap.size w4) (.cells #[.int .i64 s1, .slice A1 l1.length k1] 26)) (.cells #[.int .i64 s1, .slice A1 l1.length k1, .int .i64 (p + (q : Int))] 28))
    have LB5 := L5.trans (hb5.mono L5.size)
    have R5 := Aside0.mk (R4.out.below LB5)
    have HR5 := Aside0.mk (pw_own_below HR.out LB5)
    have z0 := (blk_cell x7 0).trans rfl
    have z1 := (blk_cell x7 1).trans rfl
    have z2 := (blk_cell x7 2).trans rfl
    obtain ⟨q0, q1, q2, q3, q4, q5⟩ := R5.out.cells
    clear hb5 x7 L5 LB5
    go_wp2_with fail
    refine bodyPost_ret (results_ct rfl _ _ (w.heap.size + 1) 28 #[.int .i64 s1, .slice A1 l1.length k1, .int .i64 (p + (q : Int))] (0, 0) _ rfl (R5.out.put _ _ _) Tryd.underlying28 rfl (by kernel_rfl)) rfl ?_
    exact ⟨_, rfl, R5.out.own HR5.out (Nat.le_trans N0.out.lo.size L3.out.size) _ _ _, R5.out.low _ _ _⟩
   ·rw [if_neg (fun g => hin g.2)] at hcore
    simp only [Prod.mk.injEq] at hcore
    obtain ⟨rfl, rfl, rfl, rfl⟩ := hcore
    refine (between_of (p + (q : Int)) (-5000) 5000 _ false (by simp; omega)).mono ?_
    rintro e w5 ⟨rfl, hb5⟩
    have L5 := (below_alloc (below_alloc (Below.refl w4.heap.size w4) (.cells #[.int .i64 s1, .slice A1 l1.length k1] 26)) (.cells #[.int .i64 s1, .slice A1 l1.length k1, .int .i64 (p + (q : Int))] 28))
    have LB5 := L5.trans (hb5.mono L5.size)
    have R5 := Aside0.mk (R4.out.below LB5)
    obtain ⟨q0, q1, q2, q3, q4, q5⟩ := R5.out.cells
    clear hb5 L5 LB5
    go_wp2_with fail
    refine bodyPost_ret (results_ct rfl _ _ (w.heap.size + 1) 28 #[.int .i64 0, .slice none 0 0, .int .i64 0] (0, 0) _ rfl (R5.out.put _ _ _) Tryd.underlying28 rfl (by kernel_rfl)) rfl ?_
    exact ⟨_, rfl, R5.out.own (own_zero _ (w.heap.size + 3)) (by omega) _ _ _, R5.out.low _ _ _⟩
  ·have hwf : wfit (n / 2 ^ q) = (0, [], 3) := by rw [← HOD.out, wfit, if_neg hbl]
   refine (whole_calls w2.heap.size (n / 2 ^ q) (m + 2) _ HB3.out (by omega) _ _ _ hwf).mono ?_
   rintro e w4 ⟨v, rfl, hr, hb4⟩
   obtain ⟨A1, k1, rfl⟩ := own_slice hr
   have L4 := Aside0.mk (L3.out.trans (hb4.mono L3.out.size))
   have R4 := Aside0.mk (R0.out.below L4.out)
   have N4 := Aside0.mk (N0.out.below L4.out)
   obtain ⟨c0, c1⟩ := N4.out.cells
   have hcore := HHH.out
   rw [if_neg (fun g => hbl g.1)] at hcore
   simp only [Prod.mk.injEq] at hcore
   obtain ⟨rfl, rfl, rfl, rfl⟩ := hcore
   clear hr hb4 p0 p1 hwf hbl
   have c1' := fun o => pw_cell_below (below_alloc (Below.refl w4.heap.size w4) o) c1
   have R5 := Aside0.mk ((R4.out.alloc (.cells #[.int .i64 0, .slice A1 0 k1] 26)).alloc (.cells #[.int .i64 0, .slice A1 0 k1, .int .i64 (p + (q : Int))] 28))
   obtain ⟨q0, q1, q2, q3, q4, q5⟩ := R5.out.cells
   go_wp2_with fail
   refine bodyPost_ret (results_ct rfl _ _ (w.heap.size + 1) 28 #[.int .i64 0, .slice none 0 0, .int .i64 0] (0, 0) _ rfl (R5.out.put _ _ _) Tryd.underlying28 rfl (by kernel_rfl)) rfl ?_
   exact ⟨_, rfl, R5.out.own (own_zero _ (w.heap.size + 3)) (by omega) _ _ _, R5.out.low _ _ _⟩
end Go.Proofs.YtdbdhgimokaooaaDoor
