/- The contract of impl.WholeOf in plain words. Condition: the argument is an int64. -/
import Derived.Test.YtghhphndbbefjaaDoorBigD
import Derived.Test.YtghhphndbbefjaaDoorMathM
import Derived.Test.YtghhphndbbefjaaDoorBnd1
import Derived.Test.YtghhphndbbefjaaDoorBigE
/- The contracts of impl.binary, impl.AddWholes, impl.SubtractWholes and impl.MultiplyWholes in plain words. Condition: at most 1000000000 limbs. -/
/- The contracts of impl.shifted, impl.TwosIn and impl.ShiftWhole in plain words. Conditions: at most 1000000000 limbs; the library's table holds its numbers. -/
namespace Go.Proofs.YtghhphndbbefjaaDoor
open Go.RowKit Go.Proofs.YtghhphndbbefjaaDoorW.PrintWords Go.Proofs.YtghhphndbbefjaaDoorW.PrintLast Go.Proofs.YtghhphndbbefjaaDoor.Math Go.Proofs.YtghhphndbbefjaaDoor.Big
set_option linter.unusedVariables false
set_option linter.unusedSimpArgs false
theorem alloc_size (w : World) (o : Obj) : (w.alloc o).heap.size = w.heap.size + 1 := by simp
structure ResAt (w wr : World) (b : Nat) : Prop where
 lo : Below w.heap.size w wr
 box : wr.heap[b]? = some (.cells #[.int .i64 0, .slice none 0 0] 26 (0, 0))
 ge : w.heap.size ≤ b
theorem ResAt.below {w wr w1 : World} {b : Nat} (h : ResAt w wr b) (hb : Below wr.heap.size wr w1) : ResAt w w1 b := ⟨h.lo.trans (hb.mono h.lo.size), blk_below h.box hb, h.ge⟩
theorem ResAt.next {w wr : World} (h : Below w.heap.size w wr) : ResAt w (wr.alloc (.cells #[.int .i64 0, .slice none 0 0] 26)) wr.heap.size :=
 ⟨h.alloc h.size _, heap_alloc_new wr _, h.size⟩
theorem ResAt.cells {w wr : World} {b : Nat} (h : ResAt w wr b) : wr.cell? ⟨b, 0, none⟩ = some (.int .i64 0) ∧ wr.cell? ⟨b, 1, none⟩ = some (.slice none 0 0) ∧ wr.frozen? ⟨b, 0, none⟩ = false ∧ wr.frozen? ⟨b, 1, none⟩ = false :=
 ⟨(blk_cell h.box 0).trans rfl, (blk_cell h.box 1).trans rfl, blk_frozen h.box 0, blk_frozen h.box 1⟩
theorem ResAt.put {w wr : World} {b : Nat} (h : ResAt w wr b) (a v : Value) : ((wr.setCell ⟨b, 0, none⟩ a).setCell ⟨b, 1, none⟩ v).heap[b]? = some (.cells #[a, v] 26 (0, 0)) :=
 blk_put (cs := #[a, .slice none 0 0]) (blk_put (cs := #[.int .i64 0, .slice none 0 0]) h.box 0 _ rfl) 1 _ rfl
theorem ResAt.low {w wr : World} {b : Nat} (h : ResAt w wr b) (a v : Value) : Below w.heap.size w ((wr.setCell ⟨b, 0, none⟩ a).setCell ⟨b, 1, none⟩ v) :=
 (h.lo.setCell (show w.heap.size ≤ (⟨b, 0, none⟩ : Addr).block from h.ge) _).setCell (show w.heap.size ≤ (⟨b, 1, none⟩ : Addr).block from h.ge) _
theorem ResAt.row {w wr : World} {b base : Nat} {u : Value} {xs : List Int} (h : ResAt w wr b) (hr : wr.ownsRow base 2 1 u xs.length (nums .i64 xs)) (hb : w.heap.size ≤ base) (a v : Value) :
  Kd.R (Kd.int .i64) 2 ((wr.setCell ⟨b, 0, none⟩ a).setCell ⟨b, 1, none⟩ v) w.heap.size (fun _ => True) u xs :=
 Kd.R_of_own (own_weaken (row_store (row_store hr h.box) (blk_put (cs := #[.int .i64 0, .slice none 0 0]) h.box 0 a rfl)) hb) (fun _ _ => trivial)
end Go.Proofs.YtghhphndbbefjaaDoor
namespace Go.Proofs.YtghhphndbbefjaaDoor
open Go.RowKit Go.Proofs.YtghhphndbbefjaaDoorW.PrintWords Go.Proofs.YtghhphndbbefjaaDoorW.PrintLast Go.Proofs.YtghhphndbbefjaaDoorW.PrintMore Go.Proofs.YtghhphndbbefjaaDoor.Math Go.Proofs.YtghhphndbbefjaaDoor.Big
set_option linter.unusedVariables false
set_option linter.unusedSimpArgs false
theorem ResAt.own {w wr : World} {b base : Nat} {u : Value} {xs : List Int} (h : ResAt w wr b) (hr : wr.ownsRow base 2 1 u xs.length (nums .i64 xs)) (hb : w.heap.size ≤ base) (a v : Value) :
  ((wr.setCell ⟨b, 0, none⟩ a).setCell ⟨b, 1, none⟩ v).ownsRow w.heap.size 2 1 u xs.length (nums .i64 xs) :=
 own_weaken (row_store (row_store hr h.box) (blk_put (cs := #[.int .i64 0, .slice none 0 0]) h.box 0 a rfl)) hb
def Makes (f : Nat) (op : Int → Int → Int) : Prop := ∀ (x y : Nat) (n k : Int) (w0 w : World), Big w x n 200 → Big w y k 200 → x ≠ y → w0.heap.size ≤ x → w0.heap.size ≤ y → Below w0.heap.size w0 w →
 Calls Tryd.prog f #[.pointer (some ⟨x, 0, none⟩), .pointer (some ⟨y, 0, none⟩)] w fun e w' => ∃ z, e = .returned (.pointer (some ⟨z, 0, none⟩)) ∧ Big w' z (op n k) 500 ∧ Below w0.heap.size w0 w'
theorem Makes.at_ {f : Nat} {op : Int → Int → Int} (h : Makes f op) (x y : Nat) (n k : Int) (w0 w : World) (hx : Big w x n 200) (hy : Big w y k 200) (hne : x ≠ y) (h1 : w0.heap.size ≤ x) (h2 : w0.heap.size ≤ y) (h3 : Below w0.heap.size w0 w) :
 Calls Tryd.prog f #[.pointer (some ⟨x, 0, none⟩), .pointer (some ⟨y, 0, none⟩)] w fun e w' => ∃ z, e = .returned (.pointer (some ⟨z, 0, none⟩)) ∧ Big w' z (op n k) 500 ∧ Below w0.heap.size w0 w' := h x y n k w0 w hx hy hne h1 h2 h3
theorem own_zero (w : World) (base : Nat) : w.ownsRow base 2 1 (.slice none 0 0) ([] : List Int).length (nums .i64 []) := own_nil _ _ _ _
end Go.Proofs.YtghhphndbbefjaaDoor
namespace Go.Proofs.YtghhphndbbefjaaDoor
open Go.RowKit Go.Proofs.YtghhphndbbefjaaDoorW.PrintWords Go.Proofs.YtghhphndbbefjaaDoorW.PrintLast Go.Proofs.YtghhphndbbefjaaDoorW.PrintMore Go.Proofs.YtghhphndbbefjaaDoor.Math Go.Proofs.YtghhphndbbefjaaDoor.Big
set_option linter.unusedVariables false
set_option linter.unusedSimpArgs false
structure OneBox (w wr : World) (a : Int) (A : Option Addr) (c : Nat) (l : List Int) : Prop where
 lo : Below w.heap.size w wr
 x : wr.heap[w.heap.size]? = some (.cells #[.int .i64 a, .slice A l.length c] 26 (0, 0))
theorem OneBox.start (w : World) (a : Int) (A : Option Addr) (c : Nat) (l : List Int) : OneBox w (w.alloc (.cells #[.int .i64 a, .slice A l.length c] 26)) a A c l := ⟨(Below.refl _ _).alloc (Nat.le_refl _) _, heap_alloc_new w _⟩
theorem OneBox.below {w wr w1 : World} {a : Int} {A : Option Addr} {c : Nat} {l : List Int} (h : OneBox w wr a A c l) (hb : Below wr.heap.size wr w1) : OneBox w w1 a A c l := ⟨h.lo.trans (hb.mono h.lo.size), blk_below h.x hb⟩
theorem OneBox.cells {w wr : World} {a : Int} {A : Option Addr} {c : Nat} {l : List Int} (h : OneBox w wr a A c l) : wr.cell? ⟨w.heap.size, 0, none⟩ = some (.int .i64 a) ∧ wr.cell? ⟨w.heap.size, 1, none⟩ = some (.slice A l.length c) :=
 ⟨(blk_cell h.x 0).trans rfl, (blk_cell h.x 1).trans rfl⟩
theorem below_drawn {w w1 : World} (h : Drawn0 w w1) : Below w.heap.size w w1 := h.below
theorem between_of (k lo hi : Int) (w : World) (b : Bool) (h : b = (decide (lo ≤ k) && decide (k ≤ hi))) :
  Calls Tryd.prog 88 #[.int .i64 k, .int .i64 lo, .int .i64 hi] w fun e w' => e = .returned (.bool b) ∧ Below w.heap.size w w' := by
 refine (A.impl_between.calls k lo hi b w ?_).mono ?_
 ·unfold A.impl_between.f
  subst h
  by_cases g : k ≥ lo
  ·rw [if_pos g, decide_eq_true (show lo ≤ k from g), Bool.true_and]
  ·rw [if_neg g, decide_eq_false (show ¬ lo ≤ k from g), Bool.false_and]
 ·rintro e w' ⟨rfl, hd⟩
  exact ⟨rfl, below_drawn hd⟩
def shv (n k : Int) : Int := if 0 ≤ k then n * 2 ^ k.toNat else n / 2 ^ (-k).toNat
set_option maxHeartbeats 1000000 in
theorem shifted_calls (x : Nat) (n k : Int) (m : Nat) (w : World) (hx : Big w x n m) (hm : m ≤ 100000) (h0 : -100000 ≤ k) (h1 : k ≤ 100000) (hT : Tab w) :
  Calls Tryd.prog 134 #[.pointer (some ⟨x, 0, none⟩), .int .i64 k] w fun e w' => ∃ z, e = .returned (.pointer (some ⟨z, 0, none⟩)) ∧ w.heap.size ≤ z ∧ Big w' z (shv n k) (m + 4000) ∧ Below w.heap.size w w' := by
 have HX := Aside0.mk (hx.below (below_alloc (Below.refl _ _) (.cells #[.bool false, .slice none 0 0] 73)))
 have HT := Aside0.mk (hT.below (below_alloc (Below.refl _ _) (.cells #[.bool false, .slice none 0 0] 73)))
 have HN := Aside0.mk (is_new w)
 have HL := Aside0.mk ((Below.refl w.heap.size w).alloc (Nat.le_refl _) (.cells #[.bool false, .slice none 0 0] 73))
 clear hx hT
 unfold shv
 by_cases hk : 0 ≤ k
 ·obtain ⟨j, rfl⟩ := Int.eq_ofNat_of_zero_le hk
  rw [if_pos hk, Int.toNat_natCast]
  go_enter Tryd.func134, Tryd.ntmps134
  go_wp2_with fail
  refine (lsh_calls w.heap.size x j n m _ HN.out HX.out (by omega) (by omega)).mono ?_
  rintro e w1 ⟨rfl, hb, hg⟩
  have HB := Aside0.mk hb
  have HG := Aside0.mk (below_of_grown HL.out hg (Nat.le_refl _))
  clear hb hg
  go_wp2
  go_ret
  exact ⟨_, rfl, Nat.le_refl _, HB.out.more (by omega), HG.out⟩
 ·obtain ⟨j, hj⟩ : ∃ j : Nat, -k = j := ⟨(-k).toNat, by omega⟩
  rw [if_neg hk, hj, Int.toNat_natCast]
  have hw : wrap64 (-k) = (j : Int) := by rw [w64s (by omega) (by omega)]; exact hj
  go_enter Tryd.func134, Tryd.ntmps134
  go_wp2_with fail
  refine (rsh_any w.heap.size x j n m _ HN.out HX.out (by omega) (by omega) HT.out).mono ?_
  rintro e w1 ⟨rfl, hb, hg⟩
  have HB := Aside0.mk hb
  have HG := Aside0.mk (below_of_grown HL.out hg (Nat.le_refl _))
  clear hb hg
  go_wp2
  go_ret
  exact ⟨_, rfl, Nat.le_refl _, HB.out.more (by omega), HG.out⟩
theorem tz_lt {n : Int} (hn : n ≠ 0) {j : Nat} (h : n.natAbs < 2 ^ j) : tz n < j := by
 have h1 := ctz_spec (show n.natAbs ≠ 0 from by omega)
 have h2 := Nat.le_of_dvd (by omega) (Nat.dvd_of_mod_eq_zero h1.z)
 exact (Nat.pow_lt_pow_iff_right (by omega)).1 (Nat.lt_of_le_of_lt h2 h)
end Go.Proofs.YtghhphndbbefjaaDoor
