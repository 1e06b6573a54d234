/- The contract of impl.WholeOf in plain words. Condition: the argument is an int64. -/
import Derived.Test.YtghhphndbbefjaaDoorBigD
import Derived.Test.YtghhphndbbefjaaDoorMathM
import Derived.Test.YtghhphndbbefjaaDoorBnd1
import Derived.Test.YtghhphndbbefjaaDoorBigE
/- The contracts of impl.binary, impl.AddWholes, impl.SubtractWholes and impl.MultiplyWholes in plain words. Condition: at most 1000000000 limbs. -/
/- The contracts of impl.shifted, impl.TwosIn and impl.ShiftWhole in plain words. Conditions: at most 1000000000 limbs; the library's table holds its numbers. -/
namespace Go.Proofs.YtghhphndbbefjaaDoor
open Go.RowKit Go.Proofs.YtghhphndbbefjaaDoorW.PrintWords Go.Proofs.YtghhphndbbefjaaDoorW.PrintLast Go.Proofs.YtghhphndbbefjaaDoor.Math Go.Proofs.YtghhphndbbefjaaDoor.Big
set_option linter.unusedVariables false
set_option linter.unusedSimpArgs false
theorem alloc_size (w : World) (o : Obj) : (w.alloc o).heap.size = w.heap.size + 1 := by simp
structure ResAt (w wr : World) (b : Nat) : Prop where
 lo : Below w.heap.size w wr
 box : wr.heap[b]? = some (.cells #[.int .i64 0, .slice none 0 0] 26 (0, 0))
 ge : w.heap.size ≤ b
theorem ResAt.below {w wr w1 : World} {b : Nat} (h : ResAt w wr b) (hb : Below wr.heap.size wr w1) : ResAt w w1 b := ⟨h.lo.trans (hb.mono h.lo.size), blk_below h.box hb, h.ge⟩
theorem ResAt.next {w wr : World} (h : Below w.heap.size w wr) : ResAt w (wr.alloc (.cells #[.int .i64 0, .slice none 0 0] 26)) wr.heap.size :=
 ⟨h.alloc h.size _, heap_alloc_new wr _, h.size⟩
theorem ResAt.cells {w wr : World} {b : Nat} (h : ResAt w wr b) : wr.cell? ⟨b, 0, none⟩ = some (.int .i64 0) ∧ wr.cell? ⟨b, 1, none⟩ = some (.slice none 0 0) ∧ wr.frozen? ⟨b, 0, none⟩ = false ∧ wr.frozen? ⟨b, 1, none⟩ = false :=
 ⟨(blk_cell h.box 0).trans rfl, (blk_cell h.box 1).trans rfl, blk_frozen h.box 0, blk_frozen h.box 1⟩
theorem ResAt.put {w wr : World} {b : Nat} (h : ResAt w wr b) (a v : Value) : ((wr.setCell ⟨b, 0, none⟩ a).setCell ⟨b, 1, none⟩ v).heap[b]? = some (.cells #[a, v] 26 (0, 0)) :=
 blk_put (cs := #[a, .slice none 0 0]) (blk_put (cs := #[.int .i64 0, .slice none 0 0]) h.box 0 _ rfl) 1 _ rfl
theorem ResAt.low {w wr : World} {b : Nat} (h : ResAt w wr b) (a v : Value) : Below w.heap.size w ((wr.setCell ⟨b, 0, none⟩ a).setCell ⟨b, 1, none⟩ v) :=
 (h.lo.setCell (show w.heap.size ≤ (⟨b, 0, none⟩ : Addr).block from h.ge) _).setCell (show w.heap.size ≤ (⟨b, 1, none⟩ : Addr).block from h.ge) _
theorem ResAt.row {w wr : World} {b base : Nat} {u : Value} {xs : List Int} (h : ResAt w wr b) (hr : wr.ownsRow base 2 1 u xs.length (nums .i64 xs)) (hb : w.heap.size ≤ base) (a v : Value) :
  Kd.R (Kd.int .i64) 2 ((wr.setCell ⟨b, 0, none⟩ a).setCell ⟨b, 1, none⟩ v) w.heap.size (fun _ => True) u xs :=
 Kd.R_of_own (own_weaken (row_store (row_store hr h.box) (blk_put (cs := #[.int .i64 0, .slice none 0 0]) h.box 0 a rfl)) hb) (fun _ _ => trivial)
end Go.Proofs.YtghhphndbbefjaaDoor
namespace Go.Proofs.YtghhphndbbefjaaDoor
open Go.RowKit Go.Proofs.YtghhphndbbefjaaDoorW.PrintWords Go.Proofs.YtghhphndbbefjaaDoorW.PrintLast Go.Proofs.YtghhphndbbefjaaDoorW.PrintMore Go.Proofs.YtghhphndbbefjaaDoor.Math Go.Proofs.YtghhphndbbefjaaDoor.Big
set_option linter.unusedVariables false
set_option linter.unusedSimpArgs false
theorem ResAt.own {w wr : World} {b base : Nat} {u : Value} {xs : List Int} (h : ResAt w wr b) (hr : wr.ownsRow base 2 1 u xs.length (nums .i64 xs)) (hb : w.heap.size ≤ base) (a v : Value) :
  ((wr.setCell ⟨b, 0, none⟩ a).setCell ⟨b, 1, none⟩ v).ownsRow w.heap.size 2 1 u xs.length (nums .i64 xs) :=
 own_weaken (row_store (row_store hr h.box) (blk_put (cs := #[.int .i64 0, .slice none 0 0]) h.box 0 a rfl)) hb
def Makes (f : Nat) (op : Int → Int → Int) : Prop := ∀ (x y : Nat) (n k : Int) (w0 w : World), Big w x n 200 → Big w y k 200 → x ≠ y → w0.heap.size ≤ x → w0.heap.size ≤ y → Below w0.heap.size w0 w →
 Calls Tryd.prog f #[.pointer (some ⟨x, 0, none⟩), .pointer (some ⟨y, 0, none⟩)] w fun e w' => ∃ z, e = .returned (.pointer (some ⟨z, 0, none⟩)) ∧ Big w' z (op n k) 500 ∧ Below w0.heap.size w0 w'
theorem Makes.at_ {f : Nat} {op : Int → Int → Int} (h : Makes f op) (x y : Nat) (n k : Int) (w0 w : World) (hx : Big w x n 200) (hy : Big w y k 200) (hne : x ≠ y) (h1 : w0.heap.size ≤ x) (h2 : w0.heap.size ≤ y) (h3 : Below w0.heap.size w0 w) :
 Calls Tryd.prog f #[.pointer (some ⟨x, 0, none⟩), .pointer (some ⟨y, 0, none⟩)] w fun e w' => ∃ z, e = .returned (.pointer (some ⟨z, 0, none⟩)) ∧ Big w' z (op n k) 500 ∧ Below w0.heap.size w0 w' := h x y n k w0 w hx hy hne h1 h2 h3
end Go.Proofs.YtghhphndbbefjaaDoor
namespace Go.Proofs.YtghhphndbbefjaaDoor
open Go.RowKit Go.Proofs.YtghhphndbbefjaaDoorW.PrintWords Go.Proofs.YtghhphndbbefjaaDoorW.PrintLast Go.Proofs.YtghhphndbbefjaaDoorW.PrintMore Go.Proofs.YtghhphndbbefjaaDoor.Math Go.Proofs.YtghhphndbbefjaaDoor.Big
set_option linter.unusedVariables false
set_option linter.unusedSimpArgs false
structure OneBox (w wr : World) (a : Int) (A : Option Addr) (c : Nat) (l : List Int) : Prop where
 lo : Below w.heap.size w wr
 x : wr.heap[w.heap.size]? = some (.cells #[.int .i64 a, .slice A l.length c] 26 (0, 0))
theorem OneBox.start (w : World) (a : Int) (A : Option Addr) (c : Nat) (l : List Int) : OneBox w (w.alloc (.cells #[.int .i64 a, .slice A l.length c] 26)) a A c l := ⟨(Below.refl _ _).alloc (Nat.le_refl _) _, heap_alloc_new w _⟩
theorem OneBox.below {w wr w1 : World} {a : Int} {A : Option Addr} {c : Nat} {l : List Int} (h : OneBox w wr a A c l) (hb : Below wr.heap.size wr w1) : OneBox w w1 a A c l := ⟨h.lo.trans (hb.mono h.lo.size), blk_below h.x hb⟩
theorem OneBox.cells {w wr : World} {a : Int} {A : Option Addr} {c : Nat} {l : List Int} (h : OneBox w wr a A c l) : wr.cell? ⟨w.heap.size, 0, none⟩ = some (.int .i64 a) ∧ wr.cell? ⟨w.heap.size, 1, none⟩ = some (.slice A l.length c) :=
 ⟨(blk_cell h.x 0).trans rfl, (blk_cell h.x 1).trans rfl⟩
end Go.Proofs.YtghhphndbbefjaaDoor
