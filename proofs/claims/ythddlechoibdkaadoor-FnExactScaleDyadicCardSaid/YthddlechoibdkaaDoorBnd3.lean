/- The contract of impl.WholeOf in plain words. Condition: the argument is an int64. -/
import Derived.Test.YthddlechoibdkaaDoorBigD
import Derived.Test.YthddlechoibdkaaDoorMathM
namespace Go.Proofs.YthddlechoibdkaaDoor
open Go.RowKit Go.Proofs.YthddlechoibdkaaDoorW.PrintWords Go.Proofs.YthddlechoibdkaaDoorW.PrintLast Go.Proofs.YthddlechoibdkaaDoor.Math Go.Proofs.YthddlechoibdkaaDoor.Big
set_option linter.unusedVariables false
set_option linter.unusedSimpArgs false

theorem alloc_size (w : World) (o : Obj) : (w.alloc o).heap.size = w.heap.size + 1 := by simp
/-- The result's variable, not yet written. -/
structure ResAt (w wr : World) (b : Nat) : Prop where
  lo : Below w.heap.size w wr
  box : wr.heap[b]? = some (.cells #[.int .i64 0, .slice none 0 0] 28 (0, 0))
  ge : w.heap.size ≤ b
theorem ResAt.below {w wr w1 : World} {b : Nat} (h : ResAt w wr b) (hb : Below wr.heap.size wr w1) : ResAt w w1 b := ⟨h.lo.trans (hb.mono h.lo.size), blk_below h.box hb, h.ge⟩
theorem ResAt.next {w wr : World} (h : Below w.heap.size w wr) : ResAt w (wr.alloc (.cells #[.int .i64 0, .slice none 0 0] 28)) wr.heap.size :=
  ⟨h.alloc h.size _, heap_alloc_new wr _, h.size⟩
theorem ResAt.cells {w wr : World} {b : Nat} (h : ResAt w wr b) : wr.cell? ⟨b, 0, none⟩ = some (.int .i64 0) ∧ wr.cell? ⟨b, 1, none⟩ = some (.slice none 0 0) ∧ wr.frozen? ⟨b, 0, none⟩ = false ∧ wr.frozen? ⟨b, 1, none⟩ = false :=
  ⟨(blk_cell h.box 0).trans rfl, (blk_cell h.box 1).trans rfl, blk_frozen h.box 0, blk_frozen h.box 1⟩
theorem ResAt.put {w wr : World} {b : Nat} (h : ResAt w wr b) (a v : Value) : ((wr.setCell ⟨b, 0, none⟩ a).setCell ⟨b, 1, none⟩ v).heap[b]? = some (.cells #[a, v] 28 (0, 0)) :=
  blk_put (cs := #[a, .slice none 0 0]) (blk_put (cs := #[.int .i64 0, .slice none 0 0]) h.box 0 _ rfl) 1 _ rfl
theorem ResAt.low {w wr : World} {b : Nat} (h : ResAt w wr b) (a v : Value) : Below w.heap.size w ((wr.setCell ⟨b, 0, none⟩ a).setCell ⟨b, 1, none⟩ v) :=
  (h.lo.setCell (show w.heap.size ≤ (⟨b, 0, none⟩ : Addr).block from h.ge) _).setCell (show w.heap.size ≤ (⟨b, 1, none⟩ : Addr).block from h.ge) _
theorem ResAt.row {w wr : World} {b base : Nat} {u : Value} {xs : List Int} (h : ResAt w wr b) (hr : wr.ownsRow base 2 1 u xs.length (nums .i64 xs)) (hb : w.heap.size ≤ base) (a v : Value) :
    Kd.R (Kd.int .i64) 2 ((wr.setCell ⟨b, 0, none⟩ a).setCell ⟨b, 1, none⟩ v) w.heap.size (fun _ => True) u xs :=
  Kd.R_of_own (own_weaken (row_store (row_store hr h.box) (blk_put (cs := #[.int .i64 0, .slice none 0 0]) h.box 0 a rfl)) hb) (fun _ _ => trivial)

end Go.Proofs.YthddlechoibdkaaDoor
