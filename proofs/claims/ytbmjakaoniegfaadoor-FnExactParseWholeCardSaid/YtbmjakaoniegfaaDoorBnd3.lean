/- The contract of impl.WholeOf in plain words. Condition: the argument is an int64. -/
import Derived.Test.YtbmjakaoniegfaaDoorBigD
import Derived.Test.YtbmjakaoniegfaaDoorMathM
namespace Go.Proofs.YtbmjakaoniegfaaDoor
open Go.RowKit Go.Proofs.YtbmjakaoniegfaaDoorW.PrintWords Go.Proofs.YtbmjakaoniegfaaDoorW.PrintLast Go.Proofs.YtbmjakaoniegfaaDoor.Math Go.Proofs.YtbmjakaoniegfaaDoor.Big
set_option linter.unusedVariables false
set_option linter.unusedSimpArgs false

theorem alloc_size (w : World) (o : Obj) : (w.alloc o).heap.size = w.heap.size + 1 := by simp
/-- The result's variable, not yet written. -/
structure ResAt (w wr : World) (b : Nat) : Prop where
  lo : Below w.heap.size w wr
  box : wr.heap[b]? = some (.cells #[.int .i64 0, .slice none 0 0] 28 (0, 0))
  ge : w.heap.size ≤ b
theorem ResAt.below {w wr w1 : World} {b : Nat} (h : ResAt w wr b) (hb : Below wr.heap.size wr w1) : ResAt w w1 b := ⟨h.lo.trans (hb.mono h.lo.size), blk_below h.box hb, h.ge⟩
theorem ResAt.next {w wr : World} (h : Below w.heap.size w wr) : ResAt w (wr.alloc (.cells #[.int .i64 0, .slice none 0 0] 28)) wr.heap.size :=
  ⟨h.alloc h.size _, heap_alloc_new wr _, h.size⟩
theorem ResAt.cells {w wr : World} {b : Nat} (h : ResAt w wr b) : wr.cell? ⟨b, 0, none⟩ = some (.int .i64 0) ∧ wr.cell? ⟨b, 1, none⟩ = some (.slice none 0 0) ∧ wr.frozen? ⟨b, 0, none⟩ = false ∧ wr.frozen? ⟨b, 1, none⟩ = false :=
  ⟨(blk_cell h.box 0).trans rfl, (blk_cell h.box 1).trans rfl, blk_frozen h.box 0, blk_frozen h.box 1⟩
theorem ResAt.put {w wr : World} {b : Nat} (h : ResAt w wr b) (a v : Value) : ((wr.setCell ⟨b, 0, none⟩ a).setCell ⟨b, 1, none⟩ v).heap[b]? = some (.cells #[a, v] 28 (0, 0)) :=
  blk_put (cs := #[a, .slice none 0 0]) (blk_put (cs := #[.int .i64 0, .slice none 0 0]) h.box 0 _ rfl) 1 _ rfl
theorem ResAt.low {w wr : World} {b : Nat} (h : ResAt w wr b) (a v : Value) : Below w.heap.size w ((wr.setCell ⟨b, 0, none⟩ a).setCell ⟨b, 1, none⟩ v) :=
  (h.lo.setCell (show w.heap.size ≤ (⟨b, 0, none⟩ : Addr).block from h.ge) _).setCell (show w.heap.size ≤ (⟨b, 1, none⟩ : Addr).block from h.ge) _
theorem ResAt.row {w wr : World} {b base : Nat} {u : Value} {xs : List Int} (h : ResAt w wr b) (hr : wr.ownsRow base 2 1 u xs.length (nums .i64 xs)) (hb : w.heap.size ≤ base) (a v : Value) :
    Kd.R (Kd.int .i64) 2 ((wr.setCell ⟨b, 0, none⟩ a).setCell ⟨b, 1, none⟩ v) w.heap.size (fun _ => True) u xs :=
  Kd.R_of_own (own_weaken (row_store (row_store hr h.box) (blk_put (cs := #[.int .i64 0, .slice none 0 0]) h.box 0 a rfl)) hb) (fun _ _ => trivial)

def impl_WholeOf.f (a0 : Int) : Option (Int × List Int × Int) := if -9223372036854775808 ≤ a0 ∧ a0 ≤ 9223372036854775807 then some (wfit a0) else none
set_option maxRecDepth 100000 in
set_option maxHeartbeats 1000000 in
theorem impl_WholeOf.calls (a0 : Int) (r1 : Int) (r2 : List Int) (r3 : Int) (w : World) (h : impl_WholeOf.f a0 = some (r1, r2, r3)) :
    Calls Tryd.prog 24 #[.int .i64 a0] w fun e w' => ∃ v1_ : Value, e = .returned (.tuple #[.agg #[.int .i64 r1, v1_], .int .i64 r3]) ∧ Kd.R (Kd.int .i64) 2 w' w.heap.size (fun _ => True) v1_ r2 ∧ Below w.heap.size w w' := by
  unfold impl_WholeOf.f at h
  split at h
  case isFalse => cases h
  rename_i hl
  injection h with h
  have HW := Aside0.mk h
  have R0 := Aside0.mk (ResAt.next (Below.refl w.heap.size w))
  have HL := Aside0.mk hl
  clear h hl
  go_enter Tryd.func24, Tryd.ntmps24
  go_wp2_with fail
  refine (newBig_calls a0 _ HL.out.1 HL.out.2).mono ?_
  rintro e w1 ⟨rfl, hb1, hg1⟩
  have R1 := Aside0.mk (R0.out.below hg1)
  rw [alloc_size] at hb1
  have B1 := Aside0.mk hb1
  clear hb1 hg1
  go_wp2_with fail
  refine (whole_calls _ a0 _ _ B1.out (by omega) r1 r2 r3 HW.out).mono ?_
  rintro e w2 ⟨v, rfl, hr, hb2⟩
  obtain ⟨A1, c1, rfl⟩ := own_slice hr
  have R2 := Aside0.mk (R1.out.below hb2)
  have HR := Aside0.mk hr
  obtain ⟨q0, q1, q2, q3⟩ := R2.out.cells
  clear hr hb2
  go_wp2_with fail
  refine bodyPost_ret (results_ct rfl _ _ w.heap.size 28 #[.int .i64 r1, .slice A1 r2.length c1] (0, 0) _ rfl (R2.out.put _ _) Tryd.underlying28 rfl (by kernel_rfl)) rfl ?_
  exact ⟨_, rfl, R2.out.row HR.out R1.out.lo.size _ _, R2.out.low _ _⟩
end Go.Proofs.YtbmjakaoniegfaaDoor
