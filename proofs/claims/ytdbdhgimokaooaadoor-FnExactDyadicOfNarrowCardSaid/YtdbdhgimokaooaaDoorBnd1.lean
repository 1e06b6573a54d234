/- The contracts of impl.LengthOfWhole and impl.CompareWholes in plain words. Condition: at most 1000000000 limbs. -/
import Derived.Test.YtdbdhgimokaooaaDoorBnd0
import Derived.Test.YtdbdhgimokaooaaDoorG6
namespace Go.Proofs.YtdbdhgimokaooaaDoor
open Go.RowKit Go.Proofs.YtdbdhgimokaooaaDoorW.PrintWords Go.Proofs.YtdbdhgimokaooaaDoorW.PrintLast Go.Proofs.YtdbdhgimokaooaaDoorW.PrintMore Go.Proofs.YtdbdhgimokaooaaDoor.Math Go.Proofs.YtdbdhgimokaooaaDoor.Big
set_option linter.unusedVariables false
set_option linter.unusedSimpArgs false
theorem lims_of {w : World} {s : Int} {A : Option Addr} {l : List Int} (hr : Kd.C (Kd.int .i64) w A l.length l) (h : isW s l = true) : Lims w A l :=
 ⟨hr, isW_okl h, Nat.le_trans (isW_len h) (by omega)⟩
structure TwoBox (w wr : World) (a : Int) (A : Option Addr) (c : Nat) (l : List Int) (b : Int) (B : Option Addr) (d : Nat) (m : List Int) : Prop where
 lo : Below w.heap.size w wr
 x : wr.heap[w.heap.size]? = some (.cells #[.int .i64 a, .slice A l.length c] 26 (0, 0))
 y : wr.heap[w.heap.size + 1]? = some (.cells #[.int .i64 b, .slice B m.length d] 26 (0, 0))
theorem TwoBox.start (w : World) (a : Int) (A : Option Addr) (c : Nat) (l : List Int) (b : Int) (B : Option Addr) (d : Nat) (m : List Int) :
  TwoBox w ((w.alloc (.cells #[.int .i64 a, .slice A l.length c] 26)).alloc (.cells #[.int .i64 b, .slice B m.length d] 26)) a A c l b B d m := by
 refine ⟨((Below.refl _ _).alloc (Nat.le_refl _) _).alloc (by simp) _, blk_alloc (heap_alloc_new w _) _, ?_⟩
 have := heap_alloc_new (w.alloc (.cells #[.int .i64 a, .slice A l.length c] 26)) (.cells #[.int .i64 b, .slice B m.length d] 26)
 simpa using this
theorem TwoBox.below {w wr w1 : World} {a : Int} {A : Option Addr} {c : Nat} {l : List Int} {b : Int} {B : Option Addr} {d : Nat} {m : List Int} (h : TwoBox w wr a A c l b B d m) (hb : Below wr.heap.size wr w1) :
  TwoBox w w1 a A c l b B d m := ⟨h.lo.trans (hb.mono h.lo.size), blk_below h.x hb, blk_below h.y hb⟩
theorem TwoBox.cells {w wr : World} {a : Int} {A : Option Addr} {c : Nat} {l : List Int} {b : Int} {B : Option Addr} {d : Nat} {m : List Int} (h : TwoBox w wr a A c l b B d m) :
  wr.cell? ⟨w.heap.size, 0, none⟩ = some (.int .i64 a) ∧ wr.cell? ⟨w.heap.size, 1, none⟩ = some (.slice A l.length c) ∧ wr.cell? ⟨w.heap.size + 1, 0, none⟩ = some (.int .i64 b) ∧ wr.cell? ⟨w.heap.size + 1, 1, none⟩ = some (.slice B m.length d) :=
 ⟨(blk_cell h.x 0).trans rfl, (blk_cell h.x 1).trans rfl, (blk_cell h.y 0).trans rfl, (blk_cell h.y 1).trans rfl⟩
end Go.Proofs.YtdbdhgimokaooaaDoor
