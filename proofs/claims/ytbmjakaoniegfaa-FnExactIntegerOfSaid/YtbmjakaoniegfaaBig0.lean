/- Numbers of type bigInt in memory: what such a block holds, and how that outlives other writes. No conditions. -/
import Derived.Test.YtbmjakaoniegfaaProg
import Derived.Test.YtbmjakaoniegfaaWMore
import Derived.WalkKit
import Derived.WalkLawsBesides
import Derived.Outline
namespace Go.Proofs.Ytbmjakaoniegfaa.Big
open Go.RowKit Go.Proofs.YtbmjakaoniegfaaW.PrintWords
set_option linter.unusedVariables false

/-- A slice value that holds these digits (base 2^32), in a block that nothing else than a store of digits touches. -/
def Digs (w : World) (v : Value) (xs : List Int) : Prop := w.ownsRow 0 66 1 v xs.length (nums .u32 xs)
/-- Block b is a bigInt with this sign and these digits. -/
def BigAt (w : World) (b : Nat) (neg : Bool) (xs : List Int) : Prop :=
  ∃ v, w.heap[b]? = some (.cells #[.bool neg, v] 59 (0, 0)) ∧ Digs w v xs
/-- Block b is a bigInt, whatever it holds. -/
def IsBig (w : World) (b : Nat) : Prop := ∃ n v, w.heap[b]? = some (.cells #[.bool n, v] 59 (0, 0))

theorem Digs.grown {w w1 : World} {v : Value} {xs : List Int} {z : Nat} (h : Digs w v xs) (hg : w.grownBy w1 (some z)) (hz : IsBig w z) : Digs w1 v xs := by
  obtain ⟨n, u, hz⟩ := hz
  refine own_move h (fun k hk => ?_)
  obtain ⟨cells, hc⟩ := own_typed h k hk
  refine hg.block k (own_lt h k hk) ?_
  rintro e
  injection e with e
  subst e
  rw [hc] at hz
  injection hz with hz
  injection hz with _ hz
  exact absurd hz (by decide)

theorem Digs.below {w w1 : World} {v : Value} {xs : List Int} (h : Digs w v xs) (hb : Below w.heap.size w w1) : Digs w1 v xs := pw_own_below h hb
theorem BigAt.is {w : World} {b : Nat} {neg : Bool} {xs : List Int} (h : BigAt w b neg xs) : IsBig w b := ⟨_, _, h.choose_spec.1⟩
theorem IsBig.lt {w : World} {b : Nat} (h : IsBig w b) : b < w.heap.size := by
  obtain ⟨_, _, h⟩ := h
  exact (Array.getElem?_eq_some_iff.1 h).1
theorem BigAt.lt {w : World} {b : Nat} {neg : Bool} {xs : List Int} (h : BigAt w b neg xs) : b < w.heap.size := h.is.lt
theorem BigAt.below {w w1 : World} {b : Nat} {neg : Bool} {xs : List Int} (h : BigAt w b neg xs) (hb : Below w.heap.size w w1) : BigAt w1 b neg xs := by
  obtain ⟨v, h1, h2⟩ := h
  exact ⟨v, (hb.block b (Array.getElem?_eq_some_iff.1 h1).1).trans h1, h2.below hb⟩
theorem BigAt.grown {w w1 : World} {b z : Nat} {neg : Bool} {xs : List Int} (h : BigAt w b neg xs) (hg : w.grownBy w1 (some z)) (hz : IsBig w z) (hne : b ≠ z) : BigAt w1 b neg xs := by
  obtain ⟨v, h1, h2⟩ := h
  refine ⟨v, (hg.block b (Array.getElem?_eq_some_iff.1 h1).1 ?_).trans h1, h2.grown hg hz⟩
  intro e
  injection e with e
  exact hne e
theorem IsBig.below {w w1 : World} {b : Nat} (h : IsBig w b) (hb : Below w.heap.size w w1) : IsBig w1 b := by
  have := h.lt
  obtain ⟨n, v, h⟩ := h
  exact ⟨n, v, (hb.block b this).trans h⟩
theorem IsBig.grown {w w1 : World} {b z : Nat} (h : IsBig w b) (hg : w.grownBy w1 (some z)) (hne : b ≠ z) : IsBig w1 b := by
  have hl := h.lt
  obtain ⟨n, v, h⟩ := h
  refine ⟨n, v, (hg.block b hl ?_).trans h⟩
  intro e
  injection e with e
  exact hne e
theorem grownBy_refl (w : World) (row : Option Nat) : w.grownBy w row := grown_of_below (Below.refl _ _) row
theorem grownBy_none {w w1 : World} (h : w.grownBy w1 none) : Below w.heap.size w w1 :=
  ⟨h.os, h.tape, h.output, h.size, fun i hi => h.block i hi (by simp)⟩
theorem below_grownBy {w w1 : World} (h : Below w.heap.size w w1) (row : Option Nat) : w.grownBy w1 row := grown_of_below h row
/-- What was written is a block made on the way: the old world is as it was. -/
theorem below_of_grown {w w1 w2 : World} {z : Nat} (h : Below w.heap.size w w1) (hg : w1.grownBy w2 (some z)) (hz : w.heap.size ≤ z) : Below w.heap.size w w2 :=
  pw_below_grown h (some z) h.size hg (by intro k hk; injection hk with hk; omega)
end Go.Proofs.Ytbmjakaoniegfaa.Big
