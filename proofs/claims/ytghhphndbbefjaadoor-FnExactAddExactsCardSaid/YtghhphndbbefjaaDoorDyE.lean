/- The contracts of impl.isExact, impl.areSmall and of the sums and products of exact complex numbers in plain words. Conditions: at most 1000000000 limbs; the library's table holds its numbers. -/
import Derived.Test.YtghhphndbbefjaaDoorG27
namespace Go.Proofs.YtghhphndbbefjaaDoor
open Go.RowKit Go.Proofs.YtghhphndbbefjaaDoorW.PrintWords Go.Proofs.YtghhphndbbefjaaDoorW.PrintLast Go.Proofs.YtghhphndbbefjaaDoorW.PrintMore Go.Proofs.YtghhphndbbefjaaDoor.Math Go.Proofs.YtghhphndbbefjaaDoor.Big
set_option linter.unusedVariables false
set_option linter.unusedSimpArgs false
structure ExBox (w wr : World) (b : Nat) (s : Int) (A : Option Addr) (c : Nat) (l : List Int) (e t : Int) (B : Option Addr) (d : Nat) (m : List Int) (f : Int) : Prop where
 lo : Below w.heap.size w wr
 x : wr.heap[b]? = some (.cells #[.int .i64 s, .slice A l.length c, .int .i64 e, .int .i64 t, .slice B m.length d, .int .i64 f] 47 (0, 0))
theorem ExBox.start (w : World) (s : Int) (A : Option Addr) (c : Nat) (l : List Int) (e t : Int) (B : Option Addr) (d : Nat) (m : List Int) (f : Int) :
  ExBox w (w.alloc (.cells #[.int .i64 s, .slice A l.length c, .int .i64 e, .int .i64 t, .slice B m.length d, .int .i64 f] 47)) w.heap.size s A c l e t B d m f := ⟨(Below.refl _ _).alloc (Nat.le_refl _) _, heap_alloc_new w _⟩
theorem ExBox.below {w wr w1 : World} {b : Nat} {s : Int} {A : Option Addr} {c : Nat} {l : List Int} {e t : Int} {B : Option Addr} {d : Nat} {m : List Int} {f : Int} (h : ExBox w wr b s A c l e t B d m f) (hb : Below wr.heap.size wr w1) : ExBox w w1 b s A c l e t B d m f := ⟨h.lo.trans (hb.mono h.lo.size), blk_below h.x hb⟩
theorem ExBox.cells {w wr : World} {b : Nat} {s : Int} {A : Option Addr} {c : Nat} {l : List Int} {e t : Int} {B : Option Addr} {d : Nat} {m : List Int} {f : Int} (h : ExBox w wr b s A c l e t B d m f) :
  wr.cell? ⟨b, 0, none⟩ = some (.int .i64 s) ∧ wr.cell? ⟨b, 1, none⟩ = some (.slice A l.length c) ∧ wr.cell? ⟨b, 2, none⟩ = some (.int .i64 e) ∧ wr.cell? ⟨b, 3, none⟩ = some (.int .i64 t) ∧ wr.cell? ⟨b, 4, none⟩ = some (.slice B m.length d) ∧ wr.cell? ⟨b, 5, none⟩ = some (.int .i64 f) :=
 ⟨(blk_cell h.x 0).trans rfl, (blk_cell h.x 1).trans rfl, (blk_cell h.x 2).trans rfl, (blk_cell h.x 3).trans rfl, (blk_cell h.x 4).trans rfl, (blk_cell h.x 5).trans rfl⟩
set_option maxRecDepth 100000 in
set_option maxHeartbeats 2000000 in
theorem isExact_calls (s : Int) (A : Option Addr) (c : Nat) (l : List Int) (e t : Int) (B : Option Addr) (d : Nat) (m : List Int) (f : Int) (w : World) (hr : Kd.C (Kd.int .i64) w A l.length l) (hc : l.length ≤ c) (hl : l.length ≤ 1000000000) (hs : Kd.C (Kd.int .i64) w B m.length m) (hd : m.length ≤ d) (hm : m.length ≤ 1000000000) :
  Calls Tryd.prog 66 #[.agg #[.int .i64 s, .slice A l.length c, .int .i64 e, .int .i64 t, .slice B m.length d, .int .i64 f]] w fun x w' => x = .returned (.bool (isD s l e && isD t m f)) ∧ Below w.heap.size w w' := by
 have HR := Aside0.mk hr; have HS := Aside0.mk hs
 have X0 := Aside0.mk (ExBox.start w s A c l e t B d m f)
 obtain ⟨p0, p1, p2, p3, p4, p5⟩ := X0.out.cells
 clear hr hs
 cases hw : isD s l e
 ·have HW := Aside0.mk hw; clear hw
  go_enter Tryd.func66, Tryd.ntmps66
  go_wp2_with fail
  refine (isDyadic_of _ _ _ _ _ (Kd.C_below HR.out X0.out.lo) hc hl).mono ?_
  rintro x w1 ⟨rfl, hb⟩
  rw [HW.out]
  have X1 := Aside0.mk (X0.out.below hb)
  clear hb p0 p1 p2 p3 p4 p5
  go_wp2
  go_ret
  exact ⟨rfl, X1.out.lo⟩
 ·have HW := Aside0.mk hw; clear hw
  go_enter Tryd.func66, Tryd.ntmps66
  go_wp2_with fail
  refine (isDyadic_of _ _ _ _ _ (Kd.C_below HR.out X0.out.lo) hc hl).mono ?_
  rintro x w1 ⟨rfl, hb⟩
  rw [HW.out]
  have X1 := Aside0.mk (X0.out.below hb)
  clear hb p0 p1 p2 p3 p4 p5
  obtain ⟨p0, p1, p2, p3, p4, p5⟩ := X1.out.cells
  go_wp2_with fail
  refine (isDyadic_of _ _ _ _ _ (Kd.C_below HS.out X1.out.lo) hd hm).mono ?_
  rintro x w2 ⟨rfl, hb⟩
  have X2 := Aside0.mk (X1.out.below hb)
  clear hb p0 p1 p2 p3 p4 p5
  go_wp2
  go_ret
  exact ⟨by rw [Bool.true_and]; rfl, X2.out.lo⟩
structure NumRow (w wr : World) (g n : Nat) (Z : Nat → Nat) (V P : Nat → Int) : Prop where
 lo : Below w.heap.size w wr
 at_ : ∀ i, i < n → wr.cell? ⟨g, i * 2, none⟩ = some (.pointer (some ⟨Z i, 0, none⟩)) ∧ wr.cell? ⟨g, i * 2 + 1, none⟩ = some (.int .i64 (P i)) ∧ Big wr (Z i) (V i) 400 ∧ (-20000 ≤ P i ∧ P i ≤ 20000)
theorem NumRow.below {w wr w1 : World} {g n : Nat} {Z : Nat → Nat} {V P : Nat → Int} (h : NumRow w wr g n Z V P) (hb : Below wr.heap.size wr w1) : NumRow w w1 g n Z V P :=
 ⟨h.lo.trans (hb.mono h.lo.size), fun i hi => ⟨pw_cell_below hb (h.at_ i hi).1, pw_cell_below hb (h.at_ i hi).2.1, (h.at_ i hi).2.2.1.below hb, (h.at_ i hi).2.2.2⟩⟩
def fits (V P : Int) : Bool := (dyfit V P).2.2.2 == 0
end Go.Proofs.YtghhphndbbefjaaDoor
