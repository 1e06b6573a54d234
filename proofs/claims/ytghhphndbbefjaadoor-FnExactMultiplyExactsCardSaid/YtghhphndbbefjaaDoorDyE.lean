/- The contracts of impl.isExact, impl.areSmall and of the sums and products of exact complex numbers in plain words. Conditions: at most 1000000000 limbs; the library's table holds its numbers. -/
import Derived.Test.YtghhphndbbefjaaDoorG27
namespace Go.Proofs.YtghhphndbbefjaaDoor
open Go.RowKit Go.Proofs.YtghhphndbbefjaaDoorW.PrintWords Go.Proofs.YtghhphndbbefjaaDoorW.PrintLast Go.Proofs.YtghhphndbbefjaaDoorW.PrintMore Go.Proofs.YtghhphndbbefjaaDoor.Math Go.Proofs.YtghhphndbbefjaaDoor.Big
set_option linter.unusedVariables false
set_option linter.unusedSimpArgs false
structure ExBox (w wr : World) (b : Nat) (s : Int) (A : Option Addr) (c : Nat) (l : List Int) (e t : Int) (B : Option Addr) (d : Nat) (m : List Int) (f : Int) : Prop where
 lo : Below w.heap.size w wr
 x : wr.heap[b]? = some (.cells #[.int .i64 s, .slice A l.length c, .int .i64 e, .int .i64 t, .slice B m.length d, .int .i64 f] 47 (0, 0))
theorem ExBox.start (w : World) (s : Int) (A : Option Addr) (c : Nat) (l : List Int) (e t : Int) (B : Option Addr) (d : Nat) (m : List Int) (f : Int) :
  ExBox w (w.alloc (.cells #[.int .i64 s, .slice A l.length c, .int .i64 e, .int .i64 t, .slice B m.length d, .int .i64 f] 47)) w.heap.size s A c l e t B d m f := ⟨(Below.refl _ _).alloc (Nat.le_refl _) _, heap_alloc_new w _⟩
theorem ExBox.below {w wr w1 : World} {b : Nat} {s : Int} {A : Option Addr} {c : Nat} {l : List Int} {e t : Int} {B : Option Addr} {d : Nat} {m : List Int} {f : Int} (h : ExBox w wr b s A c l e t B d m f) (hb : Below wr.heap.size wr w1) : ExBox w w1 b s A c l e t B d m f := ⟨h.lo.trans (hb.mono h.lo.size), blk_below h.x hb⟩
theorem ExBox.cells {w wr : World} {b : Nat} {s : Int} {A : Option Addr} {c : Nat} {l : List Int} {e t : Int} {B : Option Addr} {d : Nat} {m : List Int} {f : Int} (h : ExBox w wr b s A c l e t B d m f) :
  wr.cell? ⟨b, 0, none⟩ = some (.int .i64 s) ∧ wr.cell? ⟨b, 1, none⟩ = some (.slice A l.length c) ∧ wr.cell? ⟨b, 2, none⟩ = some (.int .i64 e) ∧ wr.cell? ⟨b, 3, none⟩ = some (.int .i64 t) ∧ wr.cell? ⟨b, 4, none⟩ = some (.slice B m.length d) ∧ wr.cell? ⟨b, 5, none⟩ = some (.int .i64 f) :=
 ⟨(blk_cell h.x 0).trans rfl, (blk_cell h.x 1).trans rfl, (blk_cell h.x 2).trans rfl, (blk_cell h.x 3).trans rfl, (blk_cell h.x 4).trans rfl, (blk_cell h.x 5).trans rfl⟩
set_option maxRecDepth 100000 in
set_option maxHeartbeats 2000000 in
theorem isExact_calls (s : Int) (A : Option Addr) (c : Nat) (l : List Int) (e t : Int) (B : Option Addr) (d : Nat) (m : List Int) (f : Int) (w : World) (hr : Kd.C (Kd.int .i64) w A l.length l) (hc : l.length ≤ c) (hl : l.length ≤ 1000000000) (hs : Kd.C (Kd.int .i64) w B m.length m) (hd : m.length ≤ d) (hm : m.length ≤ 1000000000) :
  Calls Tryd.prog 66 #[.agg #[.int .i64 s, .slice A l.length c, .int .i64 e, .int .i64 t, .slice B m.length d, .int .i64 f]] w fun x w' => x = .returned (.bool (isD s l e && isD t m f)) ∧ Below w.heap.size w w' := by
 have HR := Aside0.mk hr; have HS := Aside0.mk hs
 have X0 := Aside0.mk (ExBox.start w s A c l e t B d m f)
 obtain ⟨p0, p1, p2, p3, p4, p5⟩ := X0.out.cells
 clear hr hs
 cases hw : isD s l e
 ·have HW := Aside0.mk hw; clear hw
  go_enter Tryd.func66, Tryd.ntmps66
  go_wp2_with fail
  refine (isDyadic_of _ _ _ _ _ (Kd.C_below HR.out X0.out.lo) hc hl).mono ?_
  rintro x w1 ⟨rfl, hb⟩
  rw [HW.out]
  have X1 := Aside0.mk (X0.out.below hb)
  clear hb p0 p1 p2 p3 p4 p5
  go_wp2
  go_ret
  exact ⟨rfl, X1.out.lo⟩
 ·have HW := Aside0.mk hw; clear hw
  go_enter Tryd.func66, Tryd.ntmps66
  go_wp2_with fail
  refine (isDyadic_of _ _ _ _ _ (Kd.C_below HR.out X0.out.lo) hc hl).mono ?_
  rintro x w1 ⟨rfl, hb⟩
  rw [HW.out]
  have X1 := Aside0.mk (X0.out.below hb)
  clear hb p0 p1 p2 p3 p4 p5
  obtain ⟨p0, p1, p2, p3, p4, p5⟩ := X1.out.cells
  go_wp2_with fail
  refine (isDyadic_of _ _ _ _ _ (Kd.C_below HS.out X1.out.lo) hd hm).mono ?_
  rintro x w2 ⟨rfl, hb⟩
  have X2 := Aside0.mk (X1.out.below hb)
  clear hb p0 p1 p2 p3 p4 p5
  go_wp2
  go_ret
  exact ⟨by rw [Bool.true_and]; rfl, X2.out.lo⟩
structure NumRow (w wr : World) (g n : Nat) (Z : Nat → Nat) (V P : Nat → Int) : Prop where
 lo : Below w.heap.size w wr
 at_ : ∀ i, i < n → wr.cell? ⟨g, i * 2, none⟩ = some (.pointer (some ⟨Z i, 0, none⟩)) ∧ wr.cell? ⟨g, i * 2 + 1, none⟩ = some (.int .i64 (P i)) ∧ Big wr (Z i) (V i) 400 ∧ (-20000 ≤ P i ∧ P i ≤ 20000)
theorem NumRow.below {w wr w1 : World} {g n : Nat} {Z : Nat → Nat} {V P : Nat → Int} (h : NumRow w wr g n Z V P) (hb : Below wr.heap.size wr w1) : NumRow w w1 g n Z V P :=
 ⟨h.lo.trans (hb.mono h.lo.size), fun i hi => ⟨pw_cell_below hb (h.at_ i hi).1, pw_cell_below hb (h.at_ i hi).2.1, (h.at_ i hi).2.2.1.below hb, (h.at_ i hi).2.2.2⟩⟩
def fits (V P : Int) : Bool := (dyfit V P).2.2.2 == 0
def allfit (n : Nat) (V P : Nat → Int) : Bool := (List.range n).all fun i => fits (V i) (P i)
theorem allfit_true {n : Nat} {V P : Nat → Int} (h : ∀ j, j < n → fits (V j) (P j) = true) : allfit n V P = true := by
 unfold allfit
 rw [List.all_eq_true]
 intro i hi
 exact h i (List.mem_range.1 hi)
theorem allfit_false {n i : Nat} {V P : Nat → Int} (hi : i < n) (h : fits (V i) (P i) = false) : allfit n V P = false := by
 rw [Bool.eq_false_iff]
 intro g
 unfold allfit at g
 rw [List.all_eq_true] at g
 have := g i (List.mem_range.2 hi)
 rw [h] at this
 cases this
set_option maxRecDepth 100000 in
set_option maxHeartbeats 4000000 in
theorem areSmall_calls (g n c : Nat) (Z : Nat → Nat) (V P : Nat → Int) (w : World) (hn : n ≤ 1000) (hr : NumRow w w g n Z V P) (hT : Tab w) :
  Calls Tryd.prog 75 #[.slice (some ⟨g, 0, none⟩) n c] w fun x w' => x = .returned (.bool (allfit n V P)) ∧ Below w.heap.size w w' := by
 have N0 := Aside0.mk hr; have HT := Aside0.mk hT
 clear hr hT
 go_enter Tryd.func75, Tryd.ntmps75
 go_wp2
 go_loopg [9] (n + 1) (fun gk v9 wr => ∃ i : Nat, v9 = .int .i64 (i : Int) ∧ i ≤ n ∧ n < gk + i ∧ Aside0 (∀ j, j < i → fits (V j) (P j) = true) ∧ Aside0 (Below w.heap.size w wr))
 case atStart => exact ⟨0, rfl, Nat.zero_le _, by omega, ⟨fun j hj => absurd hj (Nat.not_lt_zero _)⟩, ⟨Below.refl _ _⟩⟩
 case round =>
  obtain ⟨i, rfl, hi, hgk, hall, hlo⟩ := hrel
  have ALL := hall
  have LO := hlo
  clear hall hlo
  by_cases hlt : i < n
  ·have N1 := Aside0.mk (N0.out.below LO.out)
   obtain ⟨p0, p1, hbig, hp⟩ := N1.out.at_ i hlt
   have HB := Aside0.mk hbig
   have hlt1 : (i : Int) < (n : Int) := by omega
   have hlt2 : ((i : Int) < (n : Int)) = True := by simp [hlt1]
   have hw1 : wrap64 ((i : Int) + 1) = ((i + 1 : Nat) : Int) := by rw [w64s (by omega) (by omega)]; omega
   clear hbig
   obtain ⟨r1, r2, r3, r4, hR⟩ : ∃ r1 r2 r3 r4, dyfit (V i) (P i) = (r1, r2, r3, r4) := ⟨_, _, _, _, rfl⟩
   have HR := Aside0.mk hR
   clear hR
   go_wp2_with fail
   have LA := Aside0.mk (LO.out.trans ((below_alloc (Below.refl wr.heap.size wr) (.cells #[.pointer (some ⟨Z i, 0, none⟩), .int .i64 (P i)] 90)).mono LO.out.size))
   refine (dyadic_calls (Z i) (V i) (P i) 400 _ (HB.out.below (below_alloc (Below.refl _ _) _)) (by omega) (by omega) (by omega) (HT.out.below LA.out) r1 r2 r3 r4 HR.out).mono ?_
   rintro x w2 ⟨v, rfl, hr, hb⟩
   obtain ⟨A1, c1, rfl⟩ := own_slice hr
   have L2 := Aside0.mk (LA.out.trans (hb.mono LA.out.size))
   clear hr hb
   by_cases hz : r4 = 0
   ·subst hz
    have FI := Aside0.mk (show fits (V i) (P i) = true from by unfold fits; rw [HR.out]; rfl)
    go_wp2
    go_roundg (gk - 1)
    case measure => omega
    case rel => exact ⟨i + 1, (by first | rfl | rw [hw1]), by omega, by omega, ⟨fun j hj => by rcases Nat.lt_or_eq_of_le (Nat.le_of_lt_succ hj) with h | h; exact ALL.out j h; rw [h]; exact FI.out⟩, ⟨L2.out.alloc L2.out.size _⟩⟩
   ·have hz2 : (r4 == 0) = false := by simpa using hz
    have hz3 : (r4 != 0) = true := by simpa using hz
    have FI := Aside0.mk (show fits (V i) (P i) = false from by unfold fits; rw [HR.out]; exact hz2)
    go_wp2
    go_ret
    exact ⟨by rw [allfit_false hlt FI.out]; rfl, L2.out.alloc L2.out.size _⟩
  ·have e : i = n := by omega
   subst e
   go_wp2
   go_ret
   exact ⟨by rw [allfit_true ALL.out]; rfl, LO.out⟩
structure NB (wr : World) (g b : Nat) (V p : Int) (m : Nat) : Prop where
 x : wr.heap[g]? = some (.cells #[.pointer (some ⟨b, 0, none⟩), .int .i64 p] 90 (0, 0))
 big : Big wr b V m
theorem NB.below {wr w1 : World} {g b : Nat} {V p : Int} {m : Nat} (h : NB wr g b V p m) (hb : Below wr.heap.size wr w1) : NB w1 g b V p m := ⟨blk_below h.x hb, h.big.below hb⟩
theorem NB.cells {wr : World} {g b : Nat} {V p : Int} {m : Nat} (h : NB wr g b V p m) : wr.cell? ⟨g, 0, none⟩ = some (.pointer (some ⟨b, 0, none⟩)) ∧ wr.cell? ⟨g, 1, none⟩ = some (.int .i64 p) := ⟨(blk_cell h.x 0).trans rfl, (blk_cell h.x 1).trans rfl⟩
end Go.Proofs.YtghhphndbbefjaaDoor
