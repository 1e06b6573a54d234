/- Short words for what printed walks say again and again: a fact behind draws, news and stores. No conditions. -/
import Derived.Test.YtghhphndbbefjaaDoorWMore
import Derived.Test.YtghhphndbbefjaaDoorWLast
namespace Go.Proofs.YtghhphndbbefjaaDoor.Sq
open Go.RowKit Go.Proofs.YtghhphndbbefjaaDoorW.PrintWords Go.Proofs.YtghhphndbbefjaaDoorW.PrintLast Go.Proofs.YtghhphndbbefjaaDoorW.PrintMore
set_option linter.unusedVariables false
set_option linter.unusedSimpArgs false

theorem am_ {p : Prop} (h : p) : Aside0 p := ⟨h⟩
/-- A block. -/
theorem bk_ {w w0 : World} {g : Nat} {o : Obj} (H : Aside0 (w0.heap[g]? = some o)) (h : w.heap[g]? = some o := by (repeat (first | (with_reducible first | refine blk_drewN ?_ _ | refine blk_drew ?_ | refine blk_alloc ?_ _) | refine blk_far ?_ (Aside0.out (by assumption)) _)); exact Aside0.out (by assumption)) : w.heap[g]? = some o := h
section
variable {α : Type} {d : Kd α} {e base : Nat} {ok ok' : Nat → Prop} {v : Value} {xs : List α}
/-- A row. -/
theorem kr_ {w w0 : World} (H : Aside0 (d.R e w0 base ok v xs)) (h : d.R e w base ok v xs := by (with_reducible repeat (first | apply Kd.R_alloc | apply Kd.R_drewN | apply Kd.R_drew)); exact Aside0.out (by assumption)) : d.R e w base ok v xs := h
/-- A row, less known of it. -/
theorem km_ {w w0 : World} (H : Aside0 (d.R e w0 base ok v xs)) (hp : ∀ k, ok k → ok' k) (h : d.R e w base ok v xs := by (with_reducible repeat (first | apply Kd.R_alloc | apply Kd.R_drewN | apply Kd.R_drew)); exact Aside0.out (by assumption)) : d.R e w base ok' v xs := Kd.R_mono h hp
theorem rg2_ {w : World} {g t : Nat} {cells : Array Value} {a b : Value} (H : d.R e w base ok v xs) (B : w.heap[g]? = some (.cells cells t (0, 0))) (ht : ∀ q, q ∈ e :: d.E → q ≠ t) : d.R e ((w.setCell ⟨g, 0, none⟩ a).setCell ⟨g, 1, none⟩ b) base ok v xs :=
  Kd.R_mono (Kd.R_far (p := ⟨g, 1, none⟩) (Kd.R_far (p := ⟨g, 0, none⟩) (Kd.R_types H B ht) (fun _ hk => hk.2) a) (fun _ hk => hk.2) b) (fun _ h_ => h_.1)
/-- A row behind a store into a block of another type. -/
theorem rg_ {w w0 : World} {g t : Nat} {cells : Array Value} {a b : Value} (H : Aside0 (d.R e w0 base ok v xs)) (B : Aside0 (w0.heap[g]? = some (.cells cells t (0, 0)))) (ht : ∀ q, q ∈ e :: d.E → q ≠ t := by decide)
    (h : d.R e ((w0.setCell ⟨g, 0, none⟩ a).setCell ⟨g, 1, none⟩ b) base ok v xs → d.R e w base ok v xs := by intro h; (with_reducible repeat (first | apply Kd.R_alloc | apply Kd.R_drewN | apply Kd.R_drew)); exact h) : d.R e w base ok v xs := h (rg2_ H.out B.out ht)
end
/-- What has come since. -/
theorem bl_ {w w0 w1 : World} {n : Nat} (H : Aside0 (Below n w w0)) (h : Below n w w1 := by repeat (first | (with_reducible first | exact Aside0.out (by assumption) | apply below_alloc | apply pw_below_drewN | apply below_drew1 | refine below_set ?_ (Aside0.out (by assumption))) | exact Aside0.out (by assumption))) : Below n w w1 := h
theorem ma_ {a b : Array Value} (h : a = b := by (try simp only [List.map_toArray, List.map_cons, List.map_nil]); first | done | rfl | (simp only [List.length_drop, List.length_take]; rfl)) : a = b := h
theorem nm_ {a b : Act} (h : a = b := by simp only [Act.put, List.setIfInBounds_toArray, List.set_cons_zero, List.set_cons_succ, i64_w, i32_w]; rfl) : a = b := h
theorem nl_ {w w0 : World} {g g' : Nat} {o : Obj} (hg : g' = w.heap.size) (H : Aside0 (w0.heap[g]? = some o)) (h : w.heap[g]? = some o := by (repeat (first | (with_reducible first | refine blk_drewN ?_ _ | refine blk_drew ?_ | refine blk_alloc ?_ _) | refine blk_far ?_ (Aside0.out (by assumption)) _)); exact Aside0.out (by assumption)) : g ≠ g' := by rw [hg]; exact Nat.ne_of_lt (blk_lt h)
theorem ng_ {w w0 : World} {g g' : Nat} {o : Obj} (hg : g' = w.heap.size) (H : Aside0 (w0.heap[g]? = some o)) (h : w.heap[g]? = some o := by (repeat (first | (with_reducible first | refine blk_drewN ?_ _ | refine blk_drew ?_ | refine blk_alloc ?_ _) | refine blk_far ?_ (Aside0.out (by assumption)) _)); exact Aside0.out (by assumption)) : g' ≠ g := by rw [hg]; exact Nat.ne_of_gt (blk_lt h)
theorem gs_ {w w0 w1 : World} {g : Nat} (hg : g = w1.heap.size) (H : Aside0 (Below w.heap.size w w0)) (h : Below w.heap.size w w1 := by repeat (first | (with_reducible first | exact Aside0.out (by assumption) | apply below_alloc | apply pw_below_drewN | apply below_drew1 | refine below_set ?_ (Aside0.out (by assumption))) | exact Aside0.out (by assumption))) : w.heap.size ≤ g := by rw [hg]; exact below_size h
/-- A cell of a block. -/
theorem bc_ {w : World} {g t : Nat} {cs : Array Value} {v : Option Value} (H : Aside0 (w.heap[g]? = some (.cells cs t (0, 0)))) (i : Nat) (h : cs[i]? = v := by rfl) : w.cell? ⟨g, i, none⟩ = v := (blk_cell H.out i).trans h
theorem bq2_ {w : World} {g t : Nat} {a b a0 b0 : Value} (H : w.heap[g]? = some (.cells #[a0, b0] t (0, 0))) : ((w.setCell ⟨g, 0, none⟩ a).setCell ⟨g, 1, none⟩ b).heap[g]? = some (.cells #[a, b] t (0, 0)) := blk_put (blk_put H 0 a rfl) 1 b rfl
/-- A block behind a store of all its cells. -/
theorem bp2_ {w w0 : World} {g t : Nat} {a b a0 b0 : Value} (H : Aside0 (w0.heap[g]? = some (.cells #[a0, b0] t (0, 0))))
    (h : ((w0.setCell ⟨g, 0, none⟩ a).setCell ⟨g, 1, none⟩ b).heap[g]? = some (.cells #[a, b] t (0, 0)) → w.heap[g]? = some (.cells #[a, b] t (0, 0)) := by intro h; (with_reducible repeat (first | refine blk_drewN ?_ _ | refine blk_drew ?_ | refine blk_alloc ?_ _)); exact h) : w.heap[g]? = some (.cells #[a, b] t (0, 0)) := h (bq2_ H.out)
section
variable {α : Type} {d : Kd α} {e base : Nat} {ok ok' : Nat → Prop} {v : Value} {xs : List α}
theorem rt_ {w w0 : World} {g t : Nat} {cells : Array Value} {a b : Value} (H : Aside0 (d.R e w0 base ok v xs)) (B : Aside0 (w0.heap[g]? = some (.cells cells t (0, 0)))) (ht : ∀ q, q ∈ e :: d.E → q ≠ t := by decide)
    (h : d.R e ((w0.setCell ⟨g, 0, none⟩ a).setCell ⟨g, 1, none⟩ b) base ok v xs → d.R e w base ok v xs := by intro h; (with_reducible repeat (first | apply Kd.R_alloc | apply Kd.R_drewN | apply Kd.R_drew)); exact h) : d.R e w base (fun _ => True) v xs := Kd.R_mono (h (rg2_ H.out B.out ht)) (fun _ _ => trivial)
/-- What is read at a call. -/
theorem cb_ {w w0 w1 : World} {A : Option Addr} {n : Nat} (H : Aside0 (d.C w A n xs)) (B : Aside0 (Below w.heap.size w w0)) (h : d.C w0 A n xs → d.C w1 A n xs := by intro h; repeat (first | exact h | (with_reducible refine Kd.C_alloc ?_ _) | (with_reducible refine Kd.C_drewN ?_ _) | (with_reducible refine Kd.C_drew ?_))) : d.C w1 A n xs := h (Kd.C_below H.out B.out)
theorem cr_ {w0 w1 : World} {A : Option Addr} {n c : Nat} (H : Aside0 (d.R e w0 base ok (.slice A n c) xs)) (h : d.C w0 A xs.length xs → d.C w1 A xs.length xs := by intro h; repeat (first | exact h | (with_reducible refine Kd.C_alloc ?_ _) | (with_reducible refine Kd.C_drewN ?_ _) | (with_reducible refine Kd.C_drew ?_))) : d.C w1 A xs.length xs := h (Kd.R_reads' H.out).2.2
end
end Go.Proofs.YtghhphndbbefjaaDoor.Sq
