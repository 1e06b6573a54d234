/- Short words for what printed walks say again and again: a fact behind draws, news and stores. No conditions. -/
import Derived.Test.YtdbdhgimokaooaaDoorG4
import Derived.Test.YtdbdhgimokaooaaDoorWLast
import Derived.Test.YtdbdhgimokaooaaDoorWWords
namespace Go.Proofs.YtdbdhgimokaooaaDoor.Sq
open Go.RowKit Go.Proofs.YtdbdhgimokaooaaDoorW.PrintWords Go.Proofs.YtdbdhgimokaooaaDoorW.PrintLast Go.Proofs.YtdbdhgimokaooaaDoorW.PrintMore
set_option linter.unusedVariables false
set_option linter.unusedSimpArgs false
theorem am_ {p : Prop} (h : p) : Aside0 p := ⟨h⟩
theorem bk_ {w w0 : World} {g : Nat} {o : Obj} (H : Aside0 (w0.heap[g]? = some o)) (h : w.heap[g]? = some o := by (repeat (first | (with_reducible first | refine blk_drewN ?_ _ | refine blk_drew ?_ | refine blk_alloc ?_ _) | refine blk_far ?_ (Aside0.out (by assumption)) _)); exact Aside0.out (by assumption)) : w.heap[g]? = some o := h
section
variable {α : Type} {d : Kd α} {e base : Nat} {ok ok' : Nat → Prop} {v : Value} {xs : List α}
theorem kr_ {w w0 : World} (H : Aside0 (d.R e w0 base ok v xs)) (h : d.R e w base ok v xs := by (with_reducible repeat (first | apply Kd.R_alloc | apply Kd.R_drewN | apply Kd.R_drew)); exact Aside0.out (by assumption)) : d.R e w base ok v xs := h
theorem rg2_ {w : World} {g t : Nat} {cells : Array Value} {a b : Value} (H : d.R e w base ok v xs) (B : w.heap[g]? = some (.cells cells t (0, 0))) (ht : ∀ q, q ∈ e :: d.E → q ≠ t) : d.R e ((w.setCell ⟨g, 0, none⟩ a).setCell ⟨g, 1, none⟩ b) base ok v xs :=
 Kd.R_mono (Kd.R_far (p := ⟨g, 1, none⟩) (Kd.R_far (p := ⟨g, 0, none⟩) (Kd.R_types H B ht) (fun _ hk => hk.2) a) (fun _ hk => hk.2) b) (fun _ h_ => h_.1)
end
theorem bl_ {w w0 w1 : World} {n : Nat} (H : Aside0 (Below n w w0)) (h : Below n w w1 := by repeat (first | (with_reducible first | exact Aside0.out (by assumption) | apply below_alloc | apply pw_below_drewN | apply below_drew1 | refine below_set ?_ (Aside0.out (by assumption))) | exact Aside0.out (by assumption))) : Below n w w1 := h
theorem ma_ {a b : Array Value} (h : a = b := by (try simp only [List.map_toArray, List.map_cons, List.map_nil]); first | done | rfl | (simp only [List.length_drop, List.length_take]; rfl)) : a = b := h
theorem gs_ {w w0 w1 : World} {g : Nat} (hg : g = w1.heap.size) (H : Aside0 (Below w.heap.size w w0)) (h : Below w.heap.size w w1 := by repeat (first | (with_reducible first | exact Aside0.out (by assumption) | apply below_alloc | apply pw_below_drewN | apply below_drew1 | refine below_set ?_ (Aside0.out (by assumption))) | exact Aside0.out (by assumption))) : w.heap.size ≤ g := by rw [hg]; exact below_size h
theorem bc_ {w : World} {g t : Nat} {cs : Array Value} {v : Option Value} (H : Aside0 (w.heap[g]? = some (.cells cs t (0, 0)))) (i : Nat) (h : cs[i]? = v := by rfl) : w.cell? ⟨g, i, none⟩ = v := (blk_cell H.out i).trans h
theorem bq2_ {w : World} {g t : Nat} {a b a0 b0 : Value} (H : w.heap[g]? = some (.cells #[a0, b0] t (0, 0))) : ((w.setCell ⟨g, 0, none⟩ a).setCell ⟨g, 1, none⟩ b).heap[g]? = some (.cells #[a, b] t (0, 0)) := blk_put (blk_put H 0 a rfl) 1 b rfl
theorem bq3_ {w : World} {g t : Nat} {a b c a0 b0 c0 : Value} (H : w.heap[g]? = some (.cells #[a0, b0, c0] t (0, 0))) : (((w.setCell ⟨g, 0, none⟩ a).setCell ⟨g, 1, none⟩ b).setCell ⟨g, 2, none⟩ c).heap[g]? = some (.cells #[a, b, c] t (0, 0)) := blk_put (blk_put (blk_put H 0 a rfl) 1 b rfl) 2 c rfl
theorem bp2_ {w w0 : World} {g t : Nat} {a b a0 b0 : Value} (H : Aside0 (w0.heap[g]? = some (.cells #[a0, b0] t (0, 0))))
  (h : ((w0.setCell ⟨g, 0, none⟩ a).setCell ⟨g, 1, none⟩ b).heap[g]? = some (.cells #[a, b] t (0, 0)) → w.heap[g]? = some (.cells #[a, b] t (0, 0)) := by intro h; (with_reducible repeat (first | refine blk_drewN ?_ _ | refine blk_drew ?_ | refine blk_alloc ?_ _)); exact h) : w.heap[g]? = some (.cells #[a, b] t (0, 0)) := h (bq2_ H.out)
theorem bp3_ {w w0 : World} {g t : Nat} {a b c a0 b0 c0 : Value} (H : Aside0 (w0.heap[g]? = some (.cells #[a0, b0, c0] t (0, 0))))
  (h : (((w0.setCell ⟨g, 0, none⟩ a).setCell ⟨g, 1, none⟩ b).setCell ⟨g, 2, none⟩ c).heap[g]? = some (.cells #[a, b, c] t (0, 0)) → w.heap[g]? = some (.cells #[a, b, c] t (0, 0)) := by intro h; (with_reducible repeat (first | refine blk_drewN ?_ _ | refine blk_drew ?_ | refine blk_alloc ?_ _)); exact h) : w.heap[g]? = some (.cells #[a, b, c] t (0, 0)) := h (bq3_ H.out)
section
variable {α : Type} {d : Kd α} {e base : Nat} {ok ok' : Nat → Prop} {v : Value} {xs : List α}
theorem rt_ {w w0 : World} {g t : Nat} {cells : Array Value} {a b : Value} (H : Aside0 (d.R e w0 base ok v xs)) (B : Aside0 (w0.heap[g]? = some (.cells cells t (0, 0)))) (ht : ∀ q, q ∈ e :: d.E → q ≠ t := by decide)
  (h : d.R e ((w0.setCell ⟨g, 0, none⟩ a).setCell ⟨g, 1, none⟩ b) base ok v xs → d.R e w base ok v xs := by intro h; (with_reducible repeat (first | apply Kd.R_alloc | apply Kd.R_drewN | apply Kd.R_drew)); exact h) : d.R e w base (fun _ => True) v xs := Kd.R_mono (h (rg2_ H.out B.out ht)) (fun _ _ => trivial)
theorem cb_ {w w0 w1 : World} {A : Option Addr} {n : Nat} (H : Aside0 (d.C w A n xs)) (B : Aside0 (Below w.heap.size w w0)) (h : d.C w0 A n xs → d.C w1 A n xs := by intro h; repeat (first | exact h | (with_reducible refine Kd.C_alloc ?_ _) | (with_reducible refine Kd.C_drewN ?_ _) | (with_reducible refine Kd.C_drew ?_))) : d.C w1 A n xs := h (Kd.C_below H.out B.out)
theorem cr_ {w0 w1 : World} {A : Option Addr} {n c : Nat} (H : Aside0 (d.R e w0 base ok (.slice A n c) xs)) (h : d.C w0 A xs.length xs → d.C w1 A xs.length xs := by intro h; repeat (first | exact h | (with_reducible refine Kd.C_alloc ?_ _) | (with_reducible refine Kd.C_drewN ?_ _) | (with_reducible refine Kd.C_drew ?_))) : d.C w1 A xs.length xs := h (Kd.R_reads' H.out).2.2
end
theorem ck2_ {w : World} {g t : Nat} {a b : Value} (H : Aside0 (w.heap[g]? = some (.cells #[a, b] t (0, 0)))) : w.cell? ⟨g, 0, none⟩ = some a ∧ w.cell? ⟨g, 1, none⟩ = some b ∧ w.frozen? ⟨g, 0, none⟩ = false ∧ w.frozen? ⟨g, 1, none⟩ = false :=
 ⟨(blk_cell H.out 0).trans rfl, (blk_cell H.out 1).trans rfl, blk_frozen H.out 0, blk_frozen H.out 1⟩
theorem ck3_ {w : World} {g t : Nat} {a b c : Value} (H : Aside0 (w.heap[g]? = some (.cells #[a, b, c] t (0, 0)))) : w.cell? ⟨g, 0, none⟩ = some a ∧ w.cell? ⟨g, 1, none⟩ = some b ∧ w.cell? ⟨g, 2, none⟩ = some c ∧ w.frozen? ⟨g, 0, none⟩ = false ∧ w.frozen? ⟨g, 1, none⟩ = false ∧ w.frozen? ⟨g, 2, none⟩ = false :=
 ⟨(blk_cell H.out 0).trans rfl, (blk_cell H.out 1).trans rfl, (blk_cell H.out 2).trans rfl, blk_frozen H.out 0, blk_frozen H.out 1, blk_frozen H.out 2⟩
theorem bx_ {P : Program} {ops : Array Oper} {Q : Exit → Act → World → Prop} {rest : List Oper} {o : Oper} {a : Act} {W : World} (N : Tmp) (cs : Array Value) (t : Nat)
  (h : ∀ g, g = W.heap.size → ∀ w1, w1.heap[g]? = some (.cells cs t (0, 0)) → Below W.heap.size W w1 → wpList P ops Q rest (a.put o.dst (.pointer (some ⟨g, 0, none⟩))) w1)
  (hgd : o.guard = none := by rfl) (hd : o.dst = some N := by rfl)
  (hrun : (execOp a.eval o).run P W = .ok (.value (.pointer (some ⟨W.heap.size, 0, none⟩))) (W.alloc (.cells cs t (0, 0))) := by first | (go_simp; done) | (go_simp; rfl)) : wpList P ops Q (o :: rest) a W :=
 box_event hgd hd hrun h
theorem bb_ {w w0 w1 : World} {g : Nat} {o : Obj} (H : Aside0 (w0.heap[g]? = some o)) (hb : Below w.heap.size w w1) (h : w.heap[g]? = some o := by (repeat (first | (with_reducible first | refine blk_drewN ?_ _ | refine blk_drew ?_ | refine blk_alloc ?_ _) | refine blk_far ?_ (Aside0.out (by assumption)) _)); exact Aside0.out (by assumption)) : Aside0 (w1.heap[g]? = some o) := ⟨blk_below h hb⟩
theorem bs_ {w w0 w1 w2 : World} (H : Aside0 (Below w.heap.size w w0)) (hb : Below w1.heap.size w1 w2) (h : Below w.heap.size w w1 := by repeat (first | (with_reducible first | exact Aside0.out (by assumption) | apply below_alloc | apply pw_below_drewN | apply below_drew1 | refine below_set ?_ (Aside0.out (by assumption))) | exact Aside0.out (by assumption))) : Aside0 (Below w.heap.size w w2) := ⟨below_step h hb⟩
theorem nn_ {w w0 : World} {g g' : Nat} {o : Obj} (hg : g' = w.heap.size) (H : Aside0 (w0.heap[g]? = some o)) (h : w.heap[g]? = some o := by (repeat (first | (with_reducible first | refine blk_drewN ?_ _ | refine blk_drew ?_ | refine blk_alloc ?_ _) | refine blk_far ?_ (Aside0.out (by assumption)) _)); exact Aside0.out (by assumption)) : Aside0 (g ≠ g') ∧ Aside0 (g' ≠ g) := ⟨⟨by rw [hg]; exact Nat.ne_of_lt (blk_lt h)⟩, ⟨by rw [hg]; exact Nat.ne_of_gt (blk_lt h)⟩⟩
theorem nb_ {w w0 w1 w2 : World} {g : Nat} {o : Obj} (hbox : w2.heap[g]? = some o) (hg : g = w1.heap.size) (H : Aside0 (Below w.heap.size w w0)) (h : Below w.heap.size w w1 := by repeat (first | (with_reducible first | exact Aside0.out (by assumption) | apply below_alloc | apply pw_below_drewN | apply below_drew1 | refine below_set ?_ (Aside0.out (by assumption))) | exact Aside0.out (by assumption))) : Aside0 (w2.heap[g]? = some o) ∧ Aside0 (w.heap.size ≤ g) ∧ Aside0 (w.heap.size ≤ g) :=
 ⟨⟨hbox⟩, ⟨by rw [hg]; exact below_size h⟩, ⟨by rw [hg]; exact below_size h⟩⟩
end Go.Proofs.YtdbdhgimokaooaaDoor.Sq
namespace Go.Proofs.YtdbdhgimokaooaaDoor
open Go.RowKit Go.Proofs.YtdbdhgimokaooaaDoorW.PrintWords Go.Proofs.YtdbdhgimokaooaaDoorW.PrintLast Go.Proofs.YtdbdhgimokaooaaDoorW.PrintMore
set_option linter.unusedVariables false
set_option linter.unusedSimpArgs false
def NeRow (v u : Value) : Prop := ∀ k, some k = v.ownBlock → some k ≠ u.ownBlock
theorem NeRow.of {wa wb : World} {base : Nat} {ok ok' : Nat → Prop} {v u : Value} {l m : List Int} (hv : Kd.R (Kd.int .i64) 2 wa base ok v l) (hu : Kd.R (Kd.int .i64) 2 wb wa.heap.size ok' u m) : NeRow v u := by
 intro k hk hk2
 have h1 := Kd.R_lt hv k hk.symm
 have h2 := Kd.R_base hu k hk2.symm
 omega
theorem NeRow.symm {v u : Value} (h : NeRow v u) : NeRow u v := fun k hk hk2 => h k hk2 hk
structure RO (w wr : World) (v : Value) (l : List Int) : Prop where
 row : Kd.R (Kd.int .i64) 2 wr w.heap.size (fun k => some k = v.ownBlock) v l
theorem RO.of {w wr : World} {base : Nat} {ok : Nat → Prop} {v : Value} {l : List Int} (h : Kd.R (Kd.int .i64) 2 wr base ok v l) (hb : w.heap.size ≤ base) : RO w wr v l := ⟨Kd.R_tight rfl (Kd.R_lower h hb)⟩
theorem RO.below {w wr w1 : World} {v : Value} {l : List Int} (h : RO w wr v l) (hb : Below wr.heap.size wr w1) : RO w w1 v l := ⟨Kd.R_below h.row hb⟩
theorem RO.kept {w wr w1 : World} {v u : Value} {l : List Int} (h : RO w wr v l) (hk : Kept wr w1 (fun k => some k = u.ownBlock)) (hv : NeRow v u) : RO w w1 v l := ⟨Kd.R_kept h.row hk hv⟩
theorem RO.reads {w wr : World} {A : Option Addr} {n c : Nat} {l : List Int} (h : RO w wr (.slice A n c) l) : n = l.length ∧ n ≤ c ∧ Kd.C (Kd.int .i64) wr A l.length l := Kd.R_reads' h.row
theorem RO.c {w wr : World} {A : Option Addr} {c : Nat} {l : List Int} (h : RO w wr (.slice A l.length c) l) : Kd.C (Kd.int .i64) wr A l.length l := h.reads.2.2
theorem RO.le {w wr : World} {A : Option Addr} {c : Nat} {l : List Int} (h : RO w wr (.slice A l.length c) l) : l.length ≤ c := h.reads.2.1
structure BX (wr : World) (b : Nat) (cs : Array Value) (T : TypeId) : Prop where
 x : wr.heap[b]? = some (.cells cs T (0, 0))
theorem BX.below {wr w1 : World} {b : Nat} {cs : Array Value} {T : TypeId} (h : BX wr b cs T) (hb : Below wr.heap.size wr w1) : BX w1 b cs T := ⟨blk_below h.x hb⟩
theorem BX.kept {w wr w1 : World} {b : Nat} {cs : Array Value} {T : TypeId} {u : Value} {m : List Int} (h : BX wr b cs T) (hu : RO w wr u m) (hT : 2 ≠ T) (hk : Kept wr w1 (fun k => some k = u.ownBlock)) : BX w1 b cs T := ⟨blk_kept h.x hk (Kd.R_ne hu.row h.x hT)⟩
theorem BX.cell {wr : World} {b : Nat} {cs : Array Value} {T : TypeId} (h : BX wr b cs T) (i : Nat) (v : Value) (hv : cs[i]? = some v) : wr.cell? ⟨b, i, none⟩ = some v := (blk_cell h.x i).trans hv
theorem new_box (w : World) (cs : Array Value) (T : TypeId) : ∃ w' g, w' = w.alloc (.cells cs T) ∧ g = w.heap.size ∧ BX w' g cs T ∧ Below w.heap.size w w' := ⟨_, _, rfl, rfl, ⟨heap_alloc_new w _⟩, below_alloc (Below.refl _ _) _⟩
theorem NeRow.two {w : World} {base : Nat} {v u : Value} {l : List Int} (h : Kd.R (Kd.int .i64) 2 w base (fun k => some k ≠ u.ownBlock) v l) : NeRow v u := fun k hk => h.1 k hk.symm
theorem RO.kept2 {w wr w1 : World} {v u u' : Value} {l : List Int} (h : RO w wr v l) (hk : Kept wr w1 (fun k => some k = u.ownBlock ∨ some k = u'.ownBlock)) (hv : NeRow v u) (hv' : NeRow v u') : RO w w1 v l := ⟨Kd.R_kept h.row hk (fun k ho hs => hs.elim (hv k ho) (hv' k ho))⟩
theorem BX.kept2 {w wr w1 : World} {b : Nat} {cs : Array Value} {T : TypeId} {u u' : Value} {m m' : List Int} (h : BX wr b cs T) (hu : RO w wr u m) (hu' : RO w wr u' m') (hT : 2 ≠ T) (hk : Kept wr w1 (fun k => some k = u.ownBlock ∨ some k = u'.ownBlock)) : BX w1 b cs T := ⟨blk_kept h.x hk (fun hs => hs.elim (Kd.R_ne hu.row h.x hT) (Kd.R_ne hu'.row h.x hT))⟩
theorem set3 {w wr : World} {g : Nat} (h : Below w.heap.size w wr) (hg : w.heap.size ≤ g) (a v e : Value) : Below w.heap.size w (((wr.setCell ⟨g, 0, none⟩ a).setCell ⟨g, 1, none⟩ v).setCell ⟨g, 2, none⟩ e) :=
 ((h.setCell (show w.heap.size ≤ (⟨g, 0, none⟩ : Addr).block from hg) _).setCell (show w.heap.size ≤ (⟨g, 1, none⟩ : Addr).block from hg) _).setCell (show w.heap.size ≤ (⟨g, 2, none⟩ : Addr).block from hg) _
theorem RO.far {w wr : World} {v : Value} {l : List Int} {g : Nat} {cs : Array Value} {T : TypeId} (h : RO w wr v l) (hb : BX wr g cs T) (hT : 2 ≠ T) (i : Nat) (u : Value) : RO w (wr.setCell ⟨g, i, none⟩ u) v l :=
 ⟨Kd.R_far h.row (fun k hk e => Kd.R_ne h.row hb.x hT (by rw [← hk]; exact congrArg some e.symm)) u⟩
theorem BX.far {wr : World} {b g : Nat} {cs : Array Value} {T : TypeId} (h : BX wr b cs T) (hne : b ≠ g) (i : Nat) (u : Value) : BX (wr.setCell ⟨g, i, none⟩ u) b cs T := ⟨blk_far h.x hne u⟩
theorem RO.fin {w wr : World} {v : Value} {l : List Int} {g : Nat} {x0 x1 x2 : Value} {T : TypeId} (h : RO w wr v l) (hb : wr.heap[g]? = some (.cells #[x0, x1, x2] T (0, 0))) (hT : 2 ≠ T) (a u e : Value) :
  Kd.R (Kd.int .i64) 2 (((wr.setCell ⟨g, 0, none⟩ a).setCell ⟨g, 1, none⟩ u).setCell ⟨g, 2, none⟩ e) w.heap.size (fun _ => True) v l :=
 Kd.R_mono (((h.far ⟨hb⟩ hT 0 a).far ⟨blk_put (cs := #[x0, x1, x2]) hb 0 a rfl⟩ hT 1 u).far ⟨blk_put (cs := #[a, x1, x2]) (blk_put (cs := #[x0, x1, x2]) hb 0 a rfl) 1 u rfl⟩ hT 2 e).row (fun _ _ => trivial)
theorem results_b1 {P : Program} {fn : Func} {p : Tmp} {ty : TypeId} (h : fn.results = #[.cell p ty]) (tmps : Array Value) (w : World) (g : Nat) (t : TypeId) (cs : Array Value) (fr : Nat × Nat) (d : TypeDesc)
  (hp : tmps.getD p undef = .pointer (some ⟨g, 0, none⟩)) (hg : w.heap[g]? = some (.cells cs t fr))
  (hu : P.underlying ty = some d) (hd : (match d with | .struct _ | .array _ _ => true | _ => false) = true) (hi : (P.info? ty).map (·.size) = some cs.size) :
  (results fn tmps).run P w = .ok (.agg cs) w := by
 have hp' : tmps[p]?.getD undef = .pointer (some ⟨g, 0, none⟩) := by simpa using hp
 simp [results, h, hp', asAddr, run_loadVar_row w g t ty cs fr d hg hu hd hi]
structure Stp (wr w1 : World) (g : Nat) : Prop where
 same : ∀ i, i ≠ g → w1.heap[i]? = wr.heap[i]?
 low : ∀ {w : World}, Below w.heap.size w wr → w.heap.size ≤ g → Below w.heap.size w w1
theorem BX.stp {wr w1 : World} {b g : Nat} {cs : Array Value} {T : TypeId} (h : BX wr b cs T) (s : Stp wr w1 g) (hne : b ≠ g) : BX w1 b cs T := ⟨(s.same b hne).trans h.x⟩
theorem RO.stp {w wr w1 : World} {v : Value} {l : List Int} {g : Nat} {cs : Array Value} {T : TypeId} (h : RO w wr v l) (s : Stp wr w1 g) (hb : BX wr g cs T) (hT : 2 ≠ T) : RO w w1 v l :=
 ⟨Kd.R_step h.row (fun k hk _ => s.same k (fun e => Kd.R_ne h.row hb.x hT (by rw [← hk, e])))⟩
theorem store2 {wr : World} {g : Nat} {x0 x1 : Value} {T : TypeId} (h : BX wr g #[x0, x1] T) (a b : Value) : ∃ w1, w1 = ((wr.setCell ⟨g, 0, none⟩ a).setCell ⟨g, 1, none⟩ b) ∧ BX w1 g #[a, b] T ∧ Stp wr w1 g :=
 ⟨_, rfl, ⟨(blk_put (cs := #[a, x1]) (blk_put (cs := #[x0, x1]) h.x 0 a rfl) 1 b rfl)⟩, ⟨fun i hi => (Below.heap_setCell _ ⟨g, 1, none⟩ b i hi).trans (Below.heap_setCell _ ⟨g, 0, none⟩ a i hi), fun h0 hg => ((h0.setCell (show _ ≤ (⟨g, 0, none⟩ : Addr).block from hg) _).setCell (show _ ≤ (⟨g, 1, none⟩ : Addr).block from hg) _)⟩⟩
theorem store3 {wr : World} {g : Nat} {x0 x1 x2 : Value} {T : TypeId} (h : BX wr g #[x0, x1, x2] T) (a b c : Value) : ∃ w1, w1 = (((wr.setCell ⟨g, 0, none⟩ a).setCell ⟨g, 1, none⟩ b).setCell ⟨g, 2, none⟩ c) ∧ BX w1 g #[a, b, c] T ∧ Stp wr w1 g :=
 ⟨_, rfl, ⟨(blk_put (cs := #[a, b, x2]) (blk_put (cs := #[a, x1, x2]) (blk_put (cs := #[x0, x1, x2]) h.x 0 a rfl) 1 b rfl) 2 c rfl)⟩, ⟨fun i hi => ((Below.heap_setCell _ ⟨g, 2, none⟩ c i hi).trans (Below.heap_setCell _ ⟨g, 1, none⟩ b i hi)).trans (Below.heap_setCell _ ⟨g, 0, none⟩ a i hi), fun h0 hg => (((h0.setCell (show _ ≤ (⟨g, 0, none⟩ : Addr).block from hg) _).setCell (show _ ≤ (⟨g, 1, none⟩ : Addr).block from hg) _).setCell (show _ ≤ (⟨g, 2, none⟩ : Addr).block from hg) _)⟩⟩
theorem store6 {wr : World} {g : Nat} {x0 x1 x2 x3 x4 x5 : Value} {T : TypeId} (h : BX wr g #[x0, x1, x2, x3, x4, x5] T) (a b c d e f : Value) : ∃ w1, w1 = ((((((wr.setCell ⟨g, 0, none⟩ a).setCell ⟨g, 1, none⟩ b).setCell ⟨g, 2, none⟩ c).setCell ⟨g, 3, none⟩ d).setCell ⟨g, 4, none⟩ e).setCell ⟨g, 5, none⟩ f) ∧ BX w1 g #[a, b, c, d, e, f] T ∧ Stp wr w1 g :=
 ⟨_, rfl, ⟨(blk_put (cs := #[a, b, c, d, e, x5]) (blk_put (cs := #[a, b, c, d, x4, x5]) (blk_put (cs := #[a, b, c, x3, x4, x5]) (blk_put (cs := #[a, b, x2, x3, x4, x5]) (blk_put (cs := #[a, x1, x2, x3, x4, x5]) (blk_put (cs := #[x0, x1, x2, x3, x4, x5]) h.x 0 a rfl) 1 b rfl) 2 c rfl) 3 d rfl) 4 e rfl) 5 f rfl)⟩, ⟨fun i hi => (((((Below.heap_setCell _ ⟨g, 5, none⟩ f i hi).trans (Below.heap_setCell _ ⟨g, 4, none⟩ e i hi)).trans (Below.heap_setCell _ ⟨g, 3, none⟩ d i hi)).trans (Below.heap_setCell _ ⟨g, 2, none⟩ c i hi)).trans (Below.heap_setCell _ ⟨g, 1, none⟩ b i hi)).trans (Below.heap_setCell _ ⟨g, 0, none⟩ a i hi), fun h0 hg => ((((((h0.setCell (show _ ≤ (⟨g, 0, none⟩ : Addr).block from hg) _).setCell (show _ ≤ (⟨g, 1, none⟩ : Addr).block from hg) _).setCell (show _ ≤ (⟨g, 2, none⟩ : Addr).block from hg) _).setCell (show _ ≤ (⟨g, 3, none⟩ : Addr).block from hg) _).setCell (show _ ≤ (⟨g, 4, none⟩ : Addr).block from hg) _).setCell (show _ ≤ (⟨g, 5, none⟩ : Addr).block from hg) _)⟩⟩
theorem cl6_ {wr : World} {g : Nat} {a b c d e f : Value} {T : TypeId} (h : Aside0 (BX wr g #[a, b, c, d, e, f] T)) : wr.cell? ⟨g, 0, none⟩ = some a ∧ wr.cell? ⟨g, 1, none⟩ = some b ∧ wr.cell? ⟨g, 2, none⟩ = some c ∧ wr.cell? ⟨g, 3, none⟩ = some d ∧ wr.cell? ⟨g, 4, none⟩ = some e ∧ wr.cell? ⟨g, 5, none⟩ = some f :=
 ⟨h.out.cell 0 _ rfl, h.out.cell 1 _ rfl, h.out.cell 2 _ rfl, h.out.cell 3 _ rfl, h.out.cell 4 _ rfl, h.out.cell 5 _ rfl⟩
theorem vb_ {w wr w1 : World} {v : Value} {l : List Int} (h : Aside0 (RO w wr v l)) (hb : Below wr.heap.size wr w1) : Aside0 (RO w w1 v l) := ⟨h.out.below hb⟩
theorem gb_ {wr w1 : World} {b : Nat} {cs : Array Value} {T : TypeId} (h : Aside0 (BX wr b cs T)) (hb : Below wr.heap.size wr w1) : Aside0 (BX w1 b cs T) := ⟨h.out.below hb⟩
theorem lb_ {w wr w1 : World} (h : Aside0 (Below w.heap.size w wr)) (hb : Below wr.heap.size wr w1) : Aside0 (Below w.heap.size w w1) := ⟨h.out.trans (hb.mono h.out.size)⟩
theorem no_ {w wa wb : World} {ok' : Nat → Prop} {v u : Value} {l m : List Int} (hv : Aside0 (RO w wa v l)) (hu : Kd.R (Kd.int .i64) 2 wb wa.heap.size ok' u m) : Aside0 (NeRow v u) := ⟨NeRow.of hv.out.row hu⟩
theorem two6_ {wr : World} {g g' : Nat} {a b c d e f a' b' c' d' e' f' : Value} {T T' : TypeId} (h : Aside0 (BX wr g #[a, b, c, d, e, f] T)) (h' : Aside0 (BX wr g' #[a', b', c', d', e', f'] T')) : wr.cell? ⟨g, 0, none⟩ = some a ∧ wr.cell? ⟨g, 1, none⟩ = some b ∧ wr.cell? ⟨g, 2, none⟩ = some c ∧ wr.cell? ⟨g, 3, none⟩ = some d ∧ wr.cell? ⟨g, 4, none⟩ = some e ∧ wr.cell? ⟨g, 5, none⟩ = some f ∧ wr.cell? ⟨g', 0, none⟩ = some a' ∧ wr.cell? ⟨g', 1, none⟩ = some b' ∧ wr.cell? ⟨g', 2, none⟩ = some c' ∧ wr.cell? ⟨g', 3, none⟩ = some d' ∧ wr.cell? ⟨g', 4, none⟩ = some e' ∧ wr.cell? ⟨g', 5, none⟩ = some f' :=
 ⟨h.out.cell 0 _ rfl, h.out.cell 1 _ rfl, h.out.cell 2 _ rfl, h.out.cell 3 _ rfl, h.out.cell 4 _ rfl, h.out.cell 5 _ rfl, cl6_ h'⟩
theorem dw_ {w : World} {b : Nat} {cs : Array Value} {T : TypeId} (h : Aside0 (BX w b cs T)) : Aside0 (BX w.drew b cs T) := ⟨⟨h.out.x⟩⟩
theorem ny_ {w : World} {b y : Nat} {cs : Array Value} {T : TypeId} (h : Aside0 (BX w b cs T)) (hg : y = w.heap.size) : Aside0 (b ≠ y) := ⟨by rw [hg]; exact Nat.ne_of_lt (blk_lt h.out.x)⟩
theorem ey_ {w wr : World} {y : Nat} (h : Aside0 (Below w.heap.size w wr)) (hg : y = wr.heap.size) : Aside0 (w.heap.size ≤ y) := ⟨by rw [hg]; exact h.out.size⟩
theorem by_ {w : World} {b : Nat} {cs : Array Value} {T : TypeId} (h : w.heap[b]? = some (.cells cs T (0, 0))) : Aside0 (BX w b cs T) := ⟨⟨h⟩⟩
theorem cl2_ {wr : World} {g : Nat} {a b : Value} {T : TypeId} (h : Aside0 (BX wr g #[a, b] T)) : wr.cell? ⟨g, 0, none⟩ = some a ∧ wr.cell? ⟨g, 1, none⟩ = some b :=
 ⟨h.out.cell 0 _ rfl, h.out.cell 1 _ rfl⟩
theorem two2_ {wr : World} {g g' : Nat} {a b a' b' : Value} {T T' : TypeId} (h : Aside0 (BX wr g #[a, b] T)) (h' : Aside0 (BX wr g' #[a', b'] T')) : wr.cell? ⟨g, 0, none⟩ = some a ∧ wr.cell? ⟨g, 1, none⟩ = some b ∧ wr.cell? ⟨g', 0, none⟩ = some a' ∧ wr.cell? ⟨g', 1, none⟩ = some b' :=
 ⟨h.out.cell 0 _ rfl, h.out.cell 1 _ rfl, cl2_ h'⟩
end Go.Proofs.YtdbdhgimokaooaaDoor
namespace Go.Proofs.YtdbdhgimokaooaaDoorW.PrintLast
open Go.Proofs.YtdbdhgimokaooaaDoorW.PrintWords (Aside0)
section
variable {md : Region.Mode} {ops : Array Oper} {T : Bool × List (List Nat × List Nat)} {l l' li lj lk : Array Bool} {ds : List Nat} {i j k : Nat}
end
end Go.Proofs.YtdbdhgimokaooaaDoorW.PrintLast
namespace Go.Proofs.YtdbdhgimokaooaaDoorW.PrintLast
section
variable {P : Program} {ops : Array Oper} {Q : Exit → Act → World → Prop} {md : Region.Mode} {S : World → Prop} {ds : List Nat} {T : Bool × List (List Nat × List Nat)}
end
end Go.Proofs.YtdbdhgimokaooaaDoorW.PrintLast
namespace Go.Proofs.YtdbdhgimokaooaaDoorW.PrintWords
open Go.RowKit
namespace Kd
section
variable {α : Type} {d : Kd α} {W : World} {g n : Nat} {S ok : Nat → Prop} {A : Option Addr} {ad : Addr} {xs : List α}
end
end Kd
end Go.Proofs.YtdbdhgimokaooaaDoorW.PrintWords
namespace Go.Proofs.YtdbdhgimokaooaaDoorW.PrintWords
open Go.RowKit
section
variable {w w' u : World} {m B g : Nat} {o : Obj} {row : Option Nat} {S : Nat → Prop} {a : Addr} {v : Value}
end
namespace Kd
section
variable {α : Type} {d : Kd α} {e base n m : Nat} {ok : Nat → Prop} {w w' : World} {v : Value} {A : Option Addr} {xs : List α}
end
end Kd
end Go.Proofs.YtdbdhgimokaooaaDoorW.PrintWords
