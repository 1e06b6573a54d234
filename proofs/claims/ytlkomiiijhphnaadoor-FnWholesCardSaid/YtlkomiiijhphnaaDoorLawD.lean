/- Boxes and rows of a law's own, for walks of laws whose answers are known. -/
import Derived.Test.YtlkomiiijhphnaaDoorG10
namespace Go.Proofs.YtlkomiiijhphnaaDoor
open Go.RowKit Go.Proofs.YtlkomiiijhphnaaDoorW.PrintWords Go.Proofs.YtlkomiiijhphnaaDoorW.PrintLast Go.Proofs.YtlkomiiijhphnaaDoorW.PrintMore
set_option linter.unusedVariables false
set_option linter.unusedSimpArgs false
def NeRow (v u : Value) : Prop := ∀ k, some k = v.ownBlock → some k ≠ u.ownBlock
theorem NeRow.of {wa wb : World} {base : Nat} {ok ok' : Nat → Prop} {v u : Value} {l m : List Int} (hv : Kd.R (Kd.int .i64) 2 wa base ok v l) (hu : Kd.R (Kd.int .i64) 2 wb wa.heap.size ok' u m) : NeRow v u := by
 intro k hk hk2
 have h1 := Kd.R_lt hv k hk.symm
 have h2 := Kd.R_base hu k hk2.symm
 omega
theorem NeRow.symm {v u : Value} (h : NeRow v u) : NeRow u v := fun k hk hk2 => h k hk2 hk
structure RO (w wr : World) (v : Value) (l : List Int) : Prop where
 row : Kd.R (Kd.int .i64) 2 wr w.heap.size (fun k => some k = v.ownBlock) v l
theorem RO.of {w wr : World} {base : Nat} {ok : Nat → Prop} {v : Value} {l : List Int} (h : Kd.R (Kd.int .i64) 2 wr base ok v l) (hb : w.heap.size ≤ base) : RO w wr v l := ⟨Kd.R_tight rfl (Kd.R_lower h hb)⟩
theorem RO.below {w wr w1 : World} {v : Value} {l : List Int} (h : RO w wr v l) (hb : Below wr.heap.size wr w1) : RO w w1 v l := ⟨Kd.R_below h.row hb⟩
theorem RO.kept {w wr w1 : World} {v u : Value} {l : List Int} (h : RO w wr v l) (hk : Kept wr w1 (fun k => some k = u.ownBlock)) (hv : NeRow v u) : RO w w1 v l := ⟨Kd.R_kept h.row hk hv⟩
theorem RO.reads {w wr : World} {A : Option Addr} {n c : Nat} {l : List Int} (h : RO w wr (.slice A n c) l) : n = l.length ∧ n ≤ c ∧ Kd.C (Kd.int .i64) wr A l.length l := Kd.R_reads' h.row
theorem RO.c {w wr : World} {A : Option Addr} {c : Nat} {l : List Int} (h : RO w wr (.slice A l.length c) l) : Kd.C (Kd.int .i64) wr A l.length l := h.reads.2.2
theorem RO.le {w wr : World} {A : Option Addr} {c : Nat} {l : List Int} (h : RO w wr (.slice A l.length c) l) : l.length ≤ c := h.reads.2.1
structure BX (wr : World) (b : Nat) (cs : Array Value) (T : TypeId) : Prop where
 x : wr.heap[b]? = some (.cells cs T (0, 0))
theorem BX.below {wr w1 : World} {b : Nat} {cs : Array Value} {T : TypeId} (h : BX wr b cs T) (hb : Below wr.heap.size wr w1) : BX w1 b cs T := ⟨blk_below h.x hb⟩
theorem BX.kept {w wr w1 : World} {b : Nat} {cs : Array Value} {T : TypeId} {u : Value} {m : List Int} (h : BX wr b cs T) (hu : RO w wr u m) (hT : 2 ≠ T) (hk : Kept wr w1 (fun k => some k = u.ownBlock)) : BX w1 b cs T := ⟨blk_kept h.x hk (Kd.R_ne hu.row h.x hT)⟩
theorem BX.cell {wr : World} {b : Nat} {cs : Array Value} {T : TypeId} (h : BX wr b cs T) (i : Nat) (v : Value) (hv : cs[i]? = some v) : wr.cell? ⟨b, i, none⟩ = some v := (blk_cell h.x i).trans hv
theorem new_box (w : World) (cs : Array Value) (T : TypeId) : ∃ w' g, w' = w.alloc (.cells cs T) ∧ g = w.heap.size ∧ BX w' g cs T ∧ Below w.heap.size w w' := ⟨_, _, rfl, rfl, ⟨heap_alloc_new w _⟩, below_alloc (Below.refl _ _) _⟩
theorem NeRow.two {w : World} {base : Nat} {v u : Value} {l : List Int} (h : Kd.R (Kd.int .i64) 2 w base (fun k => some k ≠ u.ownBlock) v l) : NeRow v u := fun k hk => h.1 k hk.symm
theorem RO.kept2 {w wr w1 : World} {v u u' : Value} {l : List Int} (h : RO w wr v l) (hk : Kept wr w1 (fun k => some k = u.ownBlock ∨ some k = u'.ownBlock)) (hv : NeRow v u) (hv' : NeRow v u') : RO w w1 v l := ⟨Kd.R_kept h.row hk (fun k ho hs => hs.elim (hv k ho) (hv' k ho))⟩
theorem BX.kept2 {w wr w1 : World} {b : Nat} {cs : Array Value} {T : TypeId} {u u' : Value} {m m' : List Int} (h : BX wr b cs T) (hu : RO w wr u m) (hu' : RO w wr u' m') (hT : 2 ≠ T) (hk : Kept wr w1 (fun k => some k = u.ownBlock ∨ some k = u'.ownBlock)) : BX w1 b cs T := ⟨blk_kept h.x hk (fun hs => hs.elim (Kd.R_ne hu.row h.x hT) (Kd.R_ne hu'.row h.x hT))⟩
theorem set3 {w wr : World} {g : Nat} (h : Below w.heap.size w wr) (hg : w.heap.size ≤ g) (a v e : Value) : Below w.heap.size w (((wr.setCell ⟨g, 0, none⟩ a).setCell ⟨g, 1, none⟩ v).setCell ⟨g, 2, none⟩ e) :=
 ((h.setCell (show w.heap.size ≤ (⟨g, 0, none⟩ : Addr).block from hg) _).setCell (show w.heap.size ≤ (⟨g, 1, none⟩ : Addr).block from hg) _).setCell (show w.heap.size ≤ (⟨g, 2, none⟩ : Addr).block from hg) _
theorem RO.far {w wr : World} {v : Value} {l : List Int} {g : Nat} {cs : Array Value} {T : TypeId} (h : RO w wr v l) (hb : BX wr g cs T) (hT : 2 ≠ T) (i : Nat) (u : Value) : RO w (wr.setCell ⟨g, i, none⟩ u) v l :=
 ⟨Kd.R_far h.row (fun k hk e => Kd.R_ne h.row hb.x hT (by rw [← hk]; exact congrArg some e.symm)) u⟩
theorem BX.far {wr : World} {b g : Nat} {cs : Array Value} {T : TypeId} (h : BX wr b cs T) (hne : b ≠ g) (i : Nat) (u : Value) : BX (wr.setCell ⟨g, i, none⟩ u) b cs T := ⟨blk_far h.x hne u⟩
theorem RO.fin {w wr : World} {v : Value} {l : List Int} {g : Nat} {x0 x1 x2 : Value} {T : TypeId} (h : RO w wr v l) (hb : wr.heap[g]? = some (.cells #[x0, x1, x2] T (0, 0))) (hT : 2 ≠ T) (a u e : Value) :
  Kd.R (Kd.int .i64) 2 (((wr.setCell ⟨g, 0, none⟩ a).setCell ⟨g, 1, none⟩ u).setCell ⟨g, 2, none⟩ e) w.heap.size (fun _ => True) v l :=
 Kd.R_mono (((h.far ⟨hb⟩ hT 0 a).far ⟨blk_put (cs := #[x0, x1, x2]) hb 0 a rfl⟩ hT 1 u).far ⟨blk_put (cs := #[a, x1, x2]) (blk_put (cs := #[x0, x1, x2]) hb 0 a rfl) 1 u rfl⟩ hT 2 e).row (fun _ _ => trivial)
theorem results_b1 {P : Program} {fn : Func} {p : Tmp} {ty : TypeId} (h : fn.results = #[.cell p ty]) (tmps : Array Value) (w : World) (g : Nat) (t : TypeId) (cs : Array Value) (fr : Nat × Nat) (d : TypeDesc)
  (hp : tmps.getD p undef = .pointer (some ⟨g, 0, none⟩)) (hg : w.heap[g]? = some (.cells cs t fr))
  (hu : P.underlying ty = some d) (hd : (match d with | .struct _ | .array _ _ => true | _ => false) = true) (hi : (P.info? ty).map (·.size) = some cs.size) :
  (results fn tmps).run P w = .ok (.agg cs) w := by
 have hp' : tmps[p]?.getD undef = .pointer (some ⟨g, 0, none⟩) := by simpa using hp
 simp [results, h, hp', asAddr, run_loadVar_row w g t ty cs fr d hg hu hd hi]
structure Stp (wr w1 : World) (g : Nat) : Prop where
 same : ∀ i, i ≠ g → w1.heap[i]? = wr.heap[i]?
 low : ∀ {w : World}, Below w.heap.size w wr → w.heap.size ≤ g → Below w.heap.size w w1
theorem BX.stp {wr w1 : World} {b g : Nat} {cs : Array Value} {T : TypeId} (h : BX wr b cs T) (s : Stp wr w1 g) (hne : b ≠ g) : BX w1 b cs T := ⟨(s.same b hne).trans h.x⟩
theorem RO.stp {w wr w1 : World} {v : Value} {l : List Int} {g : Nat} {cs : Array Value} {T : TypeId} (h : RO w wr v l) (s : Stp wr w1 g) (hb : BX wr g cs T) (hT : 2 ≠ T) : RO w w1 v l :=
 ⟨Kd.R_step h.row (fun k hk _ => s.same k (fun e => Kd.R_ne h.row hb.x hT (by rw [← hk, e])))⟩
theorem store2 {wr : World} {g : Nat} {x0 x1 : Value} {T : TypeId} (h : BX wr g #[x0, x1] T) (a b : Value) : ∃ w1, w1 = ((wr.setCell ⟨g, 0, none⟩ a).setCell ⟨g, 1, none⟩ b) ∧ BX w1 g #[a, b] T ∧ Stp wr w1 g :=
 ⟨_, rfl, ⟨(blk_put (cs := #[a, x1]) (blk_put (cs := #[x0, x1]) h.x 0 a rfl) 1 b rfl)⟩, ⟨fun i hi => (Below.heap_setCell _ ⟨g, 1, none⟩ b i hi).trans (Below.heap_setCell _ ⟨g, 0, none⟩ a i hi), fun h0 hg => ((h0.setCell (show _ ≤ (⟨g, 0, none⟩ : Addr).block from hg) _).setCell (show _ ≤ (⟨g, 1, none⟩ : Addr).block from hg) _)⟩⟩
theorem store3 {wr : World} {g : Nat} {x0 x1 x2 : Value} {T : TypeId} (h : BX wr g #[x0, x1, x2] T) (a b c : Value) : ∃ w1, w1 = (((wr.setCell ⟨g, 0, none⟩ a).setCell ⟨g, 1, none⟩ b).setCell ⟨g, 2, none⟩ c) ∧ BX w1 g #[a, b, c] T ∧ Stp wr w1 g :=
 ⟨_, rfl, ⟨(blk_put (cs := #[a, b, x2]) (blk_put (cs := #[a, x1, x2]) (blk_put (cs := #[x0, x1, x2]) h.x 0 a rfl) 1 b rfl) 2 c rfl)⟩, ⟨fun i hi => ((Below.heap_setCell _ ⟨g, 2, none⟩ c i hi).trans (Below.heap_setCell _ ⟨g, 1, none⟩ b i hi)).trans (Below.heap_setCell _ ⟨g, 0, none⟩ a i hi), fun h0 hg => (((h0.setCell (show _ ≤ (⟨g, 0, none⟩ : Addr).block from hg) _).setCell (show _ ≤ (⟨g, 1, none⟩ : Addr).block from hg) _).setCell (show _ ≤ (⟨g, 2, none⟩ : Addr).block from hg) _)⟩⟩
theorem store6 {wr : World} {g : Nat} {x0 x1 x2 x3 x4 x5 : Value} {T : TypeId} (h : BX wr g #[x0, x1, x2, x3, x4, x5] T) (a b c d e f : Value) : ∃ w1, w1 = ((((((wr.setCell ⟨g, 0, none⟩ a).setCell ⟨g, 1, none⟩ b).setCell ⟨g, 2, none⟩ c).setCell ⟨g, 3, none⟩ d).setCell ⟨g, 4, none⟩ e).setCell ⟨g, 5, none⟩ f) ∧ BX w1 g #[a, b, c, d, e, f] T ∧ Stp wr w1 g :=
 ⟨_, rfl, ⟨(blk_put (cs := #[a, b, c, d, e, x5]) (blk_put (cs := #[a, b, c, d, x4, x5]) (blk_put (cs := #[a, b, c, x3, x4, x5]) (blk_put (cs := #[a, b, x2, x3, x4, x5]) (blk_put (cs := #[a, x1, x2, x3, x4, x5]) (blk_put (cs := #[x0, x1, x2, x3, x4, x5]) h.x 0 a rfl) 1 b rfl) 2 c rfl) 3 d rfl) 4 e rfl) 5 f rfl)⟩, ⟨fun i hi => (((((Below.heap_setCell _ ⟨g, 5, none⟩ f i hi).trans (Below.heap_setCell _ ⟨g, 4, none⟩ e i hi)).trans (Below.heap_setCell _ ⟨g, 3, none⟩ d i hi)).trans (Below.heap_setCell _ ⟨g, 2, none⟩ c i hi)).trans (Below.heap_setCell _ ⟨g, 1, none⟩ b i hi)).trans (Below.heap_setCell _ ⟨g, 0, none⟩ a i hi), fun h0 hg => ((((((h0.setCell (show _ ≤ (⟨g, 0, none⟩ : Addr).block from hg) _).setCell (show _ ≤ (⟨g, 1, none⟩ : Addr).block from hg) _).setCell (show _ ≤ (⟨g, 2, none⟩ : Addr).block from hg) _).setCell (show _ ≤ (⟨g, 3, none⟩ : Addr).block from hg) _).setCell (show _ ≤ (⟨g, 4, none⟩ : Addr).block from hg) _).setCell (show _ ≤ (⟨g, 5, none⟩ : Addr).block from hg) _)⟩⟩
theorem cl6_ {wr : World} {g : Nat} {a b c d e f : Value} {T : TypeId} (h : Aside0 (BX wr g #[a, b, c, d, e, f] T)) : wr.cell? ⟨g, 0, none⟩ = some a ∧ wr.cell? ⟨g, 1, none⟩ = some b ∧ wr.cell? ⟨g, 2, none⟩ = some c ∧ wr.cell? ⟨g, 3, none⟩ = some d ∧ wr.cell? ⟨g, 4, none⟩ = some e ∧ wr.cell? ⟨g, 5, none⟩ = some f :=
 ⟨h.out.cell 0 _ rfl, h.out.cell 1 _ rfl, h.out.cell 2 _ rfl, h.out.cell 3 _ rfl, h.out.cell 4 _ rfl, h.out.cell 5 _ rfl⟩
theorem vb_ {w wr w1 : World} {v : Value} {l : List Int} (h : Aside0 (RO w wr v l)) (hb : Below wr.heap.size wr w1) : Aside0 (RO w w1 v l) := ⟨h.out.below hb⟩
theorem gb_ {wr w1 : World} {b : Nat} {cs : Array Value} {T : TypeId} (h : Aside0 (BX wr b cs T)) (hb : Below wr.heap.size wr w1) : Aside0 (BX w1 b cs T) := ⟨h.out.below hb⟩
theorem lb_ {w wr w1 : World} (h : Aside0 (Below w.heap.size w wr)) (hb : Below wr.heap.size wr w1) : Aside0 (Below w.heap.size w w1) := ⟨h.out.trans (hb.mono h.out.size)⟩
theorem no_ {w wa wb : World} {ok' : Nat → Prop} {v u : Value} {l m : List Int} (hv : Aside0 (RO w wa v l)) (hu : Kd.R (Kd.int .i64) 2 wb wa.heap.size ok' u m) : Aside0 (NeRow v u) := ⟨NeRow.of hv.out.row hu⟩
theorem two6_ {wr : World} {g g' : Nat} {a b c d e f a' b' c' d' e' f' : Value} {T T' : TypeId} (h : Aside0 (BX wr g #[a, b, c, d, e, f] T)) (h' : Aside0 (BX wr g' #[a', b', c', d', e', f'] T')) : wr.cell? ⟨g, 0, none⟩ = some a ∧ wr.cell? ⟨g, 1, none⟩ = some b ∧ wr.cell? ⟨g, 2, none⟩ = some c ∧ wr.cell? ⟨g, 3, none⟩ = some d ∧ wr.cell? ⟨g, 4, none⟩ = some e ∧ wr.cell? ⟨g, 5, none⟩ = some f ∧ wr.cell? ⟨g', 0, none⟩ = some a' ∧ wr.cell? ⟨g', 1, none⟩ = some b' ∧ wr.cell? ⟨g', 2, none⟩ = some c' ∧ wr.cell? ⟨g', 3, none⟩ = some d' ∧ wr.cell? ⟨g', 4, none⟩ = some e' ∧ wr.cell? ⟨g', 5, none⟩ = some f' :=
 ⟨h.out.cell 0 _ rfl, h.out.cell 1 _ rfl, h.out.cell 2 _ rfl, h.out.cell 3 _ rfl, h.out.cell 4 _ rfl, h.out.cell 5 _ rfl, cl6_ h'⟩
theorem dw_ {w : World} {b : Nat} {cs : Array Value} {T : TypeId} (h : Aside0 (BX w b cs T)) : Aside0 (BX w.drew b cs T) := ⟨⟨h.out.x⟩⟩
theorem ny_ {w : World} {b y : Nat} {cs : Array Value} {T : TypeId} (h : Aside0 (BX w b cs T)) (hg : y = w.heap.size) : Aside0 (b ≠ y) := ⟨by rw [hg]; exact Nat.ne_of_lt (blk_lt h.out.x)⟩
theorem ey_ {w wr : World} {y : Nat} (h : Aside0 (Below w.heap.size w wr)) (hg : y = wr.heap.size) : Aside0 (w.heap.size ≤ y) := ⟨by rw [hg]; exact h.out.size⟩
theorem by_ {w : World} {b : Nat} {cs : Array Value} {T : TypeId} (h : w.heap[b]? = some (.cells cs T (0, 0))) : Aside0 (BX w b cs T) := ⟨⟨h⟩⟩
theorem cl2_ {wr : World} {g : Nat} {a b : Value} {T : TypeId} (h : Aside0 (BX wr g #[a, b] T)) : wr.cell? ⟨g, 0, none⟩ = some a ∧ wr.cell? ⟨g, 1, none⟩ = some b :=
 ⟨h.out.cell 0 _ rfl, h.out.cell 1 _ rfl⟩
theorem two2_ {wr : World} {g g' : Nat} {a b a' b' : Value} {T T' : TypeId} (h : Aside0 (BX wr g #[a, b] T)) (h' : Aside0 (BX wr g' #[a', b'] T')) : wr.cell? ⟨g, 0, none⟩ = some a ∧ wr.cell? ⟨g, 1, none⟩ = some b ∧ wr.cell? ⟨g', 0, none⟩ = some a' ∧ wr.cell? ⟨g', 1, none⟩ = some b' :=
 ⟨h.out.cell 0 _ rfl, h.out.cell 1 _ rfl, cl2_ h'⟩
end Go.Proofs.YtlkomiiijhphnaaDoor
