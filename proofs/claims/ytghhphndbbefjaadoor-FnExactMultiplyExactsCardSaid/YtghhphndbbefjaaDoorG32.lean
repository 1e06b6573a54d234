/- The contract of impl.exactOr in plain words. Conditions: at most 1000000000 limbs; the library's table holds its numbers. -/
import Derived.Test.YtghhphndbbefjaaDoorDyE
import Derived.Test.YtghhphndbbefjaaDoorG10
import Derived.Test.YtghhphndbbefjaaDoorLawD
import Derived.BigRegion
namespace Go.Proofs.YtghhphndbbefjaaDoor
open Go.RowKit Go.Proofs.YtghhphndbbefjaaDoorW.PrintWords Go.Proofs.YtghhphndbbefjaaDoorW.PrintLast Go.Proofs.YtghhphndbbefjaaDoorW.PrintMore Go.Proofs.YtghhphndbbefjaaDoor.Math Go.Proofs.YtghhphndbbefjaaDoor.Big Go.Proofs.YtghhphndbbefjaaDoor.Sq
set_option linter.unusedVariables false
set_option linter.unusedSimpArgs false
def exfit (V p U q : Int) : Int × List Int × Int × Int × List Int × Int × Int :=
 if fits V p && fits U q then ((dymk V p).1, (dymk V p).2.1, (dymk V p).2.2, (dymk U q).1, (dymk U q).2.1, (dymk U q).2.2, 0) else (0, [], 0, 0, [], 0, 3)
theorem dyfit_mk {V p : Int} (h : fits V p = true) : dyfit V p = ((dymk V p).1, (dymk V p).2.1, (dymk V p).2.2, 0) := by
 unfold fits dyfit at h
 unfold dyfit dymk
 split
 ·rfl
 ·split
  ·rfl
  ·rename_i h1 h2
   rw [if_neg h1, if_neg h2] at h
   cases h
theorem RO.own {w wr : World} {base : Nat} {v : Value} {l : List Int} (h : wr.ownsRow base 2 1 v l.length (nums .i64 l)) (hb : w.heap.size ≤ base) : RO w wr v l := RO.of (Kd.R_of_own h (fun _ _ => trivial)) hb
theorem own_base' {wr : World} {base : Nat} {v : Value} {l : List Int} (h : wr.ownsRow base 2 1 v l.length (nums .i64 l)) : Kd.R (Kd.int .i64) 2 wr base (fun _ => True) v l := Kd.R_of_own h (fun _ _ => trivial)
theorem set6 {w wr : World} {g : Nat} (h : Below w.heap.size w wr) (hg : w.heap.size ≤ g) (a b c d e f : Value) : Below w.heap.size w ((((((wr.setCell ⟨g, 0, none⟩ a).setCell ⟨g, 1, none⟩ b).setCell ⟨g, 2, none⟩ c).setCell ⟨g, 3, none⟩ d).setCell ⟨g, 4, none⟩ e).setCell ⟨g, 5, none⟩ f) :=
 (((set3 h hg a b c).setCell (show w.heap.size ≤ (⟨g, 3, none⟩ : Addr).block from hg) _).setCell (show w.heap.size ≤ (⟨g, 4, none⟩ : Addr).block from hg) _).setCell (show w.heap.size ≤ (⟨g, 5, none⟩ : Addr).block from hg) _
theorem put6 {wr : World} {g : Nat} {x0 x1 x2 x3 x4 x5 : Value} {T : TypeId} (h : wr.heap[g]? = some (.cells #[x0, x1, x2, x3, x4, x5] T (0, 0))) (a b c d e f : Value) : ((((((wr.setCell ⟨g, 0, none⟩ a).setCell ⟨g, 1, none⟩ b).setCell ⟨g, 2, none⟩ c).setCell ⟨g, 3, none⟩ d).setCell ⟨g, 4, none⟩ e).setCell ⟨g, 5, none⟩ f).heap[g]? = some (.cells #[a, b, c, d, e, f] T (0, 0)) :=
 blk_put (cs := #[a, b, c, d, e, x5]) (blk_put (cs := #[a, b, c, d, x4, x5]) (blk_put (cs := #[a, b, c, x3, x4, x5]) (blk_put (cs := #[a, b, x2, x3, x4, x5]) (blk_put (cs := #[a, x1, x2, x3, x4, x5]) (blk_put (cs := #[x0, x1, x2, x3, x4, x5]) h 0 a rfl) 1 b rfl) 2 c rfl) 3 d rfl) 4 e rfl) 5 f rfl
theorem RO.far6 {w wr : World} {v : Value} {l : List Int} {g : Nat} {x0 x1 x2 x3 x4 x5 : Value} {T : TypeId} (h : RO w wr v l) (hb : wr.heap[g]? = some (.cells #[x0, x1, x2, x3, x4, x5] T (0, 0))) (hT : 2 ≠ T) (a b c d e f : Value) :
  RO w ((((((wr.setCell ⟨g, 0, none⟩ a).setCell ⟨g, 1, none⟩ b).setCell ⟨g, 2, none⟩ c).setCell ⟨g, 3, none⟩ d).setCell ⟨g, 4, none⟩ e).setCell ⟨g, 5, none⟩ f) v l :=
 (((((h.far ⟨hb⟩ hT 0 a).far ⟨blk_put (cs := #[x0, x1, x2, x3, x4, x5]) hb 0 a rfl⟩ hT 1 b).far ⟨blk_put (cs := #[a, x1, x2, x3, x4, x5]) (blk_put (cs := #[x0, x1, x2, x3, x4, x5]) hb 0 a rfl) 1 b rfl⟩ hT 2 c).far ⟨blk_put (cs := #[a, b, x2, x3, x4, x5]) (blk_put (cs := #[a, x1, x2, x3, x4, x5]) (blk_put (cs := #[x0, x1, x2, x3, x4, x5]) hb 0 a rfl) 1 b rfl) 2 c rfl⟩ hT 3 d).far
  ⟨blk_put (cs := #[a, b, c, x3, x4, x5]) (blk_put (cs := #[a, b, x2, x3, x4, x5]) (blk_put (cs := #[a, x1, x2, x3, x4, x5]) (blk_put (cs := #[x0, x1, x2, x3, x4, x5]) hb 0 a rfl) 1 b rfl) 2 c rfl) 3 d rfl⟩ hT 4 e).far
  ⟨blk_put (cs := #[a, b, c, d, x4, x5]) (blk_put (cs := #[a, b, c, x3, x4, x5]) (blk_put (cs := #[a, b, x2, x3, x4, x5]) (blk_put (cs := #[a, x1, x2, x3, x4, x5]) (blk_put (cs := #[x0, x1, x2, x3, x4, x5]) hb 0 a rfl) 1 b rfl) 2 c rfl) 3 d rfl) 4 e rfl⟩ hT 5 f
theorem RO.two {w wr : World} {v u : Value} {l : List Int} (h : RO w wr v l) (hn : NeRow v u) : Kd.R (Kd.int .i64) 2 wr w.heap.size (fun k => some k ≠ u.ownBlock) v l := Kd.R_mono h.row hn
set_option maxRecDepth 100000 in
set_option maxHeartbeats 4000000 in
theorem exactOr_calls (x y : Nat) (V p U q : Int) (m : Nat) (w : World) (hx : Big w x V m) (hy : Big w y U m) (hm : m ≤ 20000) (hp : -1000000 ≤ p ∧ p ≤ 1000000) (hq : -1000000 ≤ q ∧ q ≤ 1000000) (hT : Tab w) (r1 : Int) (r2 : List Int) (r3 r4 : Int) (r5 : List Int) (r6 r7 : Int) (h : exfit V p U q = (r1, r2, r3, r4, r5, r6, r7)) :
  Calls Tryd.prog 67 #[.agg #[.pointer (some ⟨x, 0, none⟩), .int .i64 p], .agg #[.pointer (some ⟨y, 0, none⟩), .int .i64 q]] w fun e w' => ∃ v1_ v4_ : Value, e = .returned (.tuple #[.agg #[.int .i64 r1, v1_, .int .i64 r3, .int .i64 r4, v4_, .int .i64 r6], .int .i64 r7]) ∧ RO w w' v1_ r2 ∧ RO w w' v4_ r5 ∧ NeRow v1_ v4_ ∧ Below w.heap.size w w' := by
 have HX := am_ hx; have HY := am_ hy; have HT := am_ hT; have HH := am_ h
 clear hx hy hT h
 obtain ⟨s1, s2, s3, s4, hS⟩ : ∃ s1 s2 s3 s4, dyfit V p = (s1, s2, s3, s4) := ⟨_, _, _, _, rfl⟩
 obtain ⟨t1, t2, t3, t4, hU⟩ : ∃ t1 t2 t3 t4, dyfit U q = (t1, t2, t3, t4) := ⟨_, _, _, _, rfl⟩
 have HS := am_ hS; have HU := am_ hU
 clear hS hU
 go_enter Tryd.func67, Tryd.ntmps67
 go_upto_region 1 with fail
 obtain ⟨w1, gx, e1, e2, hB, hb⟩ := new_box w #[.pointer (some ⟨x, 0, none⟩), .int .i64 p] 90
 rw [← e1]; rw [← e2]
 have BA := am_ hB; have L := am_ hb; have z1 : w1.heap.size = gx + 1 := by rw [e1, e2]; simp
 clear hB hb e1 e2
 obtain ⟨w1, gy, e1, e2, hB, hb⟩ := new_box w1 #[.pointer (some ⟨y, 0, none⟩), .int .i64 q] 90
 rw [← e1]; rw [← z1]; rw [← e2]
 have z2 : w1.heap.size = gy + 1 := by rw [e1, alloc_size, e2]
 have BB := am_ hB; replace BA := am_ (BA.out.below hb); replace L := am_ (L.out.trans (hb.mono L.out.size)); clear hB hb e1 e2 z1
 obtain ⟨w1, gr, e1, e2, hB, hb⟩ := new_box w1 #[.int .i64 0, .slice none 0 0, .int .i64 0, .int .i64 0, .slice none 0 0, .int .i64 0] 47
 rw [← e1]; rw [← z2]; rw [← e2]
 have R := am_ hB; have GR := am_ (show w.heap.size ≤ gr from by rw [e2]; exact L.out.size); replace BA := am_ (BA.out.below hb); replace BB := am_ (BB.out.below hb); replace L := am_ (L.out.trans (hb.mono L.out.size)); clear hB hb e1 e2 z2
 have p0 := BA.out.cell 0 _ rfl; have p1 := BA.out.cell 1 _ rfl
 go_wp2_with fail
 refine (dyadic_calls x V p m _ (HX.out.below L.out) hm hp.1 hp.2 (HT.out.below L.out) s1 s2 s3 s4 HS.out).mono ?_
 rintro e w1 ⟨v, rfl, hr, hb⟩
 obtain ⟨A1, c1, rfl⟩ := own_slice hr
 have V1 := am_ (RO.own (w := w) hr L.out.size); replace BB := am_ (BB.out.below hb); replace R := am_ (R.out.below hb); replace L := am_ (L.out.trans (hb.mono L.out.size)); clear hr hb p0 p1 BA
 go_upto_region 2 with fail
 obtain ⟨w1, g6, e1, e2, hB, hb⟩ := new_box w1 #[.int .i64 s1, .slice A1 s2.length c1, .int .i64 s3] 45
 rw [← e1]; rw [← e2]
 have G6 := am_ hB; replace BB := am_ (BB.out.below hb); replace R := am_ (R.out.below hb); replace V1 := am_ (V1.out.below hb); replace L := am_ (L.out.trans (hb.mono L.out.size)); clear hB hb e1 e2
 have p0 := BB.out.cell 0 _ rfl; have p1 := BB.out.cell 1 _ rfl
 go_wp2_with fail
 refine (dyadic_calls y U q m _ (HY.out.below L.out) hm hq.1 hq.2 (HT.out.below L.out) t1 t2 t3 t4 HU.out).mono ?_
 rintro e w1 ⟨v, rfl, hr, hb⟩
 obtain ⟨A2, c2, rfl⟩ := own_slice hr
 have V2 := am_ (RO.own (w := w) hr L.out.size); have NE := am_ (NeRow.of V1.out.row (own_base' hr)); replace R := am_ (R.out.below hb); replace V1 := am_ (V1.out.below hb); replace G6 := am_ (G6.out.below hb); replace L := am_ (L.out.trans (hb.mono L.out.size)); clear hr hb p0 p1 BB
 go_upto_region 3 with fail
 obtain ⟨w1, g8, e1, e2, hB, hb⟩ := new_box w1 #[.int .i64 t1, .slice A2 t2.length c2, .int .i64 t3] 45
 rw [← e1]; rw [← e2]
 have G8 := am_ hB; replace R := am_ (R.out.below hb); replace V1 := am_ (V1.out.below hb); replace V2 := am_ (V2.out.below hb); replace G6 := am_ (G6.out.below hb); replace L := am_ (L.out.trans (hb.mono L.out.size)); clear hB hb e1 e2
 have h := HH.out
 unfold exfit fits at h
 rw [HS.out, HU.out] at h
 by_cases h1 : s4 = 0
 ·subst h1
  by_cases h2 : t4 = 0
  ·subst h2
   have h3 := dyfit_mk (V := V) (p := p) (by unfold fits; rw [HS.out]; rfl)
   have h4 := dyfit_mk (V := U) (p := q) (by unfold fits; rw [HU.out]; rfl)
   rw [HS.out] at h3
   rw [HU.out] at h4
   simp only [Prod.mk.injEq] at h3 h4
   rw [← h3.1, ← h3.2.1, ← h3.2.2.1, ← h4.1, ← h4.2.1, ← h4.2.2.1] at h
   simp only [beq_self_eq_true, Bool.and_self, if_true, Prod.mk.injEq] at h
   obtain ⟨rfl, rfl, rfl, rfl, rfl, rfl, rfl⟩ := h
   clear h3 h4
   have p0 := G6.out.cell 0 _ rfl; have p1 := G6.out.cell 1 _ rfl; have p2 := G6.out.cell 2 _ rfl
   have p3 := G8.out.cell 0 _ rfl; have p4 := G8.out.cell 1 _ rfl; have p5 := G8.out.cell 2 _ rfl
   obtain ⟨y0, y1, y2, y3, y4, y5, f0, f1, f2, f3, f4, f5⟩ := ck6_ (am_ R.out.x)
   go_wp2_with fail
   refine bodyPost_ret (results_ct rfl _ _ gr 47 #[.int .i64 s1, .slice A1 s2.length c1, .int .i64 s3, .int .i64 t1, .slice A2 t2.length c2, .int .i64 t3] (0, 0) _ rfl (put6 R.out.x _ _ _ _ _ _) Tryd.underlying47 rfl (by kernel_rfl)) rfl ?_
   exact ⟨_, _, rfl, V1.out.far6 R.out.x (by decide) _ _ _ _ _ _, V2.out.far6 R.out.x (by decide) _ _ _ _ _ _, NE.out, set6 L.out GR.out _ _ _ _ _ _⟩
  ·have hb2 : (t4 == 0) = false := by simpa using h2
   have hb3 : (t4 != 0) = true := by simpa using h2
   simp only [hb2, Bool.and_false, Bool.false_eq_true, if_false, Prod.mk.injEq] at h
   obtain ⟨rfl, rfl, rfl, rfl, rfl, rfl, rfl⟩ := h
   obtain ⟨y0, y1, y2, y3, y4, y5, f0, f1, f2, f3, f4, f5⟩ := ck6_ (am_ R.out.x)
   go_wp2_with fail
   refine bodyPost_ret (results_ct rfl _ _ gr 47 #[.int .i64 0, .slice none 0 0, .int .i64 0, .int .i64 0, .slice none 0 0, .int .i64 0] (0, 0) _ rfl (put6 R.out.x _ _ _ _ _ _) Tryd.underlying47 rfl (by kernel_rfl)) rfl ?_
   exact ⟨_, _, rfl, ⟨Kd.R_nil _ _ _ _ _⟩, ⟨Kd.R_nil _ _ _ _ _⟩, fun k hk => by simp [Value.ownBlock] at hk, set6 L.out GR.out _ _ _ _ _ _⟩
 ·have hb2 : (s4 == 0) = false := by simpa using h1
  have hb3 : (s4 != 0) = true := by simpa using h1
  simp only [hb2, Bool.false_and, Bool.false_eq_true, if_false, Prod.mk.injEq] at h
  obtain ⟨rfl, rfl, rfl, rfl, rfl, rfl, rfl⟩ := h
  obtain ⟨y0, y1, y2, y3, y4, y5, f0, f1, f2, f3, f4, f5⟩ := ck6_ (am_ R.out.x)
  go_wp2_with fail
  refine bodyPost_ret (results_ct rfl _ _ gr 47 #[.int .i64 0, .slice none 0 0, .int .i64 0, .int .i64 0, .slice none 0 0, .int .i64 0] (0, 0) _ rfl (put6 R.out.x _ _ _ _ _ _) Tryd.underlying47 rfl (by kernel_rfl)) rfl ?_
  exact ⟨_, _, rfl, ⟨Kd.R_nil _ _ _ _ _⟩, ⟨Kd.R_nil _ _ _ _ _⟩, fun k hk => by simp [Value.ownBlock] at hk, set6 L.out GR.out _ _ _ _ _ _⟩
end Go.Proofs.YtghhphndbbefjaaDoor
namespace Go.Proofs.YtghhphndbbefjaaDoor
open Go.RowKit Go.Proofs.YtghhphndbbefjaaDoorW.PrintWords Go.Proofs.YtghhphndbbefjaaDoorW.PrintLast Go.Proofs.YtghhphndbbefjaaDoorW.PrintMore Go.Proofs.YtghhphndbbefjaaDoor.Math Go.Proofs.YtghhphndbbefjaaDoor.Big Go.Proofs.YtghhphndbbefjaaDoor.Sq
set_option linter.unusedVariables false
set_option linter.unusedSimpArgs false
theorem inv_ {P : Program} {md : Region.Mode} {ops : Array Oper} {Q : Exit → Act → World → Prop} {S : World → Prop} {ds : List Nat} {tail : Nat} (I : Nat → Array Bool → Act → World → Prop)
  (h0 : ∀ l a w, I 0 l a w → wpAnyLast P md ops Q S ds tail l a w)
  (hn : ∀ m l a w, I (m + 1) l a w → Region.ready md ops l ≠ [])
  (hs : ∀ m l a w, I (m + 1) l a w → ∀ i, i ∈ Region.ready md ops l → ∃ oi, ops[i]? = some oi ∧ ∀ K' : Act → World → Prop, Shut (∀ a w, S w → I m (l.setIfInBounds i true) a w → K' a w) → if Region.wanted oi (yielded ops a.tmps) = true then Oper.wp P oi a w K' Q else K' (a.put oi.dst undef) w) :
  ∀ m l a w, I m l a w → wpAnyLast P md ops Q S ds (m + tail) l a w := by
 intro m
 induction m with
 | zero => intro l a w h; rw [Nat.zero_add]; exact h0 l a w h
 | succ m ih =>
  intro l a w h
  rw [show m + 1 + tail = (m + tail) + 1 from by omega]
  refine wpAnyLast_all rfl (hn m l a w h) (fun i hi => ?_)
  obtain ⟨oi, ho, hk⟩ := hs m l a w h i hi
  exact wpOp_step ho (fun K' hK => hk K' (fun a w hS hW => hK a w ⟨fun _ _ => hS, ih _ _ _ hW⟩))
theorem put2h {wr : World} {g : Nat} {x0 x1 : Value} {T : TypeId} (h : BX wr g #[x0, x1] T) (a b : Value) : BX ((wr.setCell ⟨g, 0, none⟩ a).setCell ⟨g, 1, none⟩ b) g #[a, b] T := ⟨bq2_ h.x⟩
theorem big_puth {wr : World} {g z : Nat} {V : Int} {m : Nat} {x0 x1 : Value} (h : BX wr g #[x0, x1] 90) (hz : Big wr z V m) (a b : Value) : Big ((wr.setCell ⟨g, 0, none⟩ a).setCell ⟨g, 1, none⟩ b) z V m :=
 big_storeN (big_storeN hz h.x) (blk_put (cs := #[x0, x1]) h.x 0 a rfl)
theorem set2h {w wr : World} {g n : Nat} (h : Below n w wr) (hg : n ≤ g) (a b : Value) : Below n w ((wr.setCell ⟨g, 0, none⟩ a).setCell ⟨g, 1, none⟩ b) :=
 (h.setCell (show n ≤ (⟨g, 0, none⟩ : Addr).block from hg) _).setCell (show n ≤ (⟨g, 1, none⟩ : Addr).block from hg) _
theorem all_four (V p U q X r Y s : Int) : allfit 4 (fun i => if i = 0 then V else if i = 1 then U else if i = 2 then X else Y) (fun i => if i = 0 then p else if i = 1 then q else if i = 2 then r else s) = (fits V p && (fits U q && (fits X r && fits Y s))) := by
 unfold allfit
 simp [List.range_succ]
theorem num_four {w : World} {g x y z u : Nat} {V p U q X r Y s : Int} (h : w.heap[g]? = some (.cells #[.pointer (some ⟨x, 0, none⟩), .int .i64 p, .pointer (some ⟨y, 0, none⟩), .int .i64 q, .pointer (some ⟨z, 0, none⟩), .int .i64 r, .pointer (some ⟨u, 0, none⟩), .int .i64 s] 90 (0, 0))) (hx : Big w x V 400) (hy : Big w y U 400) (hz : Big w z X 400) (hu : Big w u Y 400)
  (hp : -20000 ≤ p ∧ p ≤ 20000) (hq : -20000 ≤ q ∧ q ≤ 20000) (hr : -20000 ≤ r ∧ r ≤ 20000) (hs : -20000 ≤ s ∧ s ≤ 20000) :
  NumRow w w g 4 (fun i => if i = 0 then x else if i = 1 then y else if i = 2 then z else u) (fun i => if i = 0 then V else if i = 1 then U else if i = 2 then X else Y) (fun i => if i = 0 then p else if i = 1 then q else if i = 2 then r else s) := by
 refine ⟨Below.refl _ _, fun i hi => ?_⟩
 rcases (show i = 0 ∨ i = 1 ∨ i = 2 ∨ i = 3 from by omega) with rfl | rfl | rfl | rfl
 ·exact ⟨(blk_cell h 0).trans rfl, (blk_cell h 1).trans rfl, hx, hp⟩
 ·exact ⟨(blk_cell h 2).trans rfl, (blk_cell h 3).trans rfl, hy, hq⟩
 ·exact ⟨(blk_cell h 4).trans rfl, (blk_cell h 5).trans rfl, hz, hr⟩
 ·exact ⟨(blk_cell h 6).trans rfl, (blk_cell h 7).trans rfl, hu, hs⟩
def E1 (b : Bool) (w : World) (z : Nat) (V : Int) (m : Nat) : Prop := b = true → Big w z V m
theorem E1.no {w : World} {z : Nat} {V : Int} {m : Nat} : E1 false w z V m := fun h => by cases h
theorem E1.below {b : Bool} {w w1 : World} {z : Nat} {V : Int} {m : Nat} (h : E1 b w z V m) (hb : Below w.heap.size w w1) : E1 b w1 z V m := fun k => (h k).below hb
def D1 (w2 : World) (d : Bool) (w : World) (g : Nat) : Prop := d = true → BX w g #[.pointer none, .int .i64 0] 90 ∧ w2.heap.size ≤ g
theorem D1.no {w2 w : World} {g : Nat} : D1 w2 false w g := fun h => by cases h
theorem D1.below {w2 : World} {d : Bool} {w w1 : World} {g : Nat} (h : D1 w2 d w g) (hb : Below w.heap.size w w1) : D1 w2 d w1 g := fun k => ⟨(h k).1.below hb, (h k).2⟩
def N2 (d e : Bool) (g h : Nat) : Prop := d = true → e = true → g ≠ h
theorem N2.no {g h : Nat} : N2 false false g h := fun h => by cases h
theorem nb0 {b : Bool} (h : (!b).toNat = 0) : true = b := by cases b <;> first | rfl | cases h
theorem all8 (b0 b1 b2 b3 d0 d1 d2 d3 : Bool) (h : (!b0).toNat + (!b1).toNat + (!b2).toNat + (!b3).toNat + (!d0).toNat + (!d1).toNat + (!d2).toNat + (!d3).toNat = 0) : true = b0 ∧ true = b1 ∧ true = b2 ∧ true = b3 ∧ true = d0 ∧ true = d1 ∧ true = d2 ∧ true = d3 :=
 ⟨nb0 (by omega), nb0 (by omega), nb0 (by omega), nb0 (by omega), nb0 (by omega), nb0 (by omega), nb0 (by omega), nb0 (by omega)⟩
theorem pre8 {b0 b1 b2 b3 d0 d1 d2 d3 : Bool} (c1 : b1 = true → b0 = true) (c2 : b2 = true → b1 = true) (c3 : b3 = true → b2 = true) (hm : (!b0).toNat + (!b1).toNat + (!b2).toNat + (!b3).toNat + (!d0).toNat + (!d1).toNat + (!d2).toNat + (!d3).toNat ≠ 0) :
  (!(b1 && !b0) && (!(b2 && !b1) && (!(b3 && !b2) && !(b0 && b1 && b2 && b3 && d0 && d1 && d2 && d3)))) = true := by
 have h1 : (b1 && !b0) = false := by cases b1; rfl; rw [c1 rfl]; rfl
 have h2 : (b2 && !b1) = false := by cases b2; rfl; rw [c2 rfl]; rfl
 have h3 : (b3 && !b2) = false := by cases b3; rfl; rw [c3 rfl]; rfl
 have h4 : (b0 && b1 && b2 && b3 && d0 && d1 && d2 && d3) = false := by
  rw [Bool.eq_false_iff]
  intro g
  simp only [Bool.and_eq_true] at g
  obtain ⟨⟨⟨⟨⟨⟨⟨rfl, rfl⟩, rfl⟩, rfl⟩, rfl⟩, rfl⟩, rfl⟩, rfl⟩ := g
  exact hm rfl
 rw [h1, h2, h3, h4]; rfl
def all8b (p : Bool → Bool → Bool → Bool → Bool → Bool → Bool → Bool → Bool) : Bool := [false, true].all fun b0 => [false, true].all fun b1 => [false, true].all fun b2 => [false, true].all fun b3 => [false, true].all fun d0 => [false, true].all fun d1 => [false, true].all fun d2 => [false, true].all fun d3 => p b0 b1 b2 b3 d0 d1 d2 d3
theorem mem2 (b : Bool) : b ∈ [false, true] := by cases b <;> simp
theorem all8b_ {p : Bool → Bool → Bool → Bool → Bool → Bool → Bool → Bool → Bool} (h : all8b p = true) (b0 b1 b2 b3 d0 d1 d2 d3 : Bool) : p b0 b1 b2 b3 d0 d1 d2 d3 = true := by
 unfold all8b at h
 exact List.all_eq_true.1 (List.all_eq_true.1 (List.all_eq_true.1 (List.all_eq_true.1 (List.all_eq_true.1 (List.all_eq_true.1 (List.all_eq_true.1 (List.all_eq_true.1 h b0 (mem2 _)) b1 (mem2 _)) b2 (mem2 _)) b3 (mem2 _)) d0 (mem2 _)) d1 (mem2 _)) d2 (mem2 _)) d3 (mem2 _)
theorem rdy3t : all8b (fun b0 b1 b2 b3 d0 d1 d2 d3 => !(!(b1 && !b0) && (!(b2 && !b1) && (!(b3 && !b2) && !(b0 && b1 && b2 && b3 && d0 && d1 && d2 && d3)))) || (!(Region.ready .any (opsOf Tryd.f37 3) #[true, true, b0, true, true, b1, true, true, b2, true, true, b3, d0, d1, d2, d3, false, false, false, false]).isEmpty && (Region.ready .any (opsOf Tryd.f37 3) #[true, true, b0, true, true, b1, true, true, b2, true, true, b3, d0, d1, d2, d3, false, false, false, false]).all fun i => (!b0 && (i == 2 && true)) || (!b1 && (i == 5 && b0)) || (!b2 && (i == 8 && b1)) || (!b3 && (i == 11 && b2)) || (!d0 && i == 12) || (!d1 && i == 13) || (!d2 && i == 14) || (!d3 && i == 15))) = true := by kernel_rfl
theorem rdyN3 (b0 b1 b2 b3 d0 d1 d2 d3 : Bool) (c1 : b1 = true → b0 = true) (c2 : b2 = true → b1 = true) (c3 : b3 = true → b2 = true) (hm : (!b0).toNat + (!b1).toNat + (!b2).toNat + (!b3).toNat + (!d0).toNat + (!d1).toNat + (!d2).toNat + (!d3).toNat ≠ 0) : Region.ready .any (opsOf Tryd.f37 3) #[true, true, b0, true, true, b1, true, true, b2, true, true, b3, d0, d1, d2, d3, false, false, false, false] ≠ [] ∧ ∀ i ∈ Region.ready .any (opsOf Tryd.f37 3) #[true, true, b0, true, true, b1, true, true, b2, true, true, b3, d0, d1, d2, d3, false, false, false, false], (b0 = false ∧ i = 2 ∧ true = true) ∨ (b1 = false ∧ i = 5 ∧ b0 = true) ∨ (b2 = false ∧ i = 8 ∧ b1 = true) ∨ (b3 = false ∧ i = 11 ∧ b2 = true) ∨ (d0 = false ∧ i = 12) ∨ (d1 = false ∧ i = 13) ∨ (d2 = false ∧ i = 14) ∨ (d3 = false ∧ i = 15) := by
 have h : (!(!(b1 && !b0) && (!(b2 && !b1) && (!(b3 && !b2) && !(b0 && b1 && b2 && b3 && d0 && d1 && d2 && d3)))) || (!(Region.ready .any (opsOf Tryd.f37 3) #[true, true, b0, true, true, b1, true, true, b2, true, true, b3, d0, d1, d2, d3, false, false, false, false]).isEmpty && (Region.ready .any (opsOf Tryd.f37 3) #[true, true, b0, true, true, b1, true, true, b2, true, true, b3, d0, d1, d2, d3, false, false, false, false]).all fun i => (!b0 && (i == 2 && true)) || (!b1 && (i == 5 && b0)) || (!b2 && (i == 8 && b1)) || (!b3 && (i == 11 && b2)) || (!d0 && i == 12) || (!d1 && i == 13) || (!d2 && i == 14) || (!d3 && i == 15))) = true := all8b_ rdy3t b0 b1 b2 b3 d0 d1 d2 d3
 rw [show (!(b1 && !b0) && (!(b2 && !b1) && (!(b3 && !b2) && !(b0 && b1 && b2 && b3 && d0 && d1 && d2 && d3)))) = true from pre8 c1 c2 c3 hm] at h
 simp only [Bool.not_true, Bool.false_or, Bool.and_eq_true, List.all_eq_true, Bool.not_eq_true', List.isEmpty_eq_false_iff] at h
 refine ⟨h.1, fun i hi => ?_⟩
 have := h.2 i hi
 simpa only [Bool.or_eq_true, Bool.and_eq_true, Bool.not_eq_true', beq_iff_eq, or_assoc] using this
theorem rdy4t : all8b (fun b0 b1 b2 b3 d0 d1 d2 d3 => !(!(b1 && !b0) && (!(b2 && !b1) && (!(b3 && !b2) && !(b0 && b1 && b2 && b3 && d0 && d1 && d2 && d3)))) || (!(Region.ready .any (opsOf Tryd.f37 4) #[true, true, b0, true, true, b1, true, true, b2, true, true, b3, d0, d1, d2, d3, false, false, false, false]).isEmpty && (Region.ready .any (opsOf Tryd.f37 4) #[true, true, b0, true, true, b1, true, true, b2, true, true, b3, d0, d1, d2, d3, false, false, false, false]).all fun i => (!b0 && (i == 2 && true)) || (!b1 && (i == 5 && b0)) || (!b2 && (i == 8 && b1)) || (!b3 && (i == 11 && b2)) || (!d0 && i == 12) || (!d1 && i == 13) || (!d2 && i == 14) || (!d3 && i == 15))) = true := by kernel_rfl
theorem rdyN4 (b0 b1 b2 b3 d0 d1 d2 d3 : Bool) (c1 : b1 = true → b0 = true) (c2 : b2 = true → b1 = true) (c3 : b3 = true → b2 = true) (hm : (!b0).toNat + (!b1).toNat + (!b2).toNat + (!b3).toNat + (!d0).toNat + (!d1).toNat + (!d2).toNat + (!d3).toNat ≠ 0) : Region.ready .any (opsOf Tryd.f37 4) #[true, true, b0, true, true, b1, true, true, b2, true, true, b3, d0, d1, d2, d3, false, false, false, false] ≠ [] ∧ ∀ i ∈ Region.ready .any (opsOf Tryd.f37 4) #[true, true, b0, true, true, b1, true, true, b2, true, true, b3, d0, d1, d2, d3, false, false, false, false], (b0 = false ∧ i = 2 ∧ true = true) ∨ (b1 = false ∧ i = 5 ∧ b0 = true) ∨ (b2 = false ∧ i = 8 ∧ b1 = true) ∨ (b3 = false ∧ i = 11 ∧ b2 = true) ∨ (d0 = false ∧ i = 12) ∨ (d1 = false ∧ i = 13) ∨ (d2 = false ∧ i = 14) ∨ (d3 = false ∧ i = 15) := by
 have h : (!(!(b1 && !b0) && (!(b2 && !b1) && (!(b3 && !b2) && !(b0 && b1 && b2 && b3 && d0 && d1 && d2 && d3)))) || (!(Region.ready .any (opsOf Tryd.f37 4) #[true, true, b0, true, true, b1, true, true, b2, true, true, b3, d0, d1, d2, d3, false, false, false, false]).isEmpty && (Region.ready .any (opsOf Tryd.f37 4) #[true, true, b0, true, true, b1, true, true, b2, true, true, b3, d0, d1, d2, d3, false, false, false, false]).all fun i => (!b0 && (i == 2 && true)) || (!b1 && (i == 5 && b0)) || (!b2 && (i == 8 && b1)) || (!b3 && (i == 11 && b2)) || (!d0 && i == 12) || (!d1 && i == 13) || (!d2 && i == 14) || (!d3 && i == 15))) = true := all8b_ rdy4t b0 b1 b2 b3 d0 d1 d2 d3
 rw [show (!(b1 && !b0) && (!(b2 && !b1) && (!(b3 && !b2) && !(b0 && b1 && b2 && b3 && d0 && d1 && d2 && d3)))) = true from pre8 c1 c2 c3 hm] at h
 simp only [Bool.not_true, Bool.false_or, Bool.and_eq_true, List.all_eq_true, Bool.not_eq_true', List.isEmpty_eq_false_iff] at h
 refine ⟨h.1, fun i hi => ?_⟩
 have := h.2 i hi
 simpa only [Bool.or_eq_true, Bool.and_eq_true, Bool.not_eq_true', beq_iff_eq, or_assoc] using this
def mures (s : Int) (l : List Int) (e t : Int) (m : List Int) (f : Int) (s' : Int) (l' : List Int) (e' t' : Int) (m' : List Int) (f' : Int) : Int × List Int × Int × Int × List Int × Int × Int :=
 if (isD s l e && isD t m f) && (isD s' l' e' && isD t' m' f') then
  (if fits (wv s l * wv s' l') (e + e') && (fits (wv t m * wv t' m') (f + f') && (fits (wv s l * wv t' m') (e + f') && fits (wv t m * wv s' l') (f + e'))) then
   exfit (wv s l * wv s' l' * 2 ^ (e + e' - mn (e + e') (f + f')).toNat - wv t m * wv t' m' * 2 ^ (f + f' - mn (e + e') (f + f')).toNat) (mn (e + e') (f + f')) (wv s l * wv t' m' * 2 ^ (e + f' - mn (e + f') (f + e')).toNat + wv t m * wv s' l' * 2 ^ (f + e' - mn (e + f') (f + e')).toNat) (mn (e + f') (f + e'))
  else (0, [], 0, 0, [], 0, 3))
 else (0, [], 0, 0, [], 0, 1)
def impl_MultiplyExacts.f (a0_0 : Int) (l0_1 : List Int) (a0_2 a0_3 : Int) (l0_4 : List Int) (a0_5 a1_0 : Int) (l1_1 : List Int) (a1_2 a1_3 : Int) (l1_4 : List Int) (a1_5 : Int) : Option (Int × List Int × Int × Int × List Int × Int × Int) :=
 if l0_1.length ≤ 1000000000 ∧ l0_4.length ≤ 1000000000 ∧ l1_1.length ≤ 1000000000 ∧ l1_4.length ≤ 1000000000 then some (mures a0_0 l0_1 a0_2 a0_3 l0_4 a0_5 a1_0 l1_1 a1_2 a1_3 l1_4 a1_5) else none
set_option maxRecDepth 100000 in
set_option maxHeartbeats 8000000 in
theorem impl_MultiplyExacts.calls (a0_0 : Int) (A0_1 : Option Addr) (c0_1 : Nat) (l0_1 : List Int) (a0_2 : Int) (a0_3 : Int) (A0_4 : Option Addr) (c0_4 : Nat) (l0_4 : List Int) (a0_5 : Int) (a1_0 : Int) (A1_1 : Option Addr) (c1_1 : Nat) (l1_1 : List Int) (a1_2 : Int) (a1_3 : Int) (A1_4 : Option Addr) (c1_4 : Nat) (l1_4 : List Int) (a1_5 : Int) (r1 : Int) (r2 : List Int) (r3 r4 : Int) (r5 : List Int) (r6 r7 : Int) (w : World) (hr0_1 : Kd.C (Kd.int .i64) w A0_1 l0_1.length l0_1) (hc0_1 : l0_1.length ≤ c0_1) (hr0_4 : Kd.C (Kd.int .i64) w A0_4 l0_4.length l0_4) (hc0_4 : l0_4.length ≤ c0_4) (hr1_1 : Kd.C (Kd.int .i64) w A1_1 l1_1.length l1_1) (hc1_1 : l1_1.length ≤ c1_1) (hr1_4 : Kd.C (Kd.int .i64) w A1_4 l1_4.length l1_4) (hc1_4 : l1_4.length ≤ c1_4) (hT : Tab w) (h : impl_MultiplyExacts.f a0_0 l0_1 a0_2 a0_3 l0_4 a0_5 a1_0 l1_1 a1_2 a1_3 l1_4 a1_5 = some (r1, r2, r3, r4, r5, r6, r7)) :
  Calls Tryd.prog 37 #[.agg #[.int .i64 a0_0, .slice A0_1 l0_1.length c0_1, .int .i64 a0_2, .int .i64 a0_3, .slice A0_4 l0_4.length c0_4, .int .i64 a0_5], .agg #[.int .i64 a1_0, .slice A1_1 l1_1.length c1_1, .int .i64 a1_2, .int .i64 a1_3, .slice A1_4 l1_4.length c1_4, .int .i64 a1_5]] w fun e w' => ∃ v1_ v4_ : Value, e = .returned (.tuple #[.agg #[.int .i64 r1, v1_, .int .i64 r3, .int .i64 r4, v4_, .int .i64 r6], .int .i64 r7]) ∧ Kd.R (Kd.int .i64) 2 w' w.heap.size (fun k_ => some k_ ≠ (v4_ : Value).ownBlock) v1_ r2 ∧ Kd.R (Kd.int .i64) 2 w' w.heap.size (fun k_ => some k_ ≠ (v1_ : Value).ownBlock) v4_ r5 ∧ Below w.heap.size w w' := by
 unfold impl_MultiplyExacts.f at h
 split at h
 case isFalse => cases h
 rename_i hl
 injection h with h
 have HR1 := am_ hr0_1; have HR2 := am_ hr0_4; have HR3 := am_ hr1_1; have HR4 := am_ hr1_4; have HT := am_ hT; have HL := am_ hl; have HH := am_ h
 clear hr0_1 hr0_4 hr1_1 hr1_4 hT hl h
 go_enter Tryd.func37, Tryd.ntmps37
 go_upto_region 1 with fail
 obtain ⟨w1, gp, e1, e2, hB, hb⟩ := new_box w #[.int .i64 a0_0, .slice A0_1 l0_1.length c0_1, .int .i64 a0_2, .int .i64 a0_3, .slice A0_4 l0_4.length c0_4, .int .i64 a0_5] 47
 rw [← e1]; rw [← e2]
 have P := am_ hB; have L := am_ hb; have z1 : w1.heap.size = gp + 1 := by rw [e1, e2]; simp
 clear hB hb e1 e2
 obtain ⟨w1, gq, e1, e2, hB, hb⟩ := new_box w1 #[.int .i64 a1_0, .slice A1_1 l1_1.length c1_1, .int .i64 a1_2, .int .i64 a1_3, .slice A1_4 l1_4.length c1_4, .int .i64 a1_5] 47
 rw [← e1]; rw [← z1]; rw [← e2]
 have z2 : w1.heap.size = gq + 1 := by rw [e1, alloc_size, e2]
 have Q := am_ hB; replace P := am_ (P.out.below hb); replace L := am_ (L.out.trans (hb.mono L.out.size)); clear hB hb e1 e2 z1
 obtain ⟨w1, gr, e1, e2, hB, hb⟩ := new_box w1 #[.int .i64 0, .slice none 0 0, .int .i64 0, .int .i64 0, .slice none 0 0, .int .i64 0] 47
 rw [← e1]; rw [← z2]; rw [← e2]
 have R := am_ hB; have GR := am_ (show w.heap.size ≤ gr from by rw [e2]; exact L.out.size); replace P := am_ (P.out.below hb); replace Q := am_ (Q.out.below hb); replace L := am_ (L.out.trans (hb.mono L.out.size)); clear hB hb e1 e2 z2
 obtain ⟨p0, p1, p2, p3, p4, p5, -, -, -, -, -, -⟩ := ck6_ (am_ P.out.x)
 go_wp2_with fail
 refine (isExact_calls _ _ _ _ _ _ _ _ _ _ _ (Kd.C_below HR1.out L.out) hc0_1 HL.out.1 (Kd.C_below HR2.out L.out) hc0_4 HL.out.2.1).mono ?_
 rintro e w1 ⟨rfl, hb⟩
 replace P := am_ (P.out.below hb); replace Q := am_ (Q.out.below hb); replace R := am_ (R.out.below hb); replace L := am_ (L.out.trans (hb.mono L.out.size)); clear hb p0 p1 p2 p3 p4 p5
 cases hw : isD a0_0 l0_1 a0_2 && isD a0_3 l0_4 a0_5
 ·have h := HH.out
  unfold mures at h
  rw [hw] at h
  simp only [Bool.false_and, Bool.false_eq_true, if_false, Prod.mk.injEq] at h
  obtain ⟨rfl, rfl, rfl, rfl, rfl, rfl, rfl⟩ := h
  clear hw HH
  obtain ⟨y0, y1, y2, y3, y4, y5, f0, f1, f2, f3, f4, f5⟩ := ck6_ (am_ R.out.x)
  go_wp2_with fail
  refine bodyPost_ret (results_ct rfl _ _ gr 47 #[.int .i64 0, .slice none 0 0, .int .i64 0, .int .i64 0, .slice none 0 0, .int .i64 0] (0, 0) _ rfl (put6 R.out.x _ _ _ _ _ _) Tryd.underlying47 rfl (by kernel_rfl)) rfl ?_
  exact ⟨_, _, rfl, Kd.R_nil _ _ _ _ _, Kd.R_nil _ _ _ _ _, set6 L.out GR.out _ _ _ _ _ _⟩
 ·obtain ⟨p0, p1, p2, p3, p4, p5, -, -, -, -, -, -⟩ := ck6_ (am_ Q.out.x)
  have HW := am_ hw
  clear hw
  go_wp2_with fail
  refine (isExact_calls _ _ _ _ _ _ _ _ _ _ _ (Kd.C_below HR3.out L.out) hc1_1 HL.out.2.2.1 (Kd.C_below HR4.out L.out) hc1_4 HL.out.2.2.2).mono ?_
  rintro e w1 ⟨rfl, hb⟩
  replace P := am_ (P.out.below hb); replace Q := am_ (Q.out.below hb); replace R := am_ (R.out.below hb); replace L := am_ (L.out.trans (hb.mono L.out.size)); clear hb p0 p1 p2 p3 p4 p5
  cases hv : isD a1_0 l1_1 a1_2 && isD a1_3 l1_4 a1_5
  ·have h := HH.out
   unfold mures at h
   rw [hv] at h
   simp only [Bool.and_false, Bool.false_eq_true, if_false, Prod.mk.injEq] at h
   obtain ⟨rfl, rfl, rfl, rfl, rfl, rfl, rfl⟩ := h
   clear hv HH
   obtain ⟨y0, y1, y2, y3, y4, y5, f0, f1, f2, f3, f4, f5⟩ := ck6_ (am_ R.out.x)
   go_wp2_with fail
   refine bodyPost_ret (results_ct rfl _ _ gr 47 #[.int .i64 0, .slice none 0 0, .int .i64 0, .int .i64 0, .slice none 0 0, .int .i64 0] (0, 0) _ rfl (put6 R.out.x _ _ _ _ _ _) Tryd.underlying47 rfl (by kernel_rfl)) rfl ?_
   exact ⟨_, _, rfl, Kd.R_nil _ _ _ _ _, Kd.R_nil _ _ _ _ _, set6 L.out GR.out _ _ _ _ _ _⟩
  ·have h := HH.out
   unfold mures at h
   rw [HW.out, hv] at h
   simp only [Bool.and_self, if_true] at h
   have HH := am_ h
   have HD := am_ (show (isD a0_0 l0_1 a0_2 = true ∧ isD a0_3 l0_4 a0_5 = true) ∧ (isD a1_0 l1_1 a1_2 = true ∧ isD a1_3 l1_4 a1_5 = true) from ⟨by simpa using HW.out, by simpa using hv⟩)
   have HE := am_ (show ((-5000 ≤ a0_2 ∧ a0_2 ≤ 5000) ∧ (-5000 ≤ a0_5 ∧ a0_5 ≤ 5000)) ∧ ((-5000 ≤ a1_2 ∧ a1_2 ≤ 5000) ∧ (-5000 ≤ a1_5 ∧ a1_5 ≤ 5000)) from ⟨⟨isD_exp HD.out.1.1, isD_exp HD.out.1.2⟩, ⟨isD_exp HD.out.2.1, isD_exp HD.out.2.2⟩⟩)
   clear h hv
   go_upto_region 3 with fail
   have KEEP := am_ (show ∀ wx : World, Below w1.heap.size w1 wx → wx.cell? ⟨gp, 0, none⟩ = some (.int .i64 a0_0) ∧ wx.cell? ⟨gp, 1, none⟩ = some (.slice A0_1 l0_1.length c0_1) ∧ wx.cell? ⟨gp, 2, none⟩ = some (.int .i64 a0_2) ∧ wx.cell? ⟨gp, 3, none⟩ = some (.int .i64 a0_3) ∧ wx.cell? ⟨gp, 4, none⟩ = some (.slice A0_4 l0_4.length c0_4) ∧ wx.cell? ⟨gp, 5, none⟩ = some (.int .i64 a0_5) ∧ wx.cell? ⟨gq, 0, none⟩ = some (.int .i64 a1_0) ∧ wx.cell? ⟨gq, 1, none⟩ = some (.slice A1_1 l1_1.length c1_1) ∧ wx.cell? ⟨gq, 2, none⟩ = some (.int .i64 a1_2) ∧ wx.cell? ⟨gq, 3, none⟩ = some (.int .i64 a1_3) ∧ wx.cell? ⟨gq, 4, none⟩ = some (.slice A1_4 l1_4.length c1_4) ∧ wx.cell? ⟨gq, 5, none⟩ = some (.int .i64 a1_5) from fun wx hb => ⟨(P.out.below hb).cell 0 _ rfl, (P.out.below hb).cell 1 _ rfl, (P.out.below hb).cell 2 _ rfl, (P.out.below hb).cell 3 _ rfl, (P.out.below hb).cell 4 _ rfl, (P.out.below hb).cell 5 _ rfl, (Q.out.below hb).cell 0 _ rfl, (Q.out.below hb).cell 1 _ rfl, (Q.out.below hb).cell 2 _ rfl, (Q.out.below hb).cell 3 _ rfl, (Q.out.below hb).cell 4 _ rfl, (Q.out.below hb).cell 5 _ rfl⟩)
   generalize w1 = w2 at P Q R L KEEP ⊢
   obtain ⟨w1, ew⟩ : ∃ w1, w1 = w2 := ⟨_, rfl⟩
   rw [← ew]
   have HB := am_ (show Below w2.heap.size w2 w1 from by rw [ew]; exact Below.refl _ _)
   clear ew
   go_cut [6, 7, 8, 9] (fun s6 s7 s8 s9 wx => ∃ g6 g7 g8 g9 z6 z7 z8 z9 : Nat, s6 = .pointer (some ⟨g6, 0, none⟩) ∧ s7 = .pointer (some ⟨g7, 0, none⟩) ∧ s8 = .pointer (some ⟨g8, 0, none⟩) ∧ s9 = .pointer (some ⟨g9, 0, none⟩) ∧ Aside0 (NB wx g6 z6 (wv a0_0 l0_1) a0_2 200 ∧ NB wx g7 z7 (wv a0_3 l0_4) a0_5 200 ∧ NB wx g8 z8 (wv a1_0 l1_1) a1_2 200 ∧ NB wx g9 z9 (wv a1_3 l1_4) a1_5 200 ∧ Below w2.heap.size w2 wx))
   case first =>
    refine start_ (n := 20) (S := fun w' => w'.cell? ⟨gp, 0, none⟩ = some (.int .i64 a0_0) ∧ w'.cell? ⟨gp, 1, none⟩ = some (.slice A0_1 l0_1.length c0_1) ∧ w'.cell? ⟨gp, 2, none⟩ = some (.int .i64 a0_2) ∧ w'.cell? ⟨gp, 3, none⟩ = some (.int .i64 a0_3) ∧ w'.cell? ⟨gp, 4, none⟩ = some (.slice A0_4 l0_4.length c0_4) ∧ w'.cell? ⟨gp, 5, none⟩ = some (.int .i64 a0_5) ∧ w'.cell? ⟨gq, 0, none⟩ = some (.int .i64 a1_0) ∧ w'.cell? ⟨gq, 1, none⟩ = some (.slice A1_1 l1_1.length c1_1) ∧ w'.cell? ⟨gq, 2, none⟩ = some (.int .i64 a1_2) ∧ w'.cell? ⟨gq, 3, none⟩ = some (.int .i64 a1_3) ∧ w'.cell? ⟨gq, 4, none⟩ = some (.slice A1_4 l1_4.length c1_4) ∧ w'.cell? ⟨gq, 5, none⟩ = some (.int .i64 a1_5)) (ds := [16, 17, 18, 19]) #[false, false, false, false, false, false, false, false, false, false, false, false, false, false, false, false, false, false, false, false] (by kernel_rfl) rfl rfl (KEEP.out w1 HB.out) (fun hHeld => ?_)
    have D := am_ ((Below.refl w1.heap.size w1).drew); generalize w1.drew = w0 at hHeld D ⊢; replace HB := am_ (HB.out.trans (D.out.mono HB.out.size))
    refine pu_ #[true, false, false, false, false, false, false, false, false, false, false, false, false, false, false, false, false, false, false, false] 0 23 (by kernel_rfl) ?_
    refine pu_ #[true, false, false, true, false, false, false, false, false, false, false, false, false, false, false, false, false, false, false, false] 3 26 (by kernel_rfl) ?_
    refine pu_ #[true, false, false, true, false, false, true, false, false, false, false, false, false, false, false, false, false, false, false, false] 6 29 (by kernel_rfl) ?_
    refine pu_ #[true, false, false, true, false, false, true, false, false, true, false, false, false, false, false, false, false, false, false, false] 9 32 (by kernel_rfl) ?_
    refine tk_ #[true, true, false, true, false, false, true, false, false, true, false, false, false, false, false, false, false, false, false, false] 1 24 (by kernel_rfl) hHeld ?_
    refine tk_ #[true, true, false, true, true, false, true, false, false, true, false, false, false, false, false, false, false, false, false, false] 4 27 (by kernel_rfl) hHeld ?_
    refine tk_ #[true, true, false, true, true, false, true, true, false, true, false, false, false, false, false, false, false, false, false, false] 7 30 (by kernel_rfl) hHeld ?_
    refine tk_ #[true, true, false, true, true, false, true, true, false, true, true, false, false, false, false, false, false, false, false, false] 10 33 (by kernel_rfl) hHeld ?_
    refine inv_ (tail := 4) (fun m l a w => ∃ (b0 b1 b2 b3 d0 d1 d2 d3 : Bool) (z0 z1 z2 z3 g0 g1 g2 g3 : Nat), l = #[true, true, b0, true, true, b1, true, true, b2, true, true, b3, d0, d1, d2, d3, false, false, false, false] ∧ a = ⟨#[.agg #[.int .i64 a0_0, .slice A0_1 l0_1.length c0_1, .int .i64 a0_2, .int .i64 a0_3, .slice A0_4 l0_4.length c0_4, .int .i64 a0_5], .agg #[.int .i64 a1_0, .slice A1_1 l1_1.length c1_1, .int .i64 a1_2, .int .i64 a1_3, .slice A1_4 l1_4.length c1_4, .int .i64 a1_5], .pointer (some ⟨gp, 0, none⟩), .pointer (some ⟨gq, 0, none⟩), .pointer (some ⟨gr, 0, none⟩), .int .i64 0, (bif d0 then .pointer (some ⟨g0, 0, none⟩) else undef), (bif d1 then .pointer (some ⟨g1, 0, none⟩) else undef), (bif d2 then .pointer (some ⟨g2, 0, none⟩) else undef), (bif d3 then .pointer (some ⟨g3, 0, none⟩) else undef), undef, undef, undef, undef, .agg #[.int .i64 a0_0, .slice A0_1 l0_1.length c0_1, .int .i64 a0_2, .int .i64 a0_3, .slice A0_4 l0_4.length c0_4, .int .i64 a0_5], .bool true, .bool false, .bool false, .agg #[.int .i64 a1_0, .slice A1_1 l1_1.length c1_1, .int .i64 a1_2, .int .i64 a1_3, .slice A1_4 l1_4.length c1_4, .int .i64 a1_5], .bool true, .bool false, .bool false, undef, .pointer (some ⟨gp, 0, none⟩), .agg #[.int .i64 a0_0, .slice A0_1 l0_1.length c0_1, .int .i64 a0_2], (bif b0 then .agg #[.pointer (some ⟨z0, 0, none⟩), .int .i64 (a0_2)] else undef), .pointer (some ⟨gp, 3, none⟩), .agg #[.int .i64 a0_3, .slice A0_4 l0_4.length c0_4, .int .i64 a0_5], (bif b1 then .agg #[.pointer (some ⟨z1, 0, none⟩), .int .i64 (a0_5)] else undef), .pointer (some ⟨gq, 0, none⟩), .agg #[.int .i64 a1_0, .slice A1_1 l1_1.length c1_1, .int .i64 a1_2], (bif b2 then .agg #[.pointer (some ⟨z2, 0, none⟩), .int .i64 (a1_2)] else undef), .pointer (some ⟨gq, 3, none⟩), .agg #[.int .i64 a1_3, .slice A1_4 l1_4.length c1_4, .int .i64 a1_5], (bif b3 then .agg #[.pointer (some ⟨z3, 0, none⟩), .int .i64 (a1_5)] else undef), undef, undef, undef, undef, undef, undef, undef, undef, undef, undef, undef, undef, undef, undef, undef, undef, undef, undef, undef, undef, undef, undef, undef, undef, undef, undef, undef, undef, undef], []⟩ ∧ m = (!b0).toNat + (!b1).toNat + (!b2).toNat + (!b3).toNat + (!d0).toNat + (!d1).toNat + (!d2).toNat + (!d3).toNat ∧ ((b1 = true → b0 = true) ∧ (b2 = true → b1 = true) ∧ (b3 = true → b2 = true)) ∧ Aside0 (E1 b0 w z0 (wv a0_0 l0_1) 200 ∧ E1 b1 w z1 (wv a0_3 l0_4) 200 ∧ E1 b2 w z2 (wv a1_0 l1_1) 200 ∧ E1 b3 w z3 (wv a1_3 l1_4) 200 ∧ D1 w2 d0 w g0 ∧ D1 w2 d1 w g1 ∧ D1 w2 d2 w g2 ∧ D1 w2 d3 w g3 ∧ N2 d0 d1 g0 g1 ∧ N2 d0 d2 g0 g2 ∧ N2 d0 d3 g0 g3 ∧ N2 d1 d2 g1 g2 ∧ N2 d1 d3 g1 g3 ∧ N2 d2 d3 g2 g3 ∧ Below w2.heap.size w2 w)) ?done ?some ?step 8 _ _ _ ?start
    case start => exact ⟨false, false, false, false, false, false, false, false, 0, 0, 0, 0, 0, 0, 0, 0, rfl, rfl, rfl, ⟨fun h => h, fun h => h, fun h => h⟩, ⟨E1.no, E1.no, E1.no, E1.no, D1.no, D1.no, D1.no, D1.no, N2.no, N2.no, N2.no, N2.no, N2.no, N2.no, HB.out⟩⟩
    case some =>
     rintro m l a w ⟨b0, b1, b2, b3, d0, d1, d2, d3, z0, z1, z2, z3, g0, g1, g2, g3, rfl, rfl, hm, ⟨c1, c2, c3⟩, -⟩
     exact (rdyN3 b0 b1 b2 b3 d0 d1 d2 d3 c1 c2 c3 (by omega)).1
    case step =>
     rintro m l a w ⟨b0, b1, b2, b3, d0, d1, d2, d3, z0, z1, z2, z3, g0, g1, g2, g3, rfl, rfl, hm, ⟨c1, c2, c3⟩, HF⟩ i hi
     obtain ⟨e0, e1, e2, e3, f0, f1, f2, f3, n01, n02, n03, n12, n13, n23, hlo⟩ := HF.out
     have HE_ := am_ (And.intro e0 (And.intro e1 (And.intro e2 e3))); have HD_ := am_ (And.intro f0 (And.intro f1 (And.intro f2 f3))); have HN_ := am_ (And.intro n01 (And.intro n02 (And.intro n03 (And.intro n12 (And.intro n13 n23))))); have HL_ := am_ hlo
     clear HF e0 e1 e2 e3 f0 f1 f2 f3 n01 n02 n03 n12 n13 n23 hlo
     rcases (rdyN3 b0 b1 b2 b3 d0 d1 d2 d3 c1 c2 c3 (by omega)).2 i hi with ⟨rfl, rfl, hq⟩ | ⟨rfl, rfl, hq⟩ | ⟨rfl, rfl, hq⟩ | ⟨rfl, rfl, hq⟩ | ⟨rfl, rfl⟩ | ⟨rfl, rfl⟩ | ⟨rfl, rfl⟩ | ⟨rfl, rfl⟩
     ·refine ⟨_, rfl, fun K hK => ?_⟩
      refine goes_ Tryd.func68 (by kernel_rfl) rfl #[.agg #[.int .i64 a0_0, .slice A0_1 l0_1.length c0_1, .int .i64 a0_2]] (by rfl) rfl rfl ma_ ?_
      with_reducible refine (dvalue_calls a0_0 A0_1 c0_1 l0_1 a0_2 _ (Kd.C_below HR1.out ((L.out.trans ((HL_.out).mono L.out.size)))) (isD_isW HD.out.1.1)).mono ?_
      rintro _ w' ⟨x, rfl, -, hbig, hb⟩
      refine ⟨_, rfl, ?_⟩
      exact hK.out _ _ (KEEP.out w' (HL_.out.trans (hb.mono HL_.out.size))) ⟨true, b1, b2, b3, d0, d1, d2, d3, x, z1, z2, z3, g0, g1, g2, g3, rfl, rfl, by simp only [Bool.not_true, Bool.not_false, Bool.toNat_true, Bool.toNat_false] at hm ⊢; omega, ⟨fun h => rfl, fun h => c2 h, fun h => c3 h⟩, ⟨fun _ => hbig, (HE_.out.2.1).below hb, (HE_.out.2.2.1).below hb, (HE_.out.2.2.2).below hb, (HD_.out.1).below hb, (HD_.out.2.1).below hb, (HD_.out.2.2.1).below hb, (HD_.out.2.2.2).below hb, HN_.out.1, HN_.out.2.1, HN_.out.2.2.1, HN_.out.2.2.2.1, HN_.out.2.2.2.2.1, HN_.out.2.2.2.2.2, HL_.out.trans (hb.mono HL_.out.size)⟩⟩
     ·refine ⟨_, rfl, fun K hK => ?_⟩
      refine goes_ Tryd.func68 (by kernel_rfl) rfl #[.agg #[.int .i64 a0_3, .slice A0_4 l0_4.length c0_4, .int .i64 a0_5]] (by rfl) rfl rfl ma_ ?_
      with_reducible refine (dvalue_calls a0_3 A0_4 c0_4 l0_4 a0_5 _ (Kd.C_below HR2.out ((L.out.trans ((HL_.out).mono L.out.size)))) (isD_isW HD.out.1.2)).mono ?_
      rintro _ w' ⟨x, rfl, -, hbig, hb⟩
      refine ⟨_, rfl, ?_⟩
      exact hK.out _ _ (KEEP.out w' (HL_.out.trans (hb.mono HL_.out.size))) ⟨b0, true, b2, b3, d0, d1, d2, d3, z0, x, z2, z3, g0, g1, g2, g3, rfl, rfl, by simp only [Bool.not_true, Bool.not_false, Bool.toNat_true, Bool.toNat_false] at hm ⊢; omega, ⟨fun h => hq, fun h => rfl, fun h => c3 h⟩, ⟨(HE_.out.1).below hb, fun _ => hbig, (HE_.out.2.2.1).below hb, (HE_.out.2.2.2).below hb, (HD_.out.1).below hb, (HD_.out.2.1).below hb, (HD_.out.2.2.1).below hb, (HD_.out.2.2.2).below hb, HN_.out.1, HN_.out.2.1, HN_.out.2.2.1, HN_.out.2.2.2.1, HN_.out.2.2.2.2.1, HN_.out.2.2.2.2.2, HL_.out.trans (hb.mono HL_.out.size)⟩⟩
     ·refine ⟨_, rfl, fun K hK => ?_⟩
      refine goes_ Tryd.func68 (by kernel_rfl) rfl #[.agg #[.int .i64 a1_0, .slice A1_1 l1_1.length c1_1, .int .i64 a1_2]] (by rfl) rfl rfl ma_ ?_
      with_reducible refine (dvalue_calls a1_0 A1_1 c1_1 l1_1 a1_2 _ (Kd.C_below HR3.out ((L.out.trans ((HL_.out).mono L.out.size)))) (isD_isW HD.out.2.1)).mono ?_
      rintro _ w' ⟨x, rfl, -, hbig, hb⟩
      refine ⟨_, rfl, ?_⟩
      exact hK.out _ _ (KEEP.out w' (HL_.out.trans (hb.mono HL_.out.size))) ⟨b0, b1, true, b3, d0, d1, d2, d3, z0, z1, x, z3, g0, g1, g2, g3, rfl, rfl, by simp only [Bool.not_true, Bool.not_false, Bool.toNat_true, Bool.toNat_false] at hm ⊢; omega, ⟨fun h => c1 h, fun h => hq, fun h => rfl⟩, ⟨(HE_.out.1).below hb, (HE_.out.2.1).below hb, fun _ => hbig, (HE_.out.2.2.2).below hb, (HD_.out.1).below hb, (HD_.out.2.1).below hb, (HD_.out.2.2.1).below hb, (HD_.out.2.2.2).below hb, HN_.out.1, HN_.out.2.1, HN_.out.2.2.1, HN_.out.2.2.2.1, HN_.out.2.2.2.2.1, HN_.out.2.2.2.2.2, HL_.out.trans (hb.mono HL_.out.size)⟩⟩
     ·refine ⟨_, rfl, fun K hK => ?_⟩
      refine goes_ Tryd.func68 (by kernel_rfl) rfl #[.agg #[.int .i64 a1_3, .slice A1_4 l1_4.length c1_4, .int .i64 a1_5]] (by rfl) rfl rfl ma_ ?_
      with_reducible refine (dvalue_calls a1_3 A1_4 c1_4 l1_4 a1_5 _ (Kd.C_below HR4.out ((L.out.trans ((HL_.out).mono L.out.size)))) (isD_isW HD.out.2.2)).mono ?_
      rintro _ w' ⟨x, rfl, -, hbig, hb⟩
      refine ⟨_, rfl, ?_⟩
      exact hK.out _ _ (KEEP.out w' (HL_.out.trans (hb.mono HL_.out.size))) ⟨b0, b1, b2, true, d0, d1, d2, d3, z0, z1, z2, x, g0, g1, g2, g3, rfl, rfl, by simp only [Bool.not_true, Bool.not_false, Bool.toNat_true, Bool.toNat_false] at hm ⊢; omega, ⟨fun h => c1 h, fun h => c2 h, fun h => hq⟩, ⟨(HE_.out.1).below hb, (HE_.out.2.1).below hb, (HE_.out.2.2.1).below hb, fun _ => hbig, (HD_.out.1).below hb, (HD_.out.2.1).below hb, (HD_.out.2.2.1).below hb, (HD_.out.2.2.2).below hb, HN_.out.1, HN_.out.2.1, HN_.out.2.2.1, HN_.out.2.2.2.1, HN_.out.2.2.2.2.1, HN_.out.2.2.2.2.2, HL_.out.trans (hb.mono HL_.out.size)⟩⟩
     ·refine ⟨_, rfl, fun K hK => ?_⟩
      refine box_step ?hg (N := 6) ?hd (cs := #[.pointer none, .int .i64 0]) (t := 90) ?hr ?_; (case hd => rfl); (case hg => rfl); (case hr => first | (go_simp; done) | (go_simp; rfl))
      intro x hg w' hbox hb
      exact hK.out _ _ (KEEP.out w' (HL_.out.trans (hb.mono HL_.out.size))) ⟨b0, b1, b2, b3, true, d1, d2, d3, z0, z1, z2, z3, x, g1, g2, g3, rfl, rfl, by simp only [Bool.not_true, Bool.not_false, Bool.toNat_true, Bool.toNat_false] at hm ⊢; omega, ⟨c1, c2, c3⟩, ⟨(HE_.out.1).below hb, (HE_.out.2.1).below hb, (HE_.out.2.2.1).below hb, (HE_.out.2.2.2).below hb, fun _ => ⟨⟨hbox⟩, by rw [hg]; exact HL_.out.size⟩, (HD_.out.2.1).below hb, (HD_.out.2.2.1).below hb, (HD_.out.2.2.2).below hb, fun _ h => by rw [hg]; exact Nat.ne_of_gt (blk_lt ((HD_.out.2.1) h).1.x), fun _ h => by rw [hg]; exact Nat.ne_of_gt (blk_lt ((HD_.out.2.2.1) h).1.x), fun _ h => by rw [hg]; exact Nat.ne_of_gt (blk_lt ((HD_.out.2.2.2) h).1.x), HN_.out.2.2.2.1, HN_.out.2.2.2.2.1, HN_.out.2.2.2.2.2, HL_.out.trans (hb.mono HL_.out.size)⟩⟩
     ·refine ⟨_, rfl, fun K hK => ?_⟩
      refine box_step ?hg (N := 7) ?hd (cs := #[.pointer none, .int .i64 0]) (t := 90) ?hr ?_; (case hd => rfl); (case hg => rfl); (case hr => first | (go_simp; done) | (go_simp; rfl))
      intro x hg w' hbox hb
      exact hK.out _ _ (KEEP.out w' (HL_.out.trans (hb.mono HL_.out.size))) ⟨b0, b1, b2, b3, d0, true, d2, d3, z0, z1, z2, z3, g0, x, g2, g3, rfl, rfl, by simp only [Bool.not_true, Bool.not_false, Bool.toNat_true, Bool.toNat_false] at hm ⊢; omega, ⟨c1, c2, c3⟩, ⟨(HE_.out.1).below hb, (HE_.out.2.1).below hb, (HE_.out.2.2.1).below hb, (HE_.out.2.2.2).below hb, (HD_.out.1).below hb, fun _ => ⟨⟨hbox⟩, by rw [hg]; exact HL_.out.size⟩, (HD_.out.2.2.1).below hb, (HD_.out.2.2.2).below hb, fun h _ => by rw [hg]; exact Nat.ne_of_lt (blk_lt ((HD_.out.1) h).1.x), HN_.out.2.1, HN_.out.2.2.1, fun _ h => by rw [hg]; exact Nat.ne_of_gt (blk_lt ((HD_.out.2.2.1) h).1.x), fun _ h => by rw [hg]; exact Nat.ne_of_gt (blk_lt ((HD_.out.2.2.2) h).1.x), HN_.out.2.2.2.2.2, HL_.out.trans (hb.mono HL_.out.size)⟩⟩
     ·refine ⟨_, rfl, fun K hK => ?_⟩
      refine box_step ?hg (N := 8) ?hd (cs := #[.pointer none, .int .i64 0]) (t := 90) ?hr ?_; (case hd => rfl); (case hg => rfl); (case hr => first | (go_simp; done) | (go_simp; rfl))
      intro x hg w' hbox hb
      exact hK.out _ _ (KEEP.out w' (HL_.out.trans (hb.mono HL_.out.size))) ⟨b0, b1, b2, b3, d0, d1, true, d3, z0, z1, z2, z3, g0, g1, x, g3, rfl, rfl, by simp only [Bool.not_true, Bool.not_false, Bool.toNat_true, Bool.toNat_false] at hm ⊢; omega, ⟨c1, c2, c3⟩, ⟨(HE_.out.1).below hb, (HE_.out.2.1).below hb, (HE_.out.2.2.1).below hb, (HE_.out.2.2.2).below hb, (HD_.out.1).below hb, (HD_.out.2.1).below hb, fun _ => ⟨⟨hbox⟩, by rw [hg]; exact HL_.out.size⟩, (HD_.out.2.2.2).below hb, HN_.out.1, fun h _ => by rw [hg]; exact Nat.ne_of_lt (blk_lt ((HD_.out.1) h).1.x), HN_.out.2.2.1, fun h _ => by rw [hg]; exact Nat.ne_of_lt (blk_lt ((HD_.out.2.1) h).1.x), HN_.out.2.2.2.2.1, fun _ h => by rw [hg]; exact Nat.ne_of_gt (blk_lt ((HD_.out.2.2.2) h).1.x), HL_.out.trans (hb.mono HL_.out.size)⟩⟩
     ·refine ⟨_, rfl, fun K hK => ?_⟩
      refine box_step ?hg (N := 9) ?hd (cs := #[.pointer none, .int .i64 0]) (t := 90) ?hr ?_; (case hd => rfl); (case hg => rfl); (case hr => first | (go_simp; done) | (go_simp; rfl))
      intro x hg w' hbox hb
      exact hK.out _ _ (KEEP.out w' (HL_.out.trans (hb.mono HL_.out.size))) ⟨b0, b1, b2, b3, d0, d1, d2, true, z0, z1, z2, z3, g0, g1, g2, x, rfl, rfl, by simp only [Bool.not_true, Bool.not_false, Bool.toNat_true, Bool.toNat_false] at hm ⊢; omega, ⟨c1, c2, c3⟩, ⟨(HE_.out.1).below hb, (HE_.out.2.1).below hb, (HE_.out.2.2.1).below hb, (HE_.out.2.2.2).below hb, (HD_.out.1).below hb, (HD_.out.2.1).below hb, (HD_.out.2.2.1).below hb, fun _ => ⟨⟨hbox⟩, by rw [hg]; exact HL_.out.size⟩, HN_.out.1, HN_.out.2.1, fun h _ => by rw [hg]; exact Nat.ne_of_lt (blk_lt ((HD_.out.1) h).1.x), HN_.out.2.2.2.1, fun h _ => by rw [hg]; exact Nat.ne_of_lt (blk_lt ((HD_.out.2.1) h).1.x), fun h _ => by rw [hg]; exact Nat.ne_of_lt (blk_lt ((HD_.out.2.2.1) h).1.x), HL_.out.trans (hb.mono HL_.out.size)⟩⟩
    case done =>
     rintro l a w1 ⟨b0, b1, b2, b3, d0, d1, d2, d3, z0, z1, z2, z3, g0, g1, g2, g3, rfl, rfl, hm, -, HF⟩
     obtain ⟨rfl, rfl, rfl, rfl, rfl, rfl, rfl, rfl⟩ := all8 b0 b1 b2 b3 d0 d1 d2 d3 hm.symm
     obtain ⟨e0, e1, e2, e3, f0, f1, f2, f3, n01, n02, n03, n12, n13, n23, hlo⟩ := HF.out
     have B0 := am_ (e0 rfl); have B1 := am_ (e1 rfl); have B2 := am_ (e2 rfl); have B3 := am_ (e3 rfl); have G0 := am_ (f0 rfl).1; have EG0 := am_ (f0 rfl).2; have G1 := am_ (f1 rfl).1; have EG1 := am_ (f1 rfl).2; have G2 := am_ (f2 rfl).1; have EG2 := am_ (f2 rfl).2; have G3 := am_ (f3 rfl).1; have EG3 := am_ (f3 rfl).2; have NE01 := am_ (n01 rfl rfl); have NE02 := am_ (n02 rfl rfl); have NE03 := am_ (n03 rfl rfl); have NE12 := am_ (n12 rfl rfl); have NE13 := am_ (n13 rfl rfl); have NE23 := am_ (n23 rfl rfl); replace HB := am_ hlo
     clear HF hm e0 e1 e2 e3 f0 f1 f2 f3 n01 n02 n03 n12 n13 n23 hlo
     refine norm_ (a' := ⟨#[.agg #[.int .i64 a0_0, .slice A0_1 l0_1.length c0_1, .int .i64 a0_2, .int .i64 a0_3, .slice A0_4 l0_4.length c0_4, .int .i64 a0_5], .agg #[.int .i64 a1_0, .slice A1_1 l1_1.length c1_1, .int .i64 a1_2, .int .i64 a1_3, .slice A1_4 l1_4.length c1_4, .int .i64 a1_5], .pointer (some ⟨gp, 0, none⟩), .pointer (some ⟨gq, 0, none⟩), .pointer (some ⟨gr, 0, none⟩), .int .i64 0, .pointer (some ⟨g0, 0, none⟩), .pointer (some ⟨g1, 0, none⟩), .pointer (some ⟨g2, 0, none⟩), .pointer (some ⟨g3, 0, none⟩), undef, undef, undef, undef, .agg #[.int .i64 a0_0, .slice A0_1 l0_1.length c0_1, .int .i64 a0_2, .int .i64 a0_3, .slice A0_4 l0_4.length c0_4, .int .i64 a0_5], .bool true, .bool false, .bool false, .agg #[.int .i64 a1_0, .slice A1_1 l1_1.length c1_1, .int .i64 a1_2, .int .i64 a1_3, .slice A1_4 l1_4.length c1_4, .int .i64 a1_5], .bool true, .bool false, .bool false, undef, .pointer (some ⟨gp, 0, none⟩), .agg #[.int .i64 a0_0, .slice A0_1 l0_1.length c0_1, .int .i64 a0_2], .agg #[.pointer (some ⟨z0, 0, none⟩), .int .i64 (a0_2)], .pointer (some ⟨gp, 3, none⟩), .agg #[.int .i64 a0_3, .slice A0_4 l0_4.length c0_4, .int .i64 a0_5], .agg #[.pointer (some ⟨z1, 0, none⟩), .int .i64 (a0_5)], .pointer (some ⟨gq, 0, none⟩), .agg #[.int .i64 a1_0, .slice A1_1 l1_1.length c1_1, .int .i64 a1_2], .agg #[.pointer (some ⟨z2, 0, none⟩), .int .i64 (a1_2)], .pointer (some ⟨gq, 3, none⟩), .agg #[.int .i64 a1_3, .slice A1_4 l1_4.length c1_4, .int .i64 a1_5], .agg #[.pointer (some ⟨z3, 0, none⟩), .int .i64 (a1_5)], undef, undef, undef, undef, undef, undef, undef, undef, undef, undef, undef, undef, undef, undef, undef, undef, undef, undef, undef, undef, undef, undef, undef, undef, undef, undef, undef, undef, undef], []⟩) rfl ?_
     refine last_ (i := 16) (N := none) #[true, true, true, true, true, true, true, true, true, true, true, true, true, true, true, true, true, false, false, false] rfl rfl (by kernel_rfl) (by decide) (fun K hK => ?_)
     obtain ⟨c0, c1, f0, f1⟩ := ck2_ (am_ G0.out.x)
     refine skip_ (w1 := ?_) (by rfl) rfl ?_ ?_
     rotate_left
     ·go_simp
      rfl
     refine hK.out _ _ ?_
     clear hK K
     clear c0 c1 f0 f1
     have X := am_ (put2h G0.out (.pointer (some ⟨z0, 0, none⟩)) (.int .i64 (a0_2)))
     replace G1 := am_ ((G1.out.far (NE01.out.symm) 0 (.pointer (some ⟨z0, 0, none⟩))).far (NE01.out.symm) 1 (.int .i64 (a0_2)))
     replace G2 := am_ ((G2.out.far (NE02.out.symm) 0 (.pointer (some ⟨z0, 0, none⟩))).far (NE02.out.symm) 1 (.int .i64 (a0_2)))
     replace G3 := am_ ((G3.out.far (NE03.out.symm) 0 (.pointer (some ⟨z0, 0, none⟩))).far (NE03.out.symm) 1 (.int .i64 (a0_2)))
     replace B0 := am_ (big_puth G0.out B0.out (.pointer (some ⟨z0, 0, none⟩)) (.int .i64 (a0_2)))
     replace B1 := am_ (big_puth G0.out B1.out (.pointer (some ⟨z0, 0, none⟩)) (.int .i64 (a0_2)))
     replace B2 := am_ (big_puth G0.out B2.out (.pointer (some ⟨z0, 0, none⟩)) (.int .i64 (a0_2)))
     replace B3 := am_ (big_puth G0.out B3.out (.pointer (some ⟨z0, 0, none⟩)) (.int .i64 (a0_2)))
     replace HB := am_ (set2h HB.out EG0.out (.pointer (some ⟨z0, 0, none⟩)) (.int .i64 (a0_2)))
     generalize (w1.setCell ⟨g0, 0, none⟩ (.pointer (some ⟨z0, 0, none⟩))).setCell ⟨g0, 1, none⟩ (.int .i64 (a0_2)) = w1 at X G1 G2 G3 B0 B1 B2 B3 HB ⊢
     replace G0 := X; clear X
     refine last_ (i := 17) (N := none) #[true, true, true, true, true, true, true, true, true, true, true, true, true, true, true, true, true, true, false, false] rfl rfl (by kernel_rfl) (by decide) (fun K hK => ?_)
     obtain ⟨c0, c1, f0, f1⟩ := ck2_ (am_ G1.out.x)
     refine skip_ (w1 := ?_) (by rfl) rfl ?_ ?_
     rotate_left
     ·go_simp
      rfl
     refine hK.out _ _ ?_
     clear hK K
     clear c0 c1 f0 f1
     have X := am_ (put2h G1.out (.pointer (some ⟨z1, 0, none⟩)) (.int .i64 (a0_5)))
     replace G0 := am_ ((G0.out.far (NE01.out) 0 (.pointer (some ⟨z1, 0, none⟩))).far (NE01.out) 1 (.int .i64 (a0_5)))
     replace G2 := am_ ((G2.out.far (NE12.out.symm) 0 (.pointer (some ⟨z1, 0, none⟩))).far (NE12.out.symm) 1 (.int .i64 (a0_5)))
     replace G3 := am_ ((G3.out.far (NE13.out.symm) 0 (.pointer (some ⟨z1, 0, none⟩))).far (NE13.out.symm) 1 (.int .i64 (a0_5)))
     replace B0 := am_ (big_puth G1.out B0.out (.pointer (some ⟨z1, 0, none⟩)) (.int .i64 (a0_5)))
     replace B1 := am_ (big_puth G1.out B1.out (.pointer (some ⟨z1, 0, none⟩)) (.int .i64 (a0_5)))
     replace B2 := am_ (big_puth G1.out B2.out (.pointer (some ⟨z1, 0, none⟩)) (.int .i64 (a0_5)))
     replace B3 := am_ (big_puth G1.out B3.out (.pointer (some ⟨z1, 0, none⟩)) (.int .i64 (a0_5)))
     replace HB := am_ (set2h HB.out EG1.out (.pointer (some ⟨z1, 0, none⟩)) (.int .i64 (a0_5)))
     generalize (w1.setCell ⟨g1, 0, none⟩ (.pointer (some ⟨z1, 0, none⟩))).setCell ⟨g1, 1, none⟩ (.int .i64 (a0_5)) = w1 at X G0 G2 G3 B0 B1 B2 B3 HB ⊢
     replace G1 := X; clear X
     refine last_ (i := 18) (N := none) #[true, true, true, true, true, true, true, true, true, true, true, true, true, true, true, true, true, true, true, false] rfl rfl (by kernel_rfl) (by decide) (fun K hK => ?_)
     obtain ⟨c0, c1, f0, f1⟩ := ck2_ (am_ G2.out.x)
     refine skip_ (w1 := ?_) (by rfl) rfl ?_ ?_
     rotate_left
     ·go_simp
      rfl
     refine hK.out _ _ ?_
     clear hK K
     clear c0 c1 f0 f1
     have X := am_ (put2h G2.out (.pointer (some ⟨z2, 0, none⟩)) (.int .i64 (a1_2)))
     replace G0 := am_ ((G0.out.far (NE02.out) 0 (.pointer (some ⟨z2, 0, none⟩))).far (NE02.out) 1 (.int .i64 (a1_2)))
     replace G1 := am_ ((G1.out.far (NE12.out) 0 (.pointer (some ⟨z2, 0, none⟩))).far (NE12.out) 1 (.int .i64 (a1_2)))
     replace G3 := am_ ((G3.out.far (NE23.out.symm) 0 (.pointer (some ⟨z2, 0, none⟩))).far (NE23.out.symm) 1 (.int .i64 (a1_2)))
     replace B0 := am_ (big_puth G2.out B0.out (.pointer (some ⟨z2, 0, none⟩)) (.int .i64 (a1_2)))
     replace B1 := am_ (big_puth G2.out B1.out (.pointer (some ⟨z2, 0, none⟩)) (.int .i64 (a1_2)))
     replace B2 := am_ (big_puth G2.out B2.out (.pointer (some ⟨z2, 0, none⟩)) (.int .i64 (a1_2)))
     replace B3 := am_ (big_puth G2.out B3.out (.pointer (some ⟨z2, 0, none⟩)) (.int .i64 (a1_2)))
     replace HB := am_ (set2h HB.out EG2.out (.pointer (some ⟨z2, 0, none⟩)) (.int .i64 (a1_2)))
     generalize (w1.setCell ⟨g2, 0, none⟩ (.pointer (some ⟨z2, 0, none⟩))).setCell ⟨g2, 1, none⟩ (.int .i64 (a1_2)) = w1 at X G0 G1 G3 B0 B1 B2 B3 HB ⊢
     replace G2 := X; clear X
     refine last_ (i := 19) (N := none) #[true, true, true, true, true, true, true, true, true, true, true, true, true, true, true, true, true, true, true, true] rfl rfl (by kernel_rfl) (by decide) (fun K hK => ?_)
     obtain ⟨c0, c1, f0, f1⟩ := ck2_ (am_ G3.out.x)
     refine skip_ (w1 := ?_) (by rfl) rfl ?_ ?_
     rotate_left
     ·go_simp
      rfl
     refine hK.out _ _ ?_
     clear hK K
     clear c0 c1 f0 f1
     have X := am_ (put2h G3.out (.pointer (some ⟨z3, 0, none⟩)) (.int .i64 (a1_5)))
     replace G0 := am_ ((G0.out.far (NE03.out) 0 (.pointer (some ⟨z3, 0, none⟩))).far (NE03.out) 1 (.int .i64 (a1_5)))
     replace G1 := am_ ((G1.out.far (NE13.out) 0 (.pointer (some ⟨z3, 0, none⟩))).far (NE13.out) 1 (.int .i64 (a1_5)))
     replace G2 := am_ ((G2.out.far (NE23.out) 0 (.pointer (some ⟨z3, 0, none⟩))).far (NE23.out) 1 (.int .i64 (a1_5)))
     replace B0 := am_ (big_puth G3.out B0.out (.pointer (some ⟨z3, 0, none⟩)) (.int .i64 (a1_5)))
     replace B1 := am_ (big_puth G3.out B1.out (.pointer (some ⟨z3, 0, none⟩)) (.int .i64 (a1_5)))
     replace B2 := am_ (big_puth G3.out B2.out (.pointer (some ⟨z3, 0, none⟩)) (.int .i64 (a1_5)))
     replace B3 := am_ (big_puth G3.out B3.out (.pointer (some ⟨z3, 0, none⟩)) (.int .i64 (a1_5)))
     replace HB := am_ (set2h HB.out EG3.out (.pointer (some ⟨z3, 0, none⟩)) (.int .i64 (a1_5)))
     generalize (w1.setCell ⟨g3, 0, none⟩ (.pointer (some ⟨z3, 0, none⟩))).setCell ⟨g3, 1, none⟩ (.int .i64 (a1_5)) = w1 at X G0 G1 G2 B0 B1 B2 B3 HB ⊢
     replace G3 := X; clear X
     refine done_ (by kernel_rfl) ?_
     go_wp2
     go_meet
     exact ⟨g0, g1, g2, g3, z0, z1, z2, z3, rfl, rfl, rfl, rfl, ⟨⟨G0.out.x, B0.out⟩, ⟨G1.out.x, B1.out⟩, ⟨G2.out.x, B2.out⟩, ⟨G3.out.x, B3.out⟩, HB.out⟩⟩
   case rest =>
    obtain ⟨ga, gb, gc, gd, za, zb, zc, zd, rfl, rfl, rfl, rfl, ⟨hN0, hN1, hN2, hN3, hlo⟩⟩ := hcut
    have M0 := am_ hN0; have M1 := am_ hN1; have M2 := am_ hN2; have M3 := am_ hN3; replace R := am_ (R.out.below hlo); replace L := am_ (L.out.trans (hlo.mono L.out.size))
    clear hN0 hN1 hN2 hN3 hlo KEEP P Q HB
    generalize wc = w2 at M0 M1 M2 M3 R L ⊢
    obtain ⟨w1, ew⟩ : ∃ w1, w1 = w2 := ⟨_, rfl⟩
    rw [← ew]
    have HB := am_ (show Below w2.heap.size w2 w1 from by rw [ew]; exact Below.refl _ _)
    clear ew
    go_upto_region 4 with fail
    go_cut [10, 11, 12, 13] (fun s6 s7 s8 s9 wx => ∃ g6 g7 g8 g9 z6 z7 z8 z9 : Nat, s6 = .pointer (some ⟨g6, 0, none⟩) ∧ s7 = .pointer (some ⟨g7, 0, none⟩) ∧ s8 = .pointer (some ⟨g8, 0, none⟩) ∧ s9 = .pointer (some ⟨g9, 0, none⟩) ∧ Aside0 (NB wx g6 z6 (wv a0_0 l0_1 * wv a1_0 l1_1) (a0_2 + a1_2) 400 ∧ NB wx g7 z7 (wv a0_3 l0_4 * wv a1_3 l1_4) (a0_5 + a1_5) 400 ∧ NB wx g8 z8 (wv a0_0 l0_1 * wv a1_3 l1_4) (a0_2 + a1_5) 400 ∧ NB wx g9 z9 (wv a0_3 l0_4 * wv a1_0 l1_1) (a0_5 + a1_2) 400 ∧ Below w2.heap.size w2 wx))
    case first =>
     have KEEP := am_ (show ∀ wx : World, Below w2.heap.size w2 wx → wx.cell? ⟨ga, 0, none⟩ = some (.pointer (some ⟨za, 0, none⟩)) ∧ wx.cell? ⟨ga, 1, none⟩ = some (.int .i64 a0_2) ∧ wx.cell? ⟨gb, 0, none⟩ = some (.pointer (some ⟨zb, 0, none⟩)) ∧ wx.cell? ⟨gb, 1, none⟩ = some (.int .i64 a0_5) ∧ wx.cell? ⟨gc, 0, none⟩ = some (.pointer (some ⟨zc, 0, none⟩)) ∧ wx.cell? ⟨gc, 1, none⟩ = some (.int .i64 a1_2) ∧ wx.cell? ⟨gd, 0, none⟩ = some (.pointer (some ⟨zd, 0, none⟩)) ∧ wx.cell? ⟨gd, 1, none⟩ = some (.int .i64 a1_5) from fun wx hb => ⟨(M0.out.below hb).cells.1, (M0.out.below hb).cells.2, (M1.out.below hb).cells.1, (M1.out.below hb).cells.2, (M2.out.below hb).cells.1, (M2.out.below hb).cells.2, (M3.out.below hb).cells.1, (M3.out.below hb).cells.2⟩)
     refine start_ (n := 20) (S := fun w' => w'.cell? ⟨ga, 0, none⟩ = some (.pointer (some ⟨za, 0, none⟩)) ∧ w'.cell? ⟨ga, 1, none⟩ = some (.int .i64 a0_2) ∧ w'.cell? ⟨gb, 0, none⟩ = some (.pointer (some ⟨zb, 0, none⟩)) ∧ w'.cell? ⟨gb, 1, none⟩ = some (.int .i64 a0_5) ∧ w'.cell? ⟨gc, 0, none⟩ = some (.pointer (some ⟨zc, 0, none⟩)) ∧ w'.cell? ⟨gc, 1, none⟩ = some (.int .i64 a1_2) ∧ w'.cell? ⟨gd, 0, none⟩ = some (.pointer (some ⟨zd, 0, none⟩)) ∧ w'.cell? ⟨gd, 1, none⟩ = some (.int .i64 a1_5)) (ds := [16, 17, 18, 19]) #[false, false, false, false, false, false, false, false, false, false, false, false, false, false, false, false, false, false, false, false] (by kernel_rfl) rfl rfl (KEEP.out w1 HB.out) (fun hHeld => ?_)
     have D := am_ ((Below.refl w1.heap.size w1).drew); generalize w1.drew = w0 at hHeld D ⊢; replace HB := am_ (HB.out.trans (D.out.mono HB.out.size))
     refine tk_ #[true, false, false, false, false, false, false, false, false, false, false, false, false, false, false, false, false, false, false, false] 0 35 (by kernel_rfl) hHeld ?_
     refine tk_ #[true, true, false, false, false, false, false, false, false, false, false, false, false, false, false, false, false, false, false, false] 1 36 (by kernel_rfl) hHeld ?_
     refine tk_ #[true, true, false, true, false, false, false, false, false, false, false, false, false, false, false, false, false, false, false, false] 3 38 (by kernel_rfl) hHeld ?_
     refine tk_ #[true, true, false, true, true, false, false, false, false, false, false, false, false, false, false, false, false, false, false, false] 4 39 (by kernel_rfl) hHeld ?_
     refine tk_ #[true, true, false, true, true, false, true, false, false, false, false, false, false, false, false, false, false, false, false, false] 6 41 (by kernel_rfl) hHeld ?_
     refine tk_ #[true, true, false, true, true, false, true, true, false, false, false, false, false, false, false, false, false, false, false, false] 7 42 (by kernel_rfl) hHeld ?_
     refine tk_ #[true, true, false, true, true, false, true, true, false, true, false, false, false, false, false, false, false, false, false, false] 9 44 (by kernel_rfl) hHeld ?_
     refine tk_ #[true, true, false, true, true, false, true, true, false, true, true, false, false, false, false, false, false, false, false, false] 10 45 (by kernel_rfl) hHeld ?_
     refine inv_ (tail := 4) (fun m l a w => ∃ (b0 b1 b2 b3 d0 d1 d2 d3 : Bool) (z0 z1 z2 z3 g0 g1 g2 g3 : Nat), l = #[true, true, b0, true, true, b1, true, true, b2, true, true, b3, d0, d1, d2, d3, false, false, false, false] ∧ a = ⟨#[.agg #[.int .i64 a0_0, .slice A0_1 l0_1.length c0_1, .int .i64 a0_2, .int .i64 a0_3, .slice A0_4 l0_4.length c0_4, .int .i64 a0_5], .agg #[.int .i64 a1_0, .slice A1_1 l1_1.length c1_1, .int .i64 a1_2, .int .i64 a1_3, .slice A1_4 l1_4.length c1_4, .int .i64 a1_5], .pointer (some ⟨gp, 0, none⟩), .pointer (some ⟨gq, 0, none⟩), .pointer (some ⟨gr, 0, none⟩), .int .i64 0, .pointer (some ⟨ga, 0, none⟩), .pointer (some ⟨gb, 0, none⟩), .pointer (some ⟨gc, 0, none⟩), .pointer (some ⟨gd, 0, none⟩), (bif d0 then .pointer (some ⟨g0, 0, none⟩) else undef), (bif d1 then .pointer (some ⟨g1, 0, none⟩) else undef), (bif d2 then .pointer (some ⟨g2, 0, none⟩) else undef), (bif d3 then .pointer (some ⟨g3, 0, none⟩) else undef), u14, u15, u16, u17, u18, u19, u20, u21, u22, u23, u24, u25, u26, u27, u28, u29, u30, u31, u32, u33, u34, .agg #[.pointer (some ⟨za, 0, none⟩), .int .i64 a0_2], .agg #[.pointer (some ⟨zc, 0, none⟩), .int .i64 a1_2], (bif b0 then .agg #[.pointer (some ⟨z0, 0, none⟩), .int .i64 (a0_2 + a1_2)] else u37), .agg #[.pointer (some ⟨zb, 0, none⟩), .int .i64 a0_5], .agg #[.pointer (some ⟨zd, 0, none⟩), .int .i64 a1_5], (bif b1 then .agg #[.pointer (some ⟨z1, 0, none⟩), .int .i64 (a0_5 + a1_5)] else u40), .agg #[.pointer (some ⟨za, 0, none⟩), .int .i64 a0_2], .agg #[.pointer (some ⟨zd, 0, none⟩), .int .i64 a1_5], (bif b2 then .agg #[.pointer (some ⟨z2, 0, none⟩), .int .i64 (a0_2 + a1_5)] else u43), .agg #[.pointer (some ⟨zb, 0, none⟩), .int .i64 a0_5], .agg #[.pointer (some ⟨zc, 0, none⟩), .int .i64 a1_2], (bif b3 then .agg #[.pointer (some ⟨z3, 0, none⟩), .int .i64 (a0_5 + a1_2)] else u46), u47, u48, u49, u50, u51, u52, u53, u54, u55, u56, u57, u58, u59, u60, u61, u62, u63], []⟩ ∧ m = (!b0).toNat + (!b1).toNat + (!b2).toNat + (!b3).toNat + (!d0).toNat + (!d1).toNat + (!d2).toNat + (!d3).toNat ∧ ((b1 = true → b0 = true) ∧ (b2 = true → b1 = true) ∧ (b3 = true → b2 = true)) ∧ Aside0 (E1 b0 w z0 (wv a0_0 l0_1 * wv a1_0 l1_1) 400 ∧ E1 b1 w z1 (wv a0_3 l0_4 * wv a1_3 l1_4) 400 ∧ E1 b2 w z2 (wv a0_0 l0_1 * wv a1_3 l1_4) 400 ∧ E1 b3 w z3 (wv a0_3 l0_4 * wv a1_0 l1_1) 400 ∧ D1 w2 d0 w g0 ∧ D1 w2 d1 w g1 ∧ D1 w2 d2 w g2 ∧ D1 w2 d3 w g3 ∧ N2 d0 d1 g0 g1 ∧ N2 d0 d2 g0 g2 ∧ N2 d0 d3 g0 g3 ∧ N2 d1 d2 g1 g2 ∧ N2 d1 d3 g1 g3 ∧ N2 d2 d3 g2 g3 ∧ Below w2.heap.size w2 w)) ?done ?some ?step 8 _ _ _ ?start
     case start => exact ⟨false, false, false, false, false, false, false, false, 0, 0, 0, 0, 0, 0, 0, 0, rfl, rfl, rfl, ⟨fun h => h, fun h => h, fun h => h⟩, ⟨E1.no, E1.no, E1.no, E1.no, D1.no, D1.no, D1.no, D1.no, N2.no, N2.no, N2.no, N2.no, N2.no, N2.no, HB.out⟩⟩
     case some =>
      rintro m l a w ⟨b0, b1, b2, b3, d0, d1, d2, d3, z0, z1, z2, z3, g0, g1, g2, g3, rfl, rfl, hm, ⟨c1, c2, c3⟩, -⟩
      exact (rdyN4 b0 b1 b2 b3 d0 d1 d2 d3 c1 c2 c3 (by omega)).1
     case step =>
      rintro m l a w ⟨b0, b1, b2, b3, d0, d1, d2, d3, z0, z1, z2, z3, g0, g1, g2, g3, rfl, rfl, hm, ⟨c1, c2, c3⟩, HF⟩ i hi
      obtain ⟨e0, e1, e2, e3, f0, f1, f2, f3, n01, n02, n03, n12, n13, n23, hlo⟩ := HF.out
      have HE_ := am_ (And.intro e0 (And.intro e1 (And.intro e2 e3))); have HD_ := am_ (And.intro f0 (And.intro f1 (And.intro f2 f3))); have HN_ := am_ (And.intro n01 (And.intro n02 (And.intro n03 (And.intro n12 (And.intro n13 n23))))); have HL_ := am_ hlo
      clear HF e0 e1 e2 e3 f0 f1 f2 f3 n01 n02 n03 n12 n13 n23 hlo
      rcases (rdyN4 b0 b1 b2 b3 d0 d1 d2 d3 c1 c2 c3 (by omega)).2 i hi with ⟨rfl, rfl, hq⟩ | ⟨rfl, rfl, hq⟩ | ⟨rfl, rfl, hq⟩ | ⟨rfl, rfl, hq⟩ | ⟨rfl, rfl⟩ | ⟨rfl, rfl⟩ | ⟨rfl, rfl⟩ | ⟨rfl, rfl⟩
      ·refine ⟨_, rfl, fun K hK => ?_⟩
       refine goes_ Tryd.func74 (by kernel_rfl) rfl #[.agg #[.pointer (some ⟨za, 0, none⟩), .int .i64 a0_2], .agg #[.pointer (some ⟨zc, 0, none⟩), .int .i64 a1_2]] (by rfl) rfl rfl ma_ ?_
       with_reducible refine (times_calls za zc _ _ a0_2 a1_2 _ (M0.out.big.below HL_.out) (M2.out.big.below HL_.out) HE.out.1.1 HE.out.2.1).mono ?_
       rintro _ w' ⟨x, rfl, hbig, -, hb⟩
       refine ⟨_, rfl, ?_⟩
       exact hK.out _ _ (KEEP.out w' (HL_.out.trans (hb.mono HL_.out.size))) ⟨true, b1, b2, b3, d0, d1, d2, d3, x, z1, z2, z3, g0, g1, g2, g3, rfl, rfl, by simp only [Bool.not_true, Bool.not_false, Bool.toNat_true, Bool.toNat_false] at hm ⊢; omega, ⟨fun h => rfl, fun h => c2 h, fun h => c3 h⟩, ⟨fun _ => hbig, (HE_.out.2.1).below hb, (HE_.out.2.2.1).below hb, (HE_.out.2.2.2).below hb, (HD_.out.1).below hb, (HD_.out.2.1).below hb, (HD_.out.2.2.1).below hb, (HD_.out.2.2.2).below hb, HN_.out.1, HN_.out.2.1, HN_.out.2.2.1, HN_.out.2.2.2.1, HN_.out.2.2.2.2.1, HN_.out.2.2.2.2.2, HL_.out.trans (hb.mono HL_.out.size)⟩⟩
      ·refine ⟨_, rfl, fun K hK => ?_⟩
       refine goes_ Tryd.func74 (by kernel_rfl) rfl #[.agg #[.pointer (some ⟨zb, 0, none⟩), .int .i64 a0_5], .agg #[.pointer (some ⟨zd, 0, none⟩), .int .i64 a1_5]] (by rfl) rfl rfl ma_ ?_
       with_reducible refine (times_calls zb zd _ _ a0_5 a1_5 _ (M1.out.big.below HL_.out) (M3.out.big.below HL_.out) HE.out.1.2 HE.out.2.2).mono ?_
       rintro _ w' ⟨x, rfl, hbig, -, hb⟩
       refine ⟨_, rfl, ?_⟩
       exact hK.out _ _ (KEEP.out w' (HL_.out.trans (hb.mono HL_.out.size))) ⟨b0, true, b2, b3, d0, d1, d2, d3, z0, x, z2, z3, g0, g1, g2, g3, rfl, rfl, by simp only [Bool.not_true, Bool.not_false, Bool.toNat_true, Bool.toNat_false] at hm ⊢; omega, ⟨fun h => hq, fun h => rfl, fun h => c3 h⟩, ⟨(HE_.out.1).below hb, fun _ => hbig, (HE_.out.2.2.1).below hb, (HE_.out.2.2.2).below hb, (HD_.out.1).below hb, (HD_.out.2.1).below hb, (HD_.out.2.2.1).below hb, (HD_.out.2.2.2).below hb, HN_.out.1, HN_.out.2.1, HN_.out.2.2.1, HN_.out.2.2.2.1, HN_.out.2.2.2.2.1, HN_.out.2.2.2.2.2, HL_.out.trans (hb.mono HL_.out.size)⟩⟩
      ·refine ⟨_, rfl, fun K hK => ?_⟩
       refine goes_ Tryd.func74 (by kernel_rfl) rfl #[.agg #[.pointer (some ⟨za, 0, none⟩), .int .i64 a0_2], .agg #[.pointer (some ⟨zd, 0, none⟩), .int .i64 a1_5]] (by rfl) rfl rfl ma_ ?_
       with_reducible refine (times_calls za zd _ _ a0_2 a1_5 _ (M0.out.big.below HL_.out) (M3.out.big.below HL_.out) HE.out.1.1 HE.out.2.2).mono ?_
       rintro _ w' ⟨x, rfl, hbig, -, hb⟩
       refine ⟨_, rfl, ?_⟩
       exact hK.out _ _ (KEEP.out w' (HL_.out.trans (hb.mono HL_.out.size))) ⟨b0, b1, true, b3, d0, d1, d2, d3, z0, z1, x, z3, g0, g1, g2, g3, rfl, rfl, by simp only [Bool.not_true, Bool.not_false, Bool.toNat_true, Bool.toNat_false] at hm ⊢; omega, ⟨fun h => c1 h, fun h => hq, fun h => rfl⟩, ⟨(HE_.out.1).below hb, (HE_.out.2.1).below hb, fun _ => hbig, (HE_.out.2.2.2).below hb, (HD_.out.1).below hb, (HD_.out.2.1).below hb, (HD_.out.2.2.1).below hb, (HD_.out.2.2.2).below hb, HN_.out.1, HN_.out.2.1, HN_.out.2.2.1, HN_.out.2.2.2.1, HN_.out.2.2.2.2.1, HN_.out.2.2.2.2.2, HL_.out.trans (hb.mono HL_.out.size)⟩⟩
      ·refine ⟨_, rfl, fun K hK => ?_⟩
       refine goes_ Tryd.func74 (by kernel_rfl) rfl #[.agg #[.pointer (some ⟨zb, 0, none⟩), .int .i64 a0_5], .agg #[.pointer (some ⟨zc, 0, none⟩), .int .i64 a1_2]] (by rfl) rfl rfl ma_ ?_
       with_reducible refine (times_calls zb zc _ _ a0_5 a1_2 _ (M1.out.big.below HL_.out) (M2.out.big.below HL_.out) HE.out.1.2 HE.out.2.1).mono ?_
       rintro _ w' ⟨x, rfl, hbig, -, hb⟩
       refine ⟨_, rfl, ?_⟩
       exact hK.out _ _ (KEEP.out w' (HL_.out.trans (hb.mono HL_.out.size))) ⟨b0, b1, b2, true, d0, d1, d2, d3, z0, z1, z2, x, g0, g1, g2, g3, rfl, rfl, by simp only [Bool.not_true, Bool.not_false, Bool.toNat_true, Bool.toNat_false] at hm ⊢; omega, ⟨fun h => c1 h, fun h => c2 h, fun h => hq⟩, ⟨(HE_.out.1).below hb, (HE_.out.2.1).below hb, (HE_.out.2.2.1).below hb, fun _ => hbig, (HD_.out.1).below hb, (HD_.out.2.1).below hb, (HD_.out.2.2.1).below hb, (HD_.out.2.2.2).below hb, HN_.out.1, HN_.out.2.1, HN_.out.2.2.1, HN_.out.2.2.2.1, HN_.out.2.2.2.2.1, HN_.out.2.2.2.2.2, HL_.out.trans (hb.mono HL_.out.size)⟩⟩
      ·refine ⟨_, rfl, fun K hK => ?_⟩
       refine box_step ?hg (N := 10) ?hd (cs := #[.pointer none, .int .i64 0]) (t := 90) ?hr ?_; (case hd => rfl); (case hg => rfl); (case hr => first | (go_simp; done) | (go_simp; rfl))
       intro x hg w' hbox hb
       exact hK.out _ _ (KEEP.out w' (HL_.out.trans (hb.mono HL_.out.size))) ⟨b0, b1, b2, b3, true, d1, d2, d3, z0, z1, z2, z3, x, g1, g2, g3, rfl, rfl, by simp only [Bool.not_true, Bool.not_false, Bool.toNat_true, Bool.toNat_false] at hm ⊢; omega, ⟨c1, c2, c3⟩, ⟨(HE_.out.1).below hb, (HE_.out.2.1).below hb, (HE_.out.2.2.1).below hb, (HE_.out.2.2.2).below hb, fun _ => ⟨⟨hbox⟩, by rw [hg]; exact HL_.out.size⟩, (HD_.out.2.1).below hb, (HD_.out.2.2.1).below hb, (HD_.out.2.2.2).below hb, fun _ h => by rw [hg]; exact Nat.ne_of_gt (blk_lt ((HD_.out.2.1) h).1.x), fun _ h => by rw [hg]; exact Nat.ne_of_gt (blk_lt ((HD_.out.2.2.1) h).1.x), fun _ h => by rw [hg]; exact Nat.ne_of_gt (blk_lt ((HD_.out.2.2.2) h).1.x), HN_.out.2.2.2.1, HN_.out.2.2.2.2.1, HN_.out.2.2.2.2.2, HL_.out.trans (hb.mono HL_.out.size)⟩⟩
      ·refine ⟨_, rfl, fun K hK => ?_⟩
       refine box_step ?hg (N := 11) ?hd (cs := #[.pointer none, .int .i64 0]) (t := 90) ?hr ?_; (case hd => rfl); (case hg => rfl); (case hr => first | (go_simp; done) | (go_simp; rfl))
       intro x hg w' hbox hb
       exact hK.out _ _ (KEEP.out w' (HL_.out.trans (hb.mono HL_.out.size))) ⟨b0, b1, b2, b3, d0, true, d2, d3, z0, z1, z2, z3, g0, x, g2, g3, rfl, rfl, by simp only [Bool.not_true, Bool.not_false, Bool.toNat_true, Bool.toNat_false] at hm ⊢; omega, ⟨c1, c2, c3⟩, ⟨(HE_.out.1).below hb, (HE_.out.2.1).below hb, (HE_.out.2.2.1).below hb, (HE_.out.2.2.2).below hb, (HD_.out.1).below hb, fun _ => ⟨⟨hbox⟩, by rw [hg]; exact HL_.out.size⟩, (HD_.out.2.2.1).below hb, (HD_.out.2.2.2).below hb, fun h _ => by rw [hg]; exact Nat.ne_of_lt (blk_lt ((HD_.out.1) h).1.x), HN_.out.2.1, HN_.out.2.2.1, fun _ h => by rw [hg]; exact Nat.ne_of_gt (blk_lt ((HD_.out.2.2.1) h).1.x), fun _ h => by rw [hg]; exact Nat.ne_of_gt (blk_lt ((HD_.out.2.2.2) h).1.x), HN_.out.2.2.2.2.2, HL_.out.trans (hb.mono HL_.out.size)⟩⟩
      ·refine ⟨_, rfl, fun K hK => ?_⟩
       refine box_step ?hg (N := 12) ?hd (cs := #[.pointer none, .int .i64 0]) (t := 90) ?hr ?_; (case hd => rfl); (case hg => rfl); (case hr => first | (go_simp; done) | (go_simp; rfl))
       intro x hg w' hbox hb
       exact hK.out _ _ (KEEP.out w' (HL_.out.trans (hb.mono HL_.out.size))) ⟨b0, b1, b2, b3, d0, d1, true, d3, z0, z1, z2, z3, g0, g1, x, g3, rfl, rfl, by simp only [Bool.not_true, Bool.not_false, Bool.toNat_true, Bool.toNat_false] at hm ⊢; omega, ⟨c1, c2, c3⟩, ⟨(HE_.out.1).below hb, (HE_.out.2.1).below hb, (HE_.out.2.2.1).below hb, (HE_.out.2.2.2).below hb, (HD_.out.1).below hb, (HD_.out.2.1).below hb, fun _ => ⟨⟨hbox⟩, by rw [hg]; exact HL_.out.size⟩, (HD_.out.2.2.2).below hb, HN_.out.1, fun h _ => by rw [hg]; exact Nat.ne_of_lt (blk_lt ((HD_.out.1) h).1.x), HN_.out.2.2.1, fun h _ => by rw [hg]; exact Nat.ne_of_lt (blk_lt ((HD_.out.2.1) h).1.x), HN_.out.2.2.2.2.1, fun _ h => by rw [hg]; exact Nat.ne_of_gt (blk_lt ((HD_.out.2.2.2) h).1.x), HL_.out.trans (hb.mono HL_.out.size)⟩⟩
      ·refine ⟨_, rfl, fun K hK => ?_⟩
       refine box_step ?hg (N := 13) ?hd (cs := #[.pointer none, .int .i64 0]) (t := 90) ?hr ?_; (case hd => rfl); (case hg => rfl); (case hr => first | (go_simp; done) | (go_simp; rfl))
       intro x hg w' hbox hb
       exact hK.out _ _ (KEEP.out w' (HL_.out.trans (hb.mono HL_.out.size))) ⟨b0, b1, b2, b3, d0, d1, d2, true, z0, z1, z2, z3, g0, g1, g2, x, rfl, rfl, by simp only [Bool.not_true, Bool.not_false, Bool.toNat_true, Bool.toNat_false] at hm ⊢; omega, ⟨c1, c2, c3⟩, ⟨(HE_.out.1).below hb, (HE_.out.2.1).below hb, (HE_.out.2.2.1).below hb, (HE_.out.2.2.2).below hb, (HD_.out.1).below hb, (HD_.out.2.1).below hb, (HD_.out.2.2.1).below hb, fun _ => ⟨⟨hbox⟩, by rw [hg]; exact HL_.out.size⟩, HN_.out.1, HN_.out.2.1, fun h _ => by rw [hg]; exact Nat.ne_of_lt (blk_lt ((HD_.out.1) h).1.x), HN_.out.2.2.2.1, fun h _ => by rw [hg]; exact Nat.ne_of_lt (blk_lt ((HD_.out.2.1) h).1.x), fun h _ => by rw [hg]; exact Nat.ne_of_lt (blk_lt ((HD_.out.2.2.1) h).1.x), HL_.out.trans (hb.mono HL_.out.size)⟩⟩
     case done =>
      rintro l a w1 ⟨b0, b1, b2, b3, d0, d1, d2, d3, z0, z1, z2, z3, g0, g1, g2, g3, rfl, rfl, hm, -, HF⟩
      obtain ⟨rfl, rfl, rfl, rfl, rfl, rfl, rfl, rfl⟩ := all8 b0 b1 b2 b3 d0 d1 d2 d3 hm.symm
      obtain ⟨e0, e1, e2, e3, f0, f1, f2, f3, n01, n02, n03, n12, n13, n23, hlo⟩ := HF.out
      have B0 := am_ (e0 rfl); have B1 := am_ (e1 rfl); have B2 := am_ (e2 rfl); have B3 := am_ (e3 rfl); have G0 := am_ (f0 rfl).1; have EG0 := am_ (f0 rfl).2; have G1 := am_ (f1 rfl).1; have EG1 := am_ (f1 rfl).2; have G2 := am_ (f2 rfl).1; have EG2 := am_ (f2 rfl).2; have G3 := am_ (f3 rfl).1; have EG3 := am_ (f3 rfl).2; have NE01 := am_ (n01 rfl rfl); have NE02 := am_ (n02 rfl rfl); have NE03 := am_ (n03 rfl rfl); have NE12 := am_ (n12 rfl rfl); have NE13 := am_ (n13 rfl rfl); have NE23 := am_ (n23 rfl rfl); replace HB := am_ hlo
      clear HF hm e0 e1 e2 e3 f0 f1 f2 f3 n01 n02 n03 n12 n13 n23 hlo
      refine norm_ (a' := ⟨#[.agg #[.int .i64 a0_0, .slice A0_1 l0_1.length c0_1, .int .i64 a0_2, .int .i64 a0_3, .slice A0_4 l0_4.length c0_4, .int .i64 a0_5], .agg #[.int .i64 a1_0, .slice A1_1 l1_1.length c1_1, .int .i64 a1_2, .int .i64 a1_3, .slice A1_4 l1_4.length c1_4, .int .i64 a1_5], .pointer (some ⟨gp, 0, none⟩), .pointer (some ⟨gq, 0, none⟩), .pointer (some ⟨gr, 0, none⟩), .int .i64 0, .pointer (some ⟨ga, 0, none⟩), .pointer (some ⟨gb, 0, none⟩), .pointer (some ⟨gc, 0, none⟩), .pointer (some ⟨gd, 0, none⟩), .pointer (some ⟨g0, 0, none⟩), .pointer (some ⟨g1, 0, none⟩), .pointer (some ⟨g2, 0, none⟩), .pointer (some ⟨g3, 0, none⟩), u14, u15, u16, u17, u18, u19, u20, u21, u22, u23, u24, u25, u26, u27, u28, u29, u30, u31, u32, u33, u34, .agg #[.pointer (some ⟨za, 0, none⟩), .int .i64 a0_2], .agg #[.pointer (some ⟨zc, 0, none⟩), .int .i64 a1_2], .agg #[.pointer (some ⟨z0, 0, none⟩), .int .i64 (a0_2 + a1_2)], .agg #[.pointer (some ⟨zb, 0, none⟩), .int .i64 a0_5], .agg #[.pointer (some ⟨zd, 0, none⟩), .int .i64 a1_5], .agg #[.pointer (some ⟨z1, 0, none⟩), .int .i64 (a0_5 + a1_5)], .agg #[.pointer (some ⟨za, 0, none⟩), .int .i64 a0_2], .agg #[.pointer (some ⟨zd, 0, none⟩), .int .i64 a1_5], .agg #[.pointer (some ⟨z2, 0, none⟩), .int .i64 (a0_2 + a1_5)], .agg #[.pointer (some ⟨zb, 0, none⟩), .int .i64 a0_5], .agg #[.pointer (some ⟨zc, 0, none⟩), .int .i64 a1_2], .agg #[.pointer (some ⟨z3, 0, none⟩), .int .i64 (a0_5 + a1_2)], u47, u48, u49, u50, u51, u52, u53, u54, u55, u56, u57, u58, u59, u60, u61, u62, u63], []⟩) rfl ?_
      refine last_ (i := 16) (N := none) #[true, true, true, true, true, true, true, true, true, true, true, true, true, true, true, true, true, false, false, false] rfl rfl (by kernel_rfl) (by decide) (fun K hK => ?_)
      obtain ⟨c0, c1, f0, f1⟩ := ck2_ (am_ G0.out.x)
      refine skip_ (w1 := ?_) (by rfl) rfl ?_ ?_
      rotate_left
      ·go_simp
       rfl
      refine hK.out _ _ ?_
      clear hK K
      clear c0 c1 f0 f1
      have X := am_ (put2h G0.out (.pointer (some ⟨z0, 0, none⟩)) (.int .i64 (a0_2 + a1_2)))
      replace G1 := am_ ((G1.out.far (NE01.out.symm) 0 (.pointer (some ⟨z0, 0, none⟩))).far (NE01.out.symm) 1 (.int .i64 (a0_2 + a1_2)))
      replace G2 := am_ ((G2.out.far (NE02.out.symm) 0 (.pointer (some ⟨z0, 0, none⟩))).far (NE02.out.symm) 1 (.int .i64 (a0_2 + a1_2)))
      replace G3 := am_ ((G3.out.far (NE03.out.symm) 0 (.pointer (some ⟨z0, 0, none⟩))).far (NE03.out.symm) 1 (.int .i64 (a0_2 + a1_2)))
      replace B0 := am_ (big_puth G0.out B0.out (.pointer (some ⟨z0, 0, none⟩)) (.int .i64 (a0_2 + a1_2)))
      replace B1 := am_ (big_puth G0.out B1.out (.pointer (some ⟨z0, 0, none⟩)) (.int .i64 (a0_2 + a1_2)))
      replace B2 := am_ (big_puth G0.out B2.out (.pointer (some ⟨z0, 0, none⟩)) (.int .i64 (a0_2 + a1_2)))
      replace B3 := am_ (big_puth G0.out B3.out (.pointer (some ⟨z0, 0, none⟩)) (.int .i64 (a0_2 + a1_2)))
      replace HB := am_ (set2h HB.out EG0.out (.pointer (some ⟨z0, 0, none⟩)) (.int .i64 (a0_2 + a1_2)))
      generalize (w1.setCell ⟨g0, 0, none⟩ (.pointer (some ⟨z0, 0, none⟩))).setCell ⟨g0, 1, none⟩ (.int .i64 (a0_2 + a1_2)) = w1 at X G1 G2 G3 B0 B1 B2 B3 HB ⊢
      replace G0 := X; clear X
      refine last_ (i := 17) (N := none) #[true, true, true, true, true, true, true, true, true, true, true, true, true, true, true, true, true, true, false, false] rfl rfl (by kernel_rfl) (by decide) (fun K hK => ?_)
      obtain ⟨c0, c1, f0, f1⟩ := ck2_ (am_ G1.out.x)
      refine skip_ (w1 := ?_) (by rfl) rfl ?_ ?_
      rotate_left
      ·go_simp
       rfl
      refine hK.out _ _ ?_
      clear hK K
      clear c0 c1 f0 f1
      have X := am_ (put2h G1.out (.pointer (some ⟨z1, 0, none⟩)) (.int .i64 (a0_5 + a1_5)))
      replace G0 := am_ ((G0.out.far (NE01.out) 0 (.pointer (some ⟨z1, 0, none⟩))).far (NE01.out) 1 (.int .i64 (a0_5 + a1_5)))
      replace G2 := am_ ((G2.out.far (NE12.out.symm) 0 (.pointer (some ⟨z1, 0, none⟩))).far (NE12.out.symm) 1 (.int .i64 (a0_5 + a1_5)))
      replace G3 := am_ ((G3.out.far (NE13.out.symm) 0 (.pointer (some ⟨z1, 0, none⟩))).far (NE13.out.symm) 1 (.int .i64 (a0_5 + a1_5)))
      replace B0 := am_ (big_puth G1.out B0.out (.pointer (some ⟨z1, 0, none⟩)) (.int .i64 (a0_5 + a1_5)))
      replace B1 := am_ (big_puth G1.out B1.out (.pointer (some ⟨z1, 0, none⟩)) (.int .i64 (a0_5 + a1_5)))
      replace B2 := am_ (big_puth G1.out B2.out (.pointer (some ⟨z1, 0, none⟩)) (.int .i64 (a0_5 + a1_5)))
      replace B3 := am_ (big_puth G1.out B3.out (.pointer (some ⟨z1, 0, none⟩)) (.int .i64 (a0_5 + a1_5)))
      replace HB := am_ (set2h HB.out EG1.out (.pointer (some ⟨z1, 0, none⟩)) (.int .i64 (a0_5 + a1_5)))
      generalize (w1.setCell ⟨g1, 0, none⟩ (.pointer (some ⟨z1, 0, none⟩))).setCell ⟨g1, 1, none⟩ (.int .i64 (a0_5 + a1_5)) = w1 at X G0 G2 G3 B0 B1 B2 B3 HB ⊢
      replace G1 := X; clear X
      refine last_ (i := 18) (N := none) #[true, true, true, true, true, true, true, true, true, true, true, true, true, true, true, true, true, true, true, false] rfl rfl (by kernel_rfl) (by decide) (fun K hK => ?_)
      obtain ⟨c0, c1, f0, f1⟩ := ck2_ (am_ G2.out.x)
      refine skip_ (w1 := ?_) (by rfl) rfl ?_ ?_
      rotate_left
      ·go_simp
       rfl
      refine hK.out _ _ ?_
      clear hK K
      clear c0 c1 f0 f1
      have X := am_ (put2h G2.out (.pointer (some ⟨z2, 0, none⟩)) (.int .i64 (a0_2 + a1_5)))
      replace G0 := am_ ((G0.out.far (NE02.out) 0 (.pointer (some ⟨z2, 0, none⟩))).far (NE02.out) 1 (.int .i64 (a0_2 + a1_5)))
      replace G1 := am_ ((G1.out.far (NE12.out) 0 (.pointer (some ⟨z2, 0, none⟩))).far (NE12.out) 1 (.int .i64 (a0_2 + a1_5)))
      replace G3 := am_ ((G3.out.far (NE23.out.symm) 0 (.pointer (some ⟨z2, 0, none⟩))).far (NE23.out.symm) 1 (.int .i64 (a0_2 + a1_5)))
      replace B0 := am_ (big_puth G2.out B0.out (.pointer (some ⟨z2, 0, none⟩)) (.int .i64 (a0_2 + a1_5)))
      replace B1 := am_ (big_puth G2.out B1.out (.pointer (some ⟨z2, 0, none⟩)) (.int .i64 (a0_2 + a1_5)))
      replace B2 := am_ (big_puth G2.out B2.out (.pointer (some ⟨z2, 0, none⟩)) (.int .i64 (a0_2 + a1_5)))
      replace B3 := am_ (big_puth G2.out B3.out (.pointer (some ⟨z2, 0, none⟩)) (.int .i64 (a0_2 + a1_5)))
      replace HB := am_ (set2h HB.out EG2.out (.pointer (some ⟨z2, 0, none⟩)) (.int .i64 (a0_2 + a1_5)))
      generalize (w1.setCell ⟨g2, 0, none⟩ (.pointer (some ⟨z2, 0, none⟩))).setCell ⟨g2, 1, none⟩ (.int .i64 (a0_2 + a1_5)) = w1 at X G0 G1 G3 B0 B1 B2 B3 HB ⊢
      replace G2 := X; clear X
      refine last_ (i := 19) (N := none) #[true, true, true, true, true, true, true, true, true, true, true, true, true, true, true, true, true, true, true, true] rfl rfl (by kernel_rfl) (by decide) (fun K hK => ?_)
      obtain ⟨c0, c1, f0, f1⟩ := ck2_ (am_ G3.out.x)
      refine skip_ (w1 := ?_) (by rfl) rfl ?_ ?_
      rotate_left
      ·go_simp
       rfl
      refine hK.out _ _ ?_
      clear hK K
      clear c0 c1 f0 f1
      have X := am_ (put2h G3.out (.pointer (some ⟨z3, 0, none⟩)) (.int .i64 (a0_5 + a1_2)))
      replace G0 := am_ ((G0.out.far (NE03.out) 0 (.pointer (some ⟨z3, 0, none⟩))).far (NE03.out) 1 (.int .i64 (a0_5 + a1_2)))
      replace G1 := am_ ((G1.out.far (NE13.out) 0 (.pointer (some ⟨z3, 0, none⟩))).far (NE13.out) 1 (.int .i64 (a0_5 + a1_2)))
      replace G2 := am_ ((G2.out.far (NE23.out) 0 (.pointer (some ⟨z3, 0, none⟩))).far (NE23.out) 1 (.int .i64 (a0_5 + a1_2)))
      replace B0 := am_ (big_puth G3.out B0.out (.pointer (some ⟨z3, 0, none⟩)) (.int .i64 (a0_5 + a1_2)))
      replace B1 := am_ (big_puth G3.out B1.out (.pointer (some ⟨z3, 0, none⟩)) (.int .i64 (a0_5 + a1_2)))
      replace B2 := am_ (big_puth G3.out B2.out (.pointer (some ⟨z3, 0, none⟩)) (.int .i64 (a0_5 + a1_2)))
      replace B3 := am_ (big_puth G3.out B3.out (.pointer (some ⟨z3, 0, none⟩)) (.int .i64 (a0_5 + a1_2)))
      replace HB := am_ (set2h HB.out EG3.out (.pointer (some ⟨z3, 0, none⟩)) (.int .i64 (a0_5 + a1_2)))
      generalize (w1.setCell ⟨g3, 0, none⟩ (.pointer (some ⟨z3, 0, none⟩))).setCell ⟨g3, 1, none⟩ (.int .i64 (a0_5 + a1_2)) = w1 at X G0 G1 G2 B0 B1 B2 B3 HB ⊢
      replace G3 := X; clear X
      refine done_ (by kernel_rfl) ?_
      go_wp2
      go_meet
      exact ⟨g0, g1, g2, g3, z0, z1, z2, z3, rfl, rfl, rfl, rfl, ⟨⟨G0.out.x, B0.out⟩, ⟨G1.out.x, B1.out⟩, ⟨G2.out.x, B2.out⟩, ⟨G3.out.x, B3.out⟩, HB.out⟩⟩
    case rest =>
     obtain ⟨ge, gf, gg, gh, ze, zf, zg, zh, rfl, rfl, rfl, rfl, ⟨hN0, hN1, hN2, hN3, hlo⟩⟩ := hcut
     have M4 := am_ hN0; have M5 := am_ hN1; have M6 := am_ hN2; have M7 := am_ hN3; replace R := am_ (R.out.below hlo); replace L := am_ (L.out.trans (hlo.mono L.out.size))
     clear hN0 hN1 hN2 hN3 hlo M0 M1 M2 M3 HB
     obtain ⟨p0, p1⟩ := M4.out.cells; obtain ⟨p2, p3⟩ := M5.out.cells; obtain ⟨p4, p5⟩ := M6.out.cells; obtain ⟨p6, p7⟩ := M7.out.cells
     go_wp2_with fail
     have hb := below_alloc (Below.refl wc.heap.size wc) (.cells #[.pointer (some ⟨ze, 0, none⟩), .int .i64 (a0_2 + a1_2), .pointer (some ⟨zf, 0, none⟩), .int .i64 (a0_5 + a1_5), .pointer (some ⟨zg, 0, none⟩), .int .i64 (a0_2 + a1_5), .pointer (some ⟨zh, 0, none⟩), .int .i64 (a0_5 + a1_2)] 90)
     have NR := am_ (heap_alloc_new wc (.cells #[.pointer (some ⟨ze, 0, none⟩), .int .i64 (a0_2 + a1_2), .pointer (some ⟨zf, 0, none⟩), .int .i64 (a0_5 + a1_5), .pointer (some ⟨zg, 0, none⟩), .int .i64 (a0_2 + a1_5), .pointer (some ⟨zh, 0, none⟩), .int .i64 (a0_5 + a1_2)] 90))
     replace M4 := am_ (M4.out.below hb); replace M5 := am_ (M5.out.below hb); replace M6 := am_ (M6.out.below hb); replace M7 := am_ (M7.out.below hb); replace R := am_ (R.out.below hb); replace L := am_ (L.out.trans (hb.mono L.out.size))
     have AF := am_ (all_four (wv a0_0 l0_1 * wv a1_0 l1_1) (a0_2 + a1_2) (wv a0_3 l0_4 * wv a1_3 l1_4) (a0_5 + a1_5) (wv a0_0 l0_1 * wv a1_3 l1_4) (a0_2 + a1_5) (wv a0_3 l0_4 * wv a1_0 l1_1) (a0_5 + a1_2))
     have NM := am_ (num_four NR.out M4.out.big M5.out.big M6.out.big M7.out.big (by have := HE.out; omega) (by have := HE.out; omega) (by have := HE.out; omega) (by have := HE.out; omega))
     clear p0 p1 p2 p3 p4 p5 p6 p7 NR hb
     refine (areSmall_calls wc.heap.size 4 4 _ _ _ _ (by omega) NM.out (HT.out.below L.out)).mono ?_
     rintro e w1 ⟨rfl, hb⟩
     rw [AF.out]
     replace M4 := am_ (M4.out.below hb); replace M5 := am_ (M5.out.below hb); replace M6 := am_ (M6.out.below hb); replace M7 := am_ (M7.out.below hb); replace R := am_ (R.out.below hb); replace L := am_ (L.out.trans (hb.mono L.out.size))
     clear hb NM
     cases hf : fits (wv a0_0 l0_1 * wv a1_0 l1_1) (a0_2 + a1_2) && (fits (wv a0_3 l0_4 * wv a1_3 l1_4) (a0_5 + a1_5) && (fits (wv a0_0 l0_1 * wv a1_3 l1_4) (a0_2 + a1_5) && fits (wv a0_3 l0_4 * wv a1_0 l1_1) (a0_5 + a1_2)))
     ·have h := HH.out
      rw [hf] at h
      simp only [Bool.false_eq_true, if_false, Prod.mk.injEq] at h
      obtain ⟨rfl, rfl, rfl, rfl, rfl, rfl, rfl⟩ := h
      clear hf HH
      obtain ⟨y0, y1, y2, y3, y4, y5, f0, f1, f2, f3, f4, f5⟩ := ck6_ (am_ R.out.x)
      go_wp2_with fail
      refine bodyPost_ret (results_ct rfl _ _ gr 47 #[.int .i64 0, .slice none 0 0, .int .i64 0, .int .i64 0, .slice none 0 0, .int .i64 0] (0, 0) _ rfl (put6 R.out.x _ _ _ _ _ _) Tryd.underlying47 rfl (by kernel_rfl)) rfl ?_
      exact ⟨_, _, rfl, Kd.R_nil _ _ _ _ _, Kd.R_nil _ _ _ _ _, set6 L.out GR.out _ _ _ _ _ _⟩
     ·have h := HH.out
      rw [hf] at h
      simp only [if_true] at h
      replace HH := am_ h
      clear hf h
      go_upto_region 7 with fail
      refine start_ (n := 11) (S := fun w' => w'.cell? ⟨ge, 0, none⟩ = some (.pointer (some ⟨ze, 0, none⟩)) ∧ w'.cell? ⟨ge, 1, none⟩ = some (.int .i64 (a0_2 + a1_2)) ∧ w'.cell? ⟨gf, 0, none⟩ = some (.pointer (some ⟨zf, 0, none⟩)) ∧ w'.cell? ⟨gf, 1, none⟩ = some (.int .i64 (a0_5 + a1_5)) ∧ w'.cell? ⟨gg, 0, none⟩ = some (.pointer (some ⟨zg, 0, none⟩)) ∧ w'.cell? ⟨gg, 1, none⟩ = some (.int .i64 (a0_2 + a1_5)) ∧ w'.cell? ⟨gh, 0, none⟩ = some (.pointer (some ⟨zh, 0, none⟩)) ∧ w'.cell? ⟨gh, 1, none⟩ = some (.int .i64 (a0_5 + a1_2))) (ds := [9]) #[false, false, false, false, false, false, false, false, false, false, false] (by kernel_rfl) rfl rfl ⟨M4.out.cells.1, M4.out.cells.2, M5.out.cells.1, M5.out.cells.2, M6.out.cells.1, M6.out.cells.2, M7.out.cells.1, M7.out.cells.2⟩ (fun hHeld => ?_)
      have Dw2 := am_ ((Below.refl w1.heap.size w1).drew)
      generalize w1.drew = w2 at hHeld Dw2 ⊢
      refine tk_ #[true, false, false, false, false, false, false, false, false, false, false] 0 55 (by kernel_rfl) hHeld ?_
      refine tk_ #[true, true, false, false, false, false, false, false, false, false, false] 1 56 (by kernel_rfl) hHeld ?_
      refine tk_ #[true, true, false, true, false, false, false, false, false, false, false] 3 58 (by kernel_rfl) hHeld ?_
      refine tk_ #[true, true, false, true, true, false, false, false, false, false, false] 4 59 (by kernel_rfl) hHeld ?_
      refine one_ (i := 2) (N := some 57) #[true, true, true, true, true, false, false, false, false, false, false] rfl rfl (by kernel_rfl) (by decide) (fun K hK => ?_)
      replace M4 := am_ (M4.out.below Dw2.out); replace M5 := am_ (M5.out.below Dw2.out); replace M6 := am_ (M6.out.below Dw2.out); replace M7 := am_ (M7.out.below Dw2.out); replace R := am_ (R.out.below Dw2.out); replace L := am_ (L.out.trans (Dw2.out.mono L.out.size))
      refine goes_ Tryd.func78 (by kernel_rfl) rfl #[.agg #[.pointer (some ⟨ze, 0, none⟩), .int .i64 (a0_2 + a1_2)], .agg #[.pointer (some ⟨zf, 0, none⟩), .int .i64 (a0_5 + a1_5)]] (by rfl) rfl rfl ma_ ?_
      with_reducible refine (minus_calls ze zf _ _ (a0_2 + a1_2) (a0_5 + a1_5) _ M4.out.big M5.out.big (by have := HE.out; omega) (by have := HE.out; omega) (HT.out.below L.out)).mono ?_
      rintro x w1 ⟨x1, rfl, hbig, hp, hb⟩
      refine ⟨_, rfl, ?_⟩
      have Z1 := am_ hbig; have HP1 := am_ hp; replace M4 := am_ (M4.out.below hb); replace M5 := am_ (M5.out.below hb); replace M6 := am_ (M6.out.below hb); replace M7 := am_ (M7.out.below hb); replace R := am_ (R.out.below hb); replace L := am_ (L.out.trans (hb.mono L.out.size)); clear hb hbig hp
      refine hK.out _ _ ⟨M4.out.cells.1, M4.out.cells.2, M5.out.cells.1, M5.out.cells.2, M6.out.cells.1, M6.out.cells.2, M7.out.cells.1, M7.out.cells.2⟩ (fun hHeld => ?_)
      clear hK K
      refine nr_ ?_
      refine one_ (i := 5) (N := some 60) #[true, true, true, true, true, true, false, false, false, false, false] rfl rfl (by kernel_rfl) (by decide) (fun K hK => ?_)
      refine goes_ Tryd.func69 (by kernel_rfl) rfl #[.agg #[.pointer (some ⟨zg, 0, none⟩), .int .i64 (a0_2 + a1_5)], .agg #[.pointer (some ⟨zh, 0, none⟩), .int .i64 (a0_5 + a1_2)]] (by rfl) rfl rfl ma_ ?_
      with_reducible refine (plus_calls zg zh _ _ (a0_2 + a1_5) (a0_5 + a1_2) _ M6.out.big M7.out.big (by have := HE.out; omega) (by have := HE.out; omega) (HT.out.below L.out)).mono ?_
      rintro x w1 ⟨x2, rfl, hbig, hp, hb⟩
      refine ⟨_, rfl, ?_⟩
      have Z2 := am_ hbig; have HP2 := am_ hp; replace Z1 := am_ (Z1.out.below hb); replace M4 := am_ (M4.out.below hb); replace M5 := am_ (M5.out.below hb); replace M6 := am_ (M6.out.below hb); replace M7 := am_ (M7.out.below hb); replace R := am_ (R.out.below hb); replace L := am_ (L.out.trans (hb.mono L.out.size)); clear hb hbig hp
      refine hK.out _ _ ⟨M4.out.cells.1, M4.out.cells.2, M5.out.cells.1, M5.out.cells.2, M6.out.cells.1, M6.out.cells.2, M7.out.cells.1, M7.out.cells.2⟩ (fun hHeld => ?_)
      clear hK K
      refine nr_ ?_
      refine one_ (i := 6) (N := some 61) #[true, true, true, true, true, true, true, false, false, false, false] rfl rfl (by kernel_rfl) (by decide) (fun K hK => ?_)
      refine goes_ Tryd.func67 (by kernel_rfl) rfl #[.agg #[.pointer (some ⟨x1, 0, none⟩), .int .i64 (mn (a0_2 + a1_2) (a0_5 + a1_5))], .agg #[.pointer (some ⟨x2, 0, none⟩), .int .i64 (mn (a0_2 + a1_5) (a0_5 + a1_2))]] (by rfl) rfl rfl ma_ ?_
      with_reducible refine (exactOr_calls x1 x2 _ _ _ _ 5000 _ Z1.out Z2.out (by omega) (by have := HP1.out; omega) (by have := HP2.out; omega) (HT.out.below L.out) r1 r2 r3 r4 r5 r6 r7 HH.out).mono ?_
      rintro x w1 ⟨v1, v4, rfl, hr1, hr4, hne, hb⟩
      refine ⟨_, rfl, ?_⟩
      obtain ⟨B1, d1, rfl⟩ := Kd.R_slice hr1.row
      obtain ⟨B4, d4, rfl⟩ := Kd.R_slice hr4.row
      have V1 := am_ (RO.of (w := w) hr1.row L.out.size); have V4 := am_ (RO.of (w := w) hr4.row L.out.size); have NE := am_ hne; replace M4 := am_ (M4.out.below hb); replace M5 := am_ (M5.out.below hb); replace M6 := am_ (M6.out.below hb); replace M7 := am_ (M7.out.below hb); replace R := am_ (R.out.below hb); replace L := am_ (L.out.trans (hb.mono L.out.size)); clear hb hr1 hr4 hne
      refine hK.out _ _ ⟨M4.out.cells.1, M4.out.cells.2, M5.out.cells.1, M5.out.cells.2, M6.out.cells.1, M6.out.cells.2, M7.out.cells.1, M7.out.cells.2⟩ (fun hHeld => ?_)
      clear hK K
      refine nr_ ?_
      refine pu_ #[true, true, true, true, true, true, true, true, false, false, false] 7 62 (by kernel_rfl) ?_
      refine pu_ #[true, true, true, true, true, true, true, true, true, false, false] 8 63 (by kernel_rfl) ?_
      refine last_ (i := 9) (N := none) #[true, true, true, true, true, true, true, true, true, true, false] rfl rfl (by kernel_rfl) (by decide) (fun K hK => ?_)
      obtain ⟨y0, y1, y2, y3, y4, y5, f0, f1, f2, f3, f4, f5⟩ := ck6_ (am_ R.out.x)
      refine skip_ (w1 := ?_) (by rfl) rfl ?_ ?_
      rotate_left
      ·go_simp
       rfl
      refine hK.out _ _ ?_
      clear hK K
      refine pu_ #[true, true, true, true, true, true, true, true, true, true, true] 10 5 (by kernel_rfl) ?_
      refine done_ (by kernel_rfl) ?_
      clear hHeld
      go_wp2
      refine bodyPost_ret (results_ct rfl _ _ gr 47 #[.int .i64 r1, .slice B1 r2.length d1, .int .i64 r3, .int .i64 r4, .slice B4 r5.length d4, .int .i64 r6] (0, 0) _ rfl (put6 R.out.x _ _ _ _ _ _) Tryd.underlying47 rfl (by kernel_rfl)) rfl ?_
      exact ⟨_, _, rfl, (V1.out.far6 R.out.x (by decide) _ _ _ _ _ _).two NE.out, (V4.out.far6 R.out.x (by decide) _ _ _ _ _ _).two NE.out.symm, set6 L.out GR.out _ _ _ _ _ _⟩
end Go.Proofs.YtghhphndbbefjaaDoor
