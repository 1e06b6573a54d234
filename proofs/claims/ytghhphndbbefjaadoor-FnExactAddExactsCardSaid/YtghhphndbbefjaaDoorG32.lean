/- The contracts of impl.exactOr and impl.AddExacts in plain words. Conditions: at most 1000000000 limbs; the library's table holds its numbers. -/
import Derived.Test.YtghhphndbbefjaaDoorDyE
import Derived.Test.YtghhphndbbefjaaDoorG9
import Derived.Test.YtghhphndbbefjaaDoorLawD
import Derived.BigRegion
import Derived.Test.YtghhphndbbefjaaDoorX5
import Derived.Test.YtghhphndbbefjaaDoorG14
import Derived.Test.YtghhphndbbefjaaDoorX6
namespace Go.Proofs.YtghhphndbbefjaaDoor
open Go.RowKit Go.Proofs.YtghhphndbbefjaaDoorW.PrintWords Go.Proofs.YtghhphndbbefjaaDoorW.PrintLast Go.Proofs.YtghhphndbbefjaaDoorW.PrintMore Go.Proofs.YtghhphndbbefjaaDoor.Math Go.Proofs.YtghhphndbbefjaaDoor.Big Go.Proofs.YtghhphndbbefjaaDoor.Sq
set_option linter.unusedVariables false
set_option linter.unusedSimpArgs false
def exfit (V p U q : Int) : Int × List Int × Int × Int × List Int × Int × Int :=
 if fits V p && fits U q then ((dymk V p).1, (dymk V p).2.1, (dymk V p).2.2, (dymk U q).1, (dymk U q).2.1, (dymk U q).2.2, 0) else (0, [], 0, 0, [], 0, 3)
theorem dyfit_mk {V p : Int} (h : fits V p = true) : dyfit V p = ((dymk V p).1, (dymk V p).2.1, (dymk V p).2.2, 0) := by
 unfold fits dyfit at h
 unfold dyfit dymk
 split
 ·rfl
 ·split
  ·rfl
  ·rename_i h1 h2
   rw [if_neg h1, if_neg h2] at h
   cases h
theorem RO.own {w wr : World} {base : Nat} {v : Value} {l : List Int} (h : wr.ownsRow base 2 1 v l.length (nums .i64 l)) (hb : w.heap.size ≤ base) : RO w wr v l := RO.of (Kd.R_of_own h (fun _ _ => trivial)) hb
theorem own_base' {wr : World} {base : Nat} {v : Value} {l : List Int} (h : wr.ownsRow base 2 1 v l.length (nums .i64 l)) : Kd.R (Kd.int .i64) 2 wr base (fun _ => True) v l := Kd.R_of_own h (fun _ _ => trivial)
theorem set6 {w wr : World} {g : Nat} (h : Below w.heap.size w wr) (hg : w.heap.size ≤ g) (a b c d e f : Value) : Below w.heap.size w ((((((wr.setCell ⟨g, 0, none⟩ a).setCell ⟨g, 1, none⟩ b).setCell ⟨g, 2, none⟩ c).setCell ⟨g, 3, none⟩ d).setCell ⟨g, 4, none⟩ e).setCell ⟨g, 5, none⟩ f) :=
 (((set3 h hg a b c).setCell (show w.heap.size ≤ (⟨g, 3, none⟩ : Addr).block from hg) _).setCell (show w.heap.size ≤ (⟨g, 4, none⟩ : Addr).block from hg) _).setCell (show w.heap.size ≤ (⟨g, 5, none⟩ : Addr).block from hg) _
theorem put6 {wr : World} {g : Nat} {x0 x1 x2 x3 x4 x5 : Value} {T : TypeId} (h : wr.heap[g]? = some (.cells #[x0, x1, x2, x3, x4, x5] T (0, 0))) (a b c d e f : Value) : ((((((wr.setCell ⟨g, 0, none⟩ a).setCell ⟨g, 1, none⟩ b).setCell ⟨g, 2, none⟩ c).setCell ⟨g, 3, none⟩ d).setCell ⟨g, 4, none⟩ e).setCell ⟨g, 5, none⟩ f).heap[g]? = some (.cells #[a, b, c, d, e, f] T (0, 0)) :=
 blk_put (cs := #[a, b, c, d, e, x5]) (blk_put (cs := #[a, b, c, d, x4, x5]) (blk_put (cs := #[a, b, c, x3, x4, x5]) (blk_put (cs := #[a, b, x2, x3, x4, x5]) (blk_put (cs := #[a, x1, x2, x3, x4, x5]) (blk_put (cs := #[x0, x1, x2, x3, x4, x5]) h 0 a rfl) 1 b rfl) 2 c rfl) 3 d rfl) 4 e rfl) 5 f rfl
theorem RO.far6 {w wr : World} {v : Value} {l : List Int} {g : Nat} {x0 x1 x2 x3 x4 x5 : Value} {T : TypeId} (h : RO w wr v l) (hb : wr.heap[g]? = some (.cells #[x0, x1, x2, x3, x4, x5] T (0, 0))) (hT : 2 ≠ T) (a b c d e f : Value) :
  RO w ((((((wr.setCell ⟨g, 0, none⟩ a).setCell ⟨g, 1, none⟩ b).setCell ⟨g, 2, none⟩ c).setCell ⟨g, 3, none⟩ d).setCell ⟨g, 4, none⟩ e).setCell ⟨g, 5, none⟩ f) v l :=
 (((((h.far ⟨hb⟩ hT 0 a).far ⟨blk_put (cs := #[x0, x1, x2, x3, x4, x5]) hb 0 a rfl⟩ hT 1 b).far ⟨blk_put (cs := #[a, x1, x2, x3, x4, x5]) (blk_put (cs := #[x0, x1, x2, x3, x4, x5]) hb 0 a rfl) 1 b rfl⟩ hT 2 c).far ⟨blk_put (cs := #[a, b, x2, x3, x4, x5]) (blk_put (cs := #[a, x1, x2, x3, x4, x5]) (blk_put (cs := #[x0, x1, x2, x3, x4, x5]) hb 0 a rfl) 1 b rfl) 2 c rfl⟩ hT 3 d).far
  ⟨blk_put (cs := #[a, b, c, x3, x4, x5]) (blk_put (cs := #[a, b, x2, x3, x4, x5]) (blk_put (cs := #[a, x1, x2, x3, x4, x5]) (blk_put (cs := #[x0, x1, x2, x3, x4, x5]) hb 0 a rfl) 1 b rfl) 2 c rfl) 3 d rfl⟩ hT 4 e).far
  ⟨blk_put (cs := #[a, b, c, d, x4, x5]) (blk_put (cs := #[a, b, c, x3, x4, x5]) (blk_put (cs := #[a, b, x2, x3, x4, x5]) (blk_put (cs := #[a, x1, x2, x3, x4, x5]) (blk_put (cs := #[x0, x1, x2, x3, x4, x5]) hb 0 a rfl) 1 b rfl) 2 c rfl) 3 d rfl) 4 e rfl⟩ hT 5 f
theorem RO.two {w wr : World} {v u : Value} {l : List Int} (h : RO w wr v l) (hn : NeRow v u) : Kd.R (Kd.int .i64) 2 wr w.heap.size (fun k => some k ≠ u.ownBlock) v l := Kd.R_mono h.row hn
set_option maxRecDepth 100000 in
set_option maxHeartbeats 4000000 in
theorem exactOr_calls (x y : Nat) (V p U q : Int) (m : Nat) (w : World) (hx : Big w x V m) (hy : Big w y U m) (hm : m ≤ 20000) (hp : -1000000 ≤ p ∧ p ≤ 1000000) (hq : -1000000 ≤ q ∧ q ≤ 1000000) (hT : Tab w) (r1 : Int) (r2 : List Int) (r3 r4 : Int) (r5 : List Int) (r6 r7 : Int) (h : exfit V p U q = (r1, r2, r3, r4, r5, r6, r7)) :
  Calls Tryd.prog 67 #[.agg #[.pointer (some ⟨x, 0, none⟩), .int .i64 p], .agg #[.pointer (some ⟨y, 0, none⟩), .int .i64 q]] w fun e w' => ∃ v1_ v4_ : Value, e = .returned (.tuple #[.agg #[.int .i64 r1, v1_, .int .i64 r3, .int .i64 r4, v4_, .int .i64 r6], .int .i64 r7]) ∧ RO w w' v1_ r2 ∧ RO w w' v4_ r5 ∧ NeRow v1_ v4_ ∧ Below w.heap.size w w' := by
 have HX := Aside0.mk hx; have HY := Aside0.mk hy; have HT := Aside0.mk hT; have HH := Aside0.mk h
 clear hx hy hT h
 obtain ⟨s1, s2, s3, s4, hS⟩ : ∃ s1 s2 s3 s4, dyfit V p = (s1, s2, s3, s4) := ⟨_, _, _, _, rfl⟩
 obtain ⟨t1, t2, t3, t4, hU⟩ : ∃ t1 t2 t3 t4, dyfit U q = (t1, t2, t3, t4) := ⟨_, _, _, _, rfl⟩
 have HS := Aside0.mk hS; have HU := Aside0.mk hU
 clear hS hU
 go_enter Tryd.func67, Tryd.ntmps67
 go_upto_region 1 with fail
 obtain ⟨w1, gx, e1, e2, hB, hb⟩ := new_box w #[.pointer (some ⟨x, 0, none⟩), .int .i64 p] 90
 rw [← e1]; rw [← e2]
 have BA := Aside0.mk hB; have L := Aside0.mk hb; have z1 : w1.heap.size = gx + 1 := by rw [e1, e2]; simp
 clear hB hb e1 e2
 obtain ⟨w1, gy, e1, e2, hB, hb⟩ := new_box w1 #[.pointer (some ⟨y, 0, none⟩), .int .i64 q] 90
 rw [← e1]; rw [← z1]; rw [← e2]
 have z2 : w1.heap.size = gy + 1 := by rw [e1, alloc_size, e2]
 have BB := Aside0.mk hB; replace BA := Aside0.mk (BA.out.below hb); replace L := Aside0.mk (L.out.trans (hb.mono L.out.size)); clear hB hb e1 e2 z1
 obtain ⟨w1, gr, e1, e2, hB, hb⟩ := new_box w1 #[.int .i64 0, .slice none 0 0, .int .i64 0, .int .i64 0, .slice none 0 0, .int .i64 0] 47
 rw [← e1]; rw [← z2]; rw [← e2]
 have R := Aside0.mk hB; have GR := Aside0.mk (show w.heap.size ≤ gr from by rw [e2]; exact L.out.size); replace BA := Aside0.mk (BA.out.below hb); replace BB := Aside0.mk (BB.out.below hb); replace L := Aside0.mk (L.out.trans (hb.mono L.out.size)); clear hB hb e1 e2 z2
 have p0 := BA.out.cell 0 _ rfl; have p1 := BA.out.cell 1 _ rfl
 go_wp2_with fail
 refine (dyadic_calls x V p m _ (HX.out.below L.out) hm hp.1 hp.2 (HT.out.below L.out) s1 s2 s3 s4 HS.out).mono ?_
 rintro e w1 ⟨v, rfl, hr, hb⟩
 obtain ⟨A1, c1, rfl⟩ := own_slice hr
 have V1 := Aside0.mk (RO.own (w := w) hr L.out.size); replace BB := Aside0.mk (BB.out.below hb); replace R := Aside0.mk (R.out.below hb); replace L := Aside0.mk (L.out.trans (hb.mono L.out.size)); clear hr hb p0 p1 BA
 go_upto_region 2 with fail
 obtain ⟨w1, g6, e1, e2, hB, hb⟩ := new_box w1 #[.int .i64 s1, .slice A1 s2.length c1, .int .i64 s3] 45
 rw [← e1]; rw [← e2]
 have G6 := Aside0.mk hB; replace BB := Aside0.mk (BB.out.below hb); replace R := Aside0.mk (R.out.below hb); replace V1 := Aside0.mk (V1.out.below hb); replace L := Aside0.mk (L.out.trans (hb.mono L.out.size)); clear hB hb e1 e2
 have p0 := BB.out.cell 0 _ rfl; have p1 := BB.out.cell 1 _ rfl
 go_wp2_with fail
 refine (dyadic_calls y U q m _ (HY.out.below L.out) hm hq.1 hq.2 (HT.out.below L.out) t1 t2 t3 t4 HU.out).mono ?_
 rintro e w1 ⟨v, rfl, hr, hb⟩
 obtain ⟨A2, c2, rfl⟩ := own_slice hr
 have V2 := Aside0.mk (RO.own (w := w) hr L.out.size); have NE := Aside0.mk (NeRow.of V1.out.row (own_base' hr)); replace R := Aside0.mk (R.out.below hb); replace V1 := Aside0.mk (V1.out.below hb); replace G6 := Aside0.mk (G6.out.below hb); replace L := Aside0.mk (L.out.trans (hb.mono L.out.size)); clear hr hb p0 p1 BB
 go_upto_region 3 with fail
 obtain ⟨w1, g8, e1, e2, hB, hb⟩ := new_box w1 #[.int .i64 t1, .slice A2 t2.length c2, .int .i64 t3] 45
 rw [← e1]; rw [← e2]
 have G8 := Aside0.mk hB; replace R := Aside0.mk (R.out.below hb); replace V1 := Aside0.mk (V1.out.below hb); replace V2 := Aside0.mk (V2.out.below hb); replace G6 := Aside0.mk (G6.out.below hb); replace L := Aside0.mk (L.out.trans (hb.mono L.out.size)); clear hB hb e1 e2
 have h := HH.out
 unfold exfit fits at h
 rw [HS.out, HU.out] at h
 by_cases h1 : s4 = 0
 ·subst h1
  by_cases h2 : t4 = 0
  ·subst h2
   have h3 := dyfit_mk (V := V) (p := p) (by unfold fits; rw [HS.out]; rfl)
   have h4 := dyfit_mk (V := U) (p := q) (by unfold fits; rw [HU.out]; rfl)
   rw [HS.out] at h3
   rw [HU.out] at h4
   simp only [Prod.mk.injEq] at h3 h4
   rw [← h3.1, ← h3.2.1, ← h3.2.2.1, ← h4.1, ← h4.2.1, ← h4.2.2.1] at h
   simp only [beq_self_eq_true, Bool.and_self, if_true, Prod.mk.injEq] at h
   obtain ⟨rfl, rfl, rfl, rfl, rfl, rfl, rfl⟩ := h
   clear h3 h4
   have p0 := G6.out.cell 0 _ rfl; have p1 := G6.out.cell 1 _ rfl; have p2 := G6.out.cell 2 _ rfl
   have p3 := G8.out.cell 0 _ rfl; have p4 := G8.out.cell 1 _ rfl; have p5 := G8.out.cell 2 _ rfl
   obtain ⟨y0, y1, y2, y3, y4, y5, f0, f1, f2, f3, f4, f5⟩ := ck6_ (Aside0.mk R.out.x)
   go_wp2_with fail
   refine bodyPost_ret (results_ct rfl _ _ gr 47 #[.int .i64 s1, .slice A1 s2.length c1, .int .i64 s3, .int .i64 t1, .slice A2 t2.length c2, .int .i64 t3] (0, 0) _ rfl (put6 R.out.x _ _ _ _ _ _) Tryd.underlying47 rfl (by kernel_rfl)) rfl ?_
   exact ⟨_, _, rfl, V1.out.far6 R.out.x (by decide) _ _ _ _ _ _, V2.out.far6 R.out.x (by decide) _ _ _ _ _ _, NE.out, set6 L.out GR.out _ _ _ _ _ _⟩
  ·have hb2 : (t4 == 0) = false := by simpa using h2
   have hb3 : (t4 != 0) = true := by simpa using h2
   simp only [hb2, Bool.and_false, Bool.false_eq_true, if_false, Prod.mk.injEq] at h
   obtain ⟨rfl, rfl, rfl, rfl, rfl, rfl, rfl⟩ := h
   obtain ⟨y0, y1, y2, y3, y4, y5, f0, f1, f2, f3, f4, f5⟩ := ck6_ (Aside0.mk R.out.x)
   go_wp2_with fail
   refine bodyPost_ret (results_ct rfl _ _ gr 47 #[.int .i64 0, .slice none 0 0, .int .i64 0, .int .i64 0, .slice none 0 0, .int .i64 0] (0, 0) _ rfl (put6 R.out.x _ _ _ _ _ _) Tryd.underlying47 rfl (by kernel_rfl)) rfl ?_
   exact ⟨_, _, rfl, ⟨Kd.R_nil _ _ _ _ _⟩, ⟨Kd.R_nil _ _ _ _ _⟩, fun k hk => by simp [Value.ownBlock] at hk, set6 L.out GR.out _ _ _ _ _ _⟩
 ·have hb2 : (s4 == 0) = false := by simpa using h1
  have hb3 : (s4 != 0) = true := by simpa using h1
  simp only [hb2, Bool.false_and, Bool.false_eq_true, if_false, Prod.mk.injEq] at h
  obtain ⟨rfl, rfl, rfl, rfl, rfl, rfl, rfl⟩ := h
  obtain ⟨y0, y1, y2, y3, y4, y5, f0, f1, f2, f3, f4, f5⟩ := ck6_ (Aside0.mk R.out.x)
  go_wp2_with fail
  refine bodyPost_ret (results_ct rfl _ _ gr 47 #[.int .i64 0, .slice none 0 0, .int .i64 0, .int .i64 0, .slice none 0 0, .int .i64 0] (0, 0) _ rfl (put6 R.out.x _ _ _ _ _ _) Tryd.underlying47 rfl (by kernel_rfl)) rfl ?_
  exact ⟨_, _, rfl, ⟨Kd.R_nil _ _ _ _ _⟩, ⟨Kd.R_nil _ _ _ _ _⟩, fun k hk => by simp [Value.ownBlock] at hk, set6 L.out GR.out _ _ _ _ _ _⟩
def adres (s : Int) (l : List Int) (e t : Int) (m : List Int) (f : Int) (s' : Int) (l' : List Int) (e' t' : Int) (m' : List Int) (f' : Int) : Int × List Int × Int × Int × List Int × Int × Int :=
 if (isD s l e && isD t m f) && (isD s' l' e' && isD t' m' f') then exfit (wv s l * 2 ^ (e - mn e e').toNat + wv s' l' * 2 ^ (e' - mn e e').toNat) (mn e e') (wv t m * 2 ^ (f - mn f f').toNat + wv t' m' * 2 ^ (f' - mn f f').toNat) (mn f f') else (0, [], 0, 0, [], 0, 1)
def impl_AddExacts.f (a0_0 : Int) (l0_1 : List Int) (a0_2 a0_3 : Int) (l0_4 : List Int) (a0_5 a1_0 : Int) (l1_1 : List Int) (a1_2 a1_3 : Int) (l1_4 : List Int) (a1_5 : Int) : Option (Int × List Int × Int × Int × List Int × Int × Int) :=
 if l0_1.length ≤ 1000000000 ∧ l0_4.length ≤ 1000000000 ∧ l1_1.length ≤ 1000000000 ∧ l1_4.length ≤ 1000000000 then some (adres a0_0 l0_1 a0_2 a0_3 l0_4 a0_5 a1_0 l1_1 a1_2 a1_3 l1_4 a1_5) else none
set_option maxRecDepth 100000 in
set_option maxHeartbeats 8000000 in
theorem impl_AddExacts.calls (a0_0 : Int) (A0_1 : Option Addr) (c0_1 : Nat) (l0_1 : List Int) (a0_2 : Int) (a0_3 : Int) (A0_4 : Option Addr) (c0_4 : Nat) (l0_4 : List Int) (a0_5 : Int) (a1_0 : Int) (A1_1 : Option Addr) (c1_1 : Nat) (l1_1 : List Int) (a1_2 : Int) (a1_3 : Int) (A1_4 : Option Addr) (c1_4 : Nat) (l1_4 : List Int) (a1_5 : Int) (r1 : Int) (r2 : List Int) (r3 r4 : Int) (r5 : List Int) (r6 r7 : Int) (w : World) (hr0_1 : Kd.C (Kd.int .i64) w A0_1 l0_1.length l0_1) (hc0_1 : l0_1.length ≤ c0_1) (hr0_4 : Kd.C (Kd.int .i64) w A0_4 l0_4.length l0_4) (hc0_4 : l0_4.length ≤ c0_4) (hr1_1 : Kd.C (Kd.int .i64) w A1_1 l1_1.length l1_1) (hc1_1 : l1_1.length ≤ c1_1) (hr1_4 : Kd.C (Kd.int .i64) w A1_4 l1_4.length l1_4) (hc1_4 : l1_4.length ≤ c1_4) (hT : Tab w) (h : impl_AddExacts.f a0_0 l0_1 a0_2 a0_3 l0_4 a0_5 a1_0 l1_1 a1_2 a1_3 l1_4 a1_5 = some (r1, r2, r3, r4, r5, r6, r7)) :
  Calls Tryd.prog 27 #[.agg #[.int .i64 a0_0, .slice A0_1 l0_1.length c0_1, .int .i64 a0_2, .int .i64 a0_3, .slice A0_4 l0_4.length c0_4, .int .i64 a0_5], .agg #[.int .i64 a1_0, .slice A1_1 l1_1.length c1_1, .int .i64 a1_2, .int .i64 a1_3, .slice A1_4 l1_4.length c1_4, .int .i64 a1_5]] w fun e w' => ∃ v1_ v4_ : Value, e = .returned (.tuple #[.agg #[.int .i64 r1, v1_, .int .i64 r3, .int .i64 r4, v4_, .int .i64 r6], .int .i64 r7]) ∧ Kd.R (Kd.int .i64) 2 w' w.heap.size (fun k_ => some k_ ≠ (v4_ : Value).ownBlock) v1_ r2 ∧ Kd.R (Kd.int .i64) 2 w' w.heap.size (fun k_ => some k_ ≠ (v1_ : Value).ownBlock) v4_ r5 ∧ Below w.heap.size w w' := by
 unfold impl_AddExacts.f at h
 split at h
 case isFalse => cases h
 rename_i hl
 injection h with h
 have HR1 := Aside0.mk hr0_1; have HR2 := Aside0.mk hr0_4; have HR3 := Aside0.mk hr1_1; have HR4 := Aside0.mk hr1_4; have HT := Aside0.mk hT; have HL := Aside0.mk hl; have HH := Aside0.mk h
 clear hr0_1 hr0_4 hr1_1 hr1_4 hT hl h
 go_enter Tryd.func27, Tryd.ntmps27
 go_upto_region 1 with fail
 obtain ⟨w1, gp, e1, e2, hB, hb⟩ := new_box w #[.int .i64 a0_0, .slice A0_1 l0_1.length c0_1, .int .i64 a0_2, .int .i64 a0_3, .slice A0_4 l0_4.length c0_4, .int .i64 a0_5] 47
 rw [← e1]; rw [← e2]
 have P := Aside0.mk hB; have L := Aside0.mk hb; have z1 : w1.heap.size = gp + 1 := by rw [e1, e2]; simp
 clear hB hb e1 e2
 obtain ⟨w1, gq, e1, e2, hB, hb⟩ := new_box w1 #[.int .i64 a1_0, .slice A1_1 l1_1.length c1_1, .int .i64 a1_2, .int .i64 a1_3, .slice A1_4 l1_4.length c1_4, .int .i64 a1_5] 47
 rw [← e1]; rw [← z1]; rw [← e2]
 have z2 : w1.heap.size = gq + 1 := by rw [e1, alloc_size, e2]
 have Q := Aside0.mk hB; replace P := Aside0.mk (P.out.below hb); replace L := Aside0.mk (L.out.trans (hb.mono L.out.size)); clear hB hb e1 e2 z1
 obtain ⟨w1, gr, e1, e2, hB, hb⟩ := new_box w1 #[.int .i64 0, .slice none 0 0, .int .i64 0, .int .i64 0, .slice none 0 0, .int .i64 0] 47
 rw [← e1]; rw [← z2]; rw [← e2]
 have R := Aside0.mk hB; have GR := Aside0.mk (show w.heap.size ≤ gr from by rw [e2]; exact L.out.size); replace P := Aside0.mk (P.out.below hb); replace Q := Aside0.mk (Q.out.below hb); replace L := Aside0.mk (L.out.trans (hb.mono L.out.size)); clear hB hb e1 e2 z2
 obtain ⟨p0, p1, p2, p3, p4, p5, -, -, -, -, -, -⟩ := ck6_ (Aside0.mk P.out.x)
 go_wp2_with fail
 refine (isExact_calls _ _ _ _ _ _ _ _ _ _ _ (Kd.C_below HR1.out L.out) hc0_1 HL.out.1 (Kd.C_below HR2.out L.out) hc0_4 HL.out.2.1).mono ?_
 rintro e w1 ⟨rfl, hb⟩
 replace P := Aside0.mk (P.out.below hb); replace Q := Aside0.mk (Q.out.below hb); replace R := Aside0.mk (R.out.below hb); replace L := Aside0.mk (L.out.trans (hb.mono L.out.size)); clear hb p0 p1 p2 p3 p4 p5
 cases hw : isD a0_0 l0_1 a0_2 && isD a0_3 l0_4 a0_5
 ·have h := HH.out
  unfold adres at h
  rw [hw] at h
  simp only [Bool.false_and, Bool.false_eq_true, if_false, Prod.mk.injEq] at h
  obtain ⟨rfl, rfl, rfl, rfl, rfl, rfl, rfl⟩ := h
  clear hw HH
  obtain ⟨y0, y1, y2, y3, y4, y5, f0, f1, f2, f3, f4, f5⟩ := ck6_ (Aside0.mk R.out.x)
  go_wp2_with fail
  refine bodyPost_ret (results_ct rfl _ _ gr 47 #[.int .i64 0, .slice none 0 0, .int .i64 0, .int .i64 0, .slice none 0 0, .int .i64 0] (0, 0) _ rfl (put6 R.out.x _ _ _ _ _ _) Tryd.underlying47 rfl (by kernel_rfl)) rfl ?_
  exact ⟨_, _, rfl, Kd.R_nil _ _ _ _ _, Kd.R_nil _ _ _ _ _, set6 L.out GR.out _ _ _ _ _ _⟩
 ·obtain ⟨p0, p1, p2, p3, p4, p5, -, -, -, -, -, -⟩ := ck6_ (Aside0.mk Q.out.x)
  have HW := Aside0.mk hw
  clear hw
  go_wp2_with fail
  refine (isExact_calls _ _ _ _ _ _ _ _ _ _ _ (Kd.C_below HR3.out L.out) hc1_1 HL.out.2.2.1 (Kd.C_below HR4.out L.out) hc1_4 HL.out.2.2.2).mono ?_
  rintro e w1 ⟨rfl, hb⟩
  replace P := Aside0.mk (P.out.below hb); replace Q := Aside0.mk (Q.out.below hb); replace R := Aside0.mk (R.out.below hb); replace L := Aside0.mk (L.out.trans (hb.mono L.out.size)); clear hb p0 p1 p2 p3 p4 p5
  cases hv : isD a1_0 l1_1 a1_2 && isD a1_3 l1_4 a1_5
  ·have h := HH.out
   unfold adres at h
   rw [hv] at h
   simp only [Bool.and_false, Bool.false_eq_true, if_false, Prod.mk.injEq] at h
   obtain ⟨rfl, rfl, rfl, rfl, rfl, rfl, rfl⟩ := h
   clear hv HH
   obtain ⟨y0, y1, y2, y3, y4, y5, f0, f1, f2, f3, f4, f5⟩ := ck6_ (Aside0.mk R.out.x)
   go_wp2_with fail
   refine bodyPost_ret (results_ct rfl _ _ gr 47 #[.int .i64 0, .slice none 0 0, .int .i64 0, .int .i64 0, .slice none 0 0, .int .i64 0] (0, 0) _ rfl (put6 R.out.x _ _ _ _ _ _) Tryd.underlying47 rfl (by kernel_rfl)) rfl ?_
   exact ⟨_, _, rfl, Kd.R_nil _ _ _ _ _, Kd.R_nil _ _ _ _ _, set6 L.out GR.out _ _ _ _ _ _⟩
  ·have h := HH.out
   unfold adres at h
   rw [HW.out, hv] at h
   simp only [Bool.and_self, if_true] at h
   have HH := Aside0.mk h
   have HD := Aside0.mk (show (isD a0_0 l0_1 a0_2 = true ∧ isD a0_3 l0_4 a0_5 = true) ∧ (isD a1_0 l1_1 a1_2 = true ∧ isD a1_3 l1_4 a1_5 = true) from ⟨by simpa using HW.out, by simpa using hv⟩)
   have HE := Aside0.mk (show ((-5000 ≤ a0_2 ∧ a0_2 ≤ 5000) ∧ (-5000 ≤ a0_5 ∧ a0_5 ≤ 5000)) ∧ ((-5000 ≤ a1_2 ∧ a1_2 ≤ 5000) ∧ (-5000 ≤ a1_5 ∧ a1_5 ≤ 5000)) from ⟨⟨isD_exp HD.out.1.1, isD_exp HD.out.1.2⟩, ⟨isD_exp HD.out.2.1, isD_exp HD.out.2.2⟩⟩)
   clear h hv
   go_upto_region 3 with fail
   refine start_ (n := 19) (S := fun w' => w'.cell? ⟨gp, 0, none⟩ = some (.int .i64 a0_0) ∧ w'.cell? ⟨gp, 1, none⟩ = some (.slice A0_1 l0_1.length c0_1) ∧ w'.cell? ⟨gp, 2, none⟩ = some (.int .i64 a0_2) ∧ w'.cell? ⟨gp, 3, none⟩ = some (.int .i64 a0_3) ∧ w'.cell? ⟨gp, 4, none⟩ = some (.slice A0_4 l0_4.length c0_4) ∧ w'.cell? ⟨gp, 5, none⟩ = some (.int .i64 a0_5) ∧ w'.cell? ⟨gq, 0, none⟩ = some (.int .i64 a1_0) ∧ w'.cell? ⟨gq, 1, none⟩ = some (.slice A1_1 l1_1.length c1_1) ∧ w'.cell? ⟨gq, 2, none⟩ = some (.int .i64 a1_2) ∧ w'.cell? ⟨gq, 3, none⟩ = some (.int .i64 a1_3) ∧ w'.cell? ⟨gq, 4, none⟩ = some (.slice A1_4 l1_4.length c1_4) ∧ w'.cell? ⟨gq, 5, none⟩ = some (.int .i64 a1_5)) (ds := [17]) #[false, false, false, false, false, false, false, false, false, false, false, false, false, false, false, false, false, false, false] (by kernel_rfl) rfl rfl ⟨P.out.cell 0 _ rfl, P.out.cell 1 _ rfl, P.out.cell 2 _ rfl, P.out.cell 3 _ rfl, P.out.cell 4 _ rfl, P.out.cell 5 _ rfl, Q.out.cell 0 _ rfl, Q.out.cell 1 _ rfl, Q.out.cell 2 _ rfl, Q.out.cell 3 _ rfl, Q.out.cell 4 _ rfl, Q.out.cell 5 _ rfl⟩ (fun hHeld => ?_)
   have Dw2 := Aside0.mk ((Below.refl w1.heap.size w1).drew)
   generalize w1.drew = w2 at hHeld Dw2 ⊢
   refine pu_ #[true, false, false, false, false, false, false, false, false, false, false, false, false, false, false, false, false, false, false] 0 15 (by kernel_rfl) ?_
   refine pu_ #[true, false, false, true, false, false, false, false, false, false, false, false, false, false, false, false, false, false, false] 3 18 (by kernel_rfl) ?_
   refine pu_ #[true, false, false, true, false, false, false, true, false, false, false, false, false, false, false, false, false, false, false] 7 22 (by kernel_rfl) ?_
   refine pu_ #[true, false, false, true, false, false, false, true, false, false, true, false, false, false, false, false, false, false, false] 10 25 (by kernel_rfl) ?_
   refine tk_ #[true, true, false, true, false, false, false, true, false, false, true, false, false, false, false, false, false, false, false] 1 16 (by kernel_rfl) hHeld ?_
   refine tk_ #[true, true, false, true, true, false, false, true, false, false, true, false, false, false, false, false, false, false, false] 4 19 (by kernel_rfl) hHeld ?_
   refine tk_ #[true, true, false, true, true, false, false, true, true, false, true, false, false, false, false, false, false, false, false] 8 23 (by kernel_rfl) hHeld ?_
   refine tk_ #[true, true, false, true, true, false, false, true, true, false, true, true, false, false, false, false, false, false, false] 11 26 (by kernel_rfl) hHeld ?_
   refine one_ (i := 2) (N := some 17) #[true, true, true, true, true, false, false, true, true, false, true, true, false, false, false, false, false, false, false] rfl rfl (by kernel_rfl) (by decide) (fun K hK => ?_)
   replace P := Aside0.mk (P.out.below Dw2.out); replace Q := Aside0.mk (Q.out.below Dw2.out); replace R := Aside0.mk (R.out.below Dw2.out); replace L := Aside0.mk (L.out.trans (Dw2.out.mono L.out.size))
   refine goes_ Tryd.func68 (by kernel_rfl) rfl #[.agg #[.int .i64 a0_0, .slice A0_1 l0_1.length c0_1, .int .i64 a0_2]] (by rfl) rfl rfl ma_ ?_
   with_reducible refine (dvalue_calls a0_0 A0_1 c0_1 l0_1 a0_2 _ (Kd.C_below HR1.out L.out) (isD_isW HD.out.1.1)).mono ?_
   rintro x w1 ⟨za, rfl, -, hbig, hb⟩
   refine ⟨_, rfl, ?_⟩
   have ZA := Aside0.mk hbig; replace P := Aside0.mk (P.out.below hb); replace Q := Aside0.mk (Q.out.below hb); replace R := Aside0.mk (R.out.below hb); replace L := Aside0.mk (L.out.trans (hb.mono L.out.size)); clear hb hbig
   refine hK.out _ _ ⟨P.out.cell 0 _ rfl, P.out.cell 1 _ rfl, P.out.cell 2 _ rfl, P.out.cell 3 _ rfl, P.out.cell 4 _ rfl, P.out.cell 5 _ rfl, Q.out.cell 0 _ rfl, Q.out.cell 1 _ rfl, Q.out.cell 2 _ rfl, Q.out.cell 3 _ rfl, Q.out.cell 4 _ rfl, Q.out.cell 5 _ rfl⟩ (fun hHeld => ?_)
   clear hK K
   refine nr_ ?_
   refine one_ (i := 5) (N := some 20) #[true, true, true, true, true, true, false, true, true, false, true, true, false, false, false, false, false, false, false] rfl rfl (by kernel_rfl) (by decide) (fun K hK => ?_)
   refine goes_ Tryd.func68 (by kernel_rfl) rfl #[.agg #[.int .i64 a1_0, .slice A1_1 l1_1.length c1_1, .int .i64 a1_2]] (by rfl) rfl rfl ma_ ?_
   with_reducible refine (dvalue_calls a1_0 A1_1 c1_1 l1_1 a1_2 _ (Kd.C_below HR3.out L.out) (isD_isW HD.out.2.1)).mono ?_
   rintro x w1 ⟨zb, rfl, -, hbig, hb⟩
   refine ⟨_, rfl, ?_⟩
   have ZB := Aside0.mk hbig; replace P := Aside0.mk (P.out.below hb); replace Q := Aside0.mk (Q.out.below hb); replace R := Aside0.mk (R.out.below hb); replace ZA := Aside0.mk (ZA.out.below hb); replace L := Aside0.mk (L.out.trans (hb.mono L.out.size)); clear hb hbig
   refine hK.out _ _ ⟨P.out.cell 0 _ rfl, P.out.cell 1 _ rfl, P.out.cell 2 _ rfl, P.out.cell 3 _ rfl, P.out.cell 4 _ rfl, P.out.cell 5 _ rfl, Q.out.cell 0 _ rfl, Q.out.cell 1 _ rfl, Q.out.cell 2 _ rfl, Q.out.cell 3 _ rfl, Q.out.cell 4 _ rfl, Q.out.cell 5 _ rfl⟩ (fun hHeld => ?_)
   clear hK K
   refine nr_ ?_
   refine one_ (i := 6) (N := some 21) #[true, true, true, true, true, true, true, true, true, false, true, true, false, false, false, false, false, false, false] rfl rfl (by kernel_rfl) (by decide) (fun K hK => ?_)
   refine goes_ Tryd.func69 (by kernel_rfl) rfl #[.agg #[.pointer (some ⟨za, 0, none⟩), .int .i64 a0_2], .agg #[.pointer (some ⟨zb, 0, none⟩), .int .i64 a1_2]] (by rfl) rfl rfl ma_ ?_
   with_reducible refine (plus_calls za zb _ _ a0_2 a1_2 _ ZA.out ZB.out (by have := HE.out; omega) (by have := HE.out; omega) (HT.out.below L.out)).mono ?_
   rintro x w1 ⟨x1, rfl, hbig, hp, hb⟩
   refine ⟨_, rfl, ?_⟩
   have Z1 := Aside0.mk hbig; have HP1 := Aside0.mk hp; replace P := Aside0.mk (P.out.below hb); replace Q := Aside0.mk (Q.out.below hb); replace R := Aside0.mk (R.out.below hb); replace L := Aside0.mk (L.out.trans (hb.mono L.out.size)); clear hb hbig hp
   refine hK.out _ _ ⟨P.out.cell 0 _ rfl, P.out.cell 1 _ rfl, P.out.cell 2 _ rfl, P.out.cell 3 _ rfl, P.out.cell 4 _ rfl, P.out.cell 5 _ rfl, Q.out.cell 0 _ rfl, Q.out.cell 1 _ rfl, Q.out.cell 2 _ rfl, Q.out.cell 3 _ rfl, Q.out.cell 4 _ rfl, Q.out.cell 5 _ rfl⟩ (fun hHeld => ?_)
   clear hK K
   refine nr_ ?_
   refine one_ (i := 9) (N := some 24) #[true, true, true, true, true, true, true, true, true, true, true, true, false, false, false, false, false, false, false] rfl rfl (by kernel_rfl) (by decide) (fun K hK => ?_)
   refine goes_ Tryd.func68 (by kernel_rfl) rfl #[.agg #[.int .i64 a0_3, .slice A0_4 l0_4.length c0_4, .int .i64 a0_5]] (by rfl) rfl rfl ma_ ?_
   with_reducible refine (dvalue_calls a0_3 A0_4 c0_4 l0_4 a0_5 _ (Kd.C_below HR2.out L.out) (isD_isW HD.out.1.2)).mono ?_
   rintro x w1 ⟨zc, rfl, -, hbig, hb⟩
   refine ⟨_, rfl, ?_⟩
   have ZC := Aside0.mk hbig; replace P := Aside0.mk (P.out.below hb); replace Q := Aside0.mk (Q.out.below hb); replace R := Aside0.mk (R.out.below hb); replace Z1 := Aside0.mk (Z1.out.below hb); replace L := Aside0.mk (L.out.trans (hb.mono L.out.size)); clear hb hbig
   refine hK.out _ _ ⟨P.out.cell 0 _ rfl, P.out.cell 1 _ rfl, P.out.cell 2 _ rfl, P.out.cell 3 _ rfl, P.out.cell 4 _ rfl, P.out.cell 5 _ rfl, Q.out.cell 0 _ rfl, Q.out.cell 1 _ rfl, Q.out.cell 2 _ rfl, Q.out.cell 3 _ rfl, Q.out.cell 4 _ rfl, Q.out.cell 5 _ rfl⟩ (fun hHeld => ?_)
   clear hK K
   refine nr_ ?_
   refine one_ (i := 12) (N := some 27) #[true, true, true, true, true, true, true, true, true, true, true, true, true, false, false, false, false, false, false] rfl rfl (by kernel_rfl) (by decide) (fun K hK => ?_)
   refine goes_ Tryd.func68 (by kernel_rfl) rfl #[.agg #[.int .i64 a1_3, .slice A1_4 l1_4.length c1_4, .int .i64 a1_5]] (by rfl) rfl rfl ma_ ?_
   with_reducible refine (dvalue_calls a1_3 A1_4 c1_4 l1_4 a1_5 _ (Kd.C_below HR4.out L.out) (isD_isW HD.out.2.2)).mono ?_
   rintro x w1 ⟨zd, rfl, -, hbig, hb⟩
   refine ⟨_, rfl, ?_⟩
   have ZD := Aside0.mk hbig; replace P := Aside0.mk (P.out.below hb); replace Q := Aside0.mk (Q.out.below hb); replace R := Aside0.mk (R.out.below hb); replace Z1 := Aside0.mk (Z1.out.below hb); replace ZC := Aside0.mk (ZC.out.below hb); replace L := Aside0.mk (L.out.trans (hb.mono L.out.size)); clear hb hbig
   refine hK.out _ _ ⟨P.out.cell 0 _ rfl, P.out.cell 1 _ rfl, P.out.cell 2 _ rfl, P.out.cell 3 _ rfl, P.out.cell 4 _ rfl, P.out.cell 5 _ rfl, Q.out.cell 0 _ rfl, Q.out.cell 1 _ rfl, Q.out.cell 2 _ rfl, Q.out.cell 3 _ rfl, Q.out.cell 4 _ rfl, Q.out.cell 5 _ rfl⟩ (fun hHeld => ?_)
   clear hK K
   refine nr_ ?_
   refine one_ (i := 13) (N := some 28) #[true, true, true, true, true, true, true, true, true, true, true, true, true, true, false, false, false, false, false] rfl rfl (by kernel_rfl) (by decide) (fun K hK => ?_)
   refine goes_ Tryd.func69 (by kernel_rfl) rfl #[.agg #[.pointer (some ⟨zc, 0, none⟩), .int .i64 a0_5], .agg #[.pointer (some ⟨zd, 0, none⟩), .int .i64 a1_5]] (by rfl) rfl rfl ma_ ?_
   with_reducible refine (plus_calls zc zd _ _ a0_5 a1_5 _ ZC.out ZD.out (by have := HE.out; omega) (by have := HE.out; omega) (HT.out.below L.out)).mono ?_
   rintro x w1 ⟨x2, rfl, hbig, hp, hb⟩
   refine ⟨_, rfl, ?_⟩
   have Z2 := Aside0.mk hbig; have HP2 := Aside0.mk hp; replace P := Aside0.mk (P.out.below hb); replace Q := Aside0.mk (Q.out.below hb); replace R := Aside0.mk (R.out.below hb); replace Z1 := Aside0.mk (Z1.out.below hb); replace L := Aside0.mk (L.out.trans (hb.mono L.out.size)); clear hb hbig hp
   refine hK.out _ _ ⟨P.out.cell 0 _ rfl, P.out.cell 1 _ rfl, P.out.cell 2 _ rfl, P.out.cell 3 _ rfl, P.out.cell 4 _ rfl, P.out.cell 5 _ rfl, Q.out.cell 0 _ rfl, Q.out.cell 1 _ rfl, Q.out.cell 2 _ rfl, Q.out.cell 3 _ rfl, Q.out.cell 4 _ rfl, Q.out.cell 5 _ rfl⟩ (fun hHeld => ?_)
   clear hK K
   refine nr_ ?_
   refine one_ (i := 14) (N := some 29) #[true, true, true, true, true, true, true, true, true, true, true, true, true, true, true, false, false, false, false] rfl rfl (by kernel_rfl) (by decide) (fun K hK => ?_)
   refine goes_ Tryd.func67 (by kernel_rfl) rfl #[.agg #[.pointer (some ⟨x1, 0, none⟩), .int .i64 (mn a0_2 a1_2)], .agg #[.pointer (some ⟨x2, 0, none⟩), .int .i64 (mn a0_5 a1_5)]] (by rfl) rfl rfl ma_ ?_
   with_reducible refine (exactOr_calls x1 x2 _ _ _ _ 5000 _ Z1.out Z2.out (by omega) (by have := HP1.out; omega) (by have := HP2.out; omega) (HT.out.below L.out) r1 r2 r3 r4 r5 r6 r7 HH.out).mono ?_
   rintro x w1 ⟨v1, v4, rfl, hr1, hr4, hne, hb⟩
   refine ⟨_, rfl, ?_⟩
   obtain ⟨B1, d1, rfl⟩ := Kd.R_slice hr1.row
   obtain ⟨B4, d4, rfl⟩ := Kd.R_slice hr4.row
   have V1 := Aside0.mk (RO.of (w := w) hr1.row L.out.size); have V4 := Aside0.mk (RO.of (w := w) hr4.row L.out.size); have NE := Aside0.mk hne; replace P := Aside0.mk (P.out.below hb); replace Q := Aside0.mk (Q.out.below hb); replace R := Aside0.mk (R.out.below hb); replace L := Aside0.mk (L.out.trans (hb.mono L.out.size)); clear hb hr1 hr4 hne
   refine hK.out _ _ ⟨P.out.cell 0 _ rfl, P.out.cell 1 _ rfl, P.out.cell 2 _ rfl, P.out.cell 3 _ rfl, P.out.cell 4 _ rfl, P.out.cell 5 _ rfl, Q.out.cell 0 _ rfl, Q.out.cell 1 _ rfl, Q.out.cell 2 _ rfl, Q.out.cell 3 _ rfl, Q.out.cell 4 _ rfl, Q.out.cell 5 _ rfl⟩ (fun hHeld => ?_)
   clear hK K
   refine nr_ ?_
   refine pu_ #[true, true, true, true, true, true, true, true, true, true, true, true, true, true, true, true, false, false, false] 15 30 (by kernel_rfl) ?_
   refine pu_ #[true, true, true, true, true, true, true, true, true, true, true, true, true, true, true, true, true, false, false] 16 31 (by kernel_rfl) ?_
   refine last_ (i := 17) (N := none) #[true, true, true, true, true, true, true, true, true, true, true, true, true, true, true, true, true, true, false] rfl rfl (by kernel_rfl) (by decide) (fun K hK => ?_)
   obtain ⟨y0, y1, y2, y3, y4, y5, f0, f1, f2, f3, f4, f5⟩ := ck6_ (Aside0.mk R.out.x)
   refine skip_ (w1 := ?_) (by rfl) rfl ?_ ?_
   rotate_left
   ·go_simp
    rfl
   refine hK.out _ _ ?_
   clear hK K
   refine pu_ #[true, true, true, true, true, true, true, true, true, true, true, true, true, true, true, true, true, true, true] 18 5 (by kernel_rfl) ?_
   refine done_ (by kernel_rfl) ?_
   clear hHeld
   go_wp2
   refine bodyPost_ret (results_ct rfl _ _ gr 47 #[.int .i64 r1, .slice B1 r2.length d1, .int .i64 r3, .int .i64 r4, .slice B4 r5.length d4, .int .i64 r6] (0, 0) _ rfl (put6 R.out.x _ _ _ _ _ _) Tryd.underlying47 rfl (by kernel_rfl)) rfl ?_
   exact ⟨_, _, rfl, (V1.out.far6 R.out.x (by decide) _ _ _ _ _ _).two NE.out, (V4.out.far6 R.out.x (by decide) _ _ _ _ _ _).two NE.out.symm, set6 L.out GR.out _ _ _ _ _ _⟩
end Go.Proofs.YtghhphndbbefjaaDoor
namespace Go.Proofs.YtghhphndbbefjaaDoor
open Go.RowKit Go.Proofs.YtghhphndbbefjaaDoorW.PrintWords Go.Proofs.YtghhphndbbefjaaDoorW.PrintLast Go.Proofs.YtghhphndbbefjaaDoorW.PrintMore Go.Proofs.YtghhphndbbefjaaDoor.Math Go.Proofs.YtghhphndbbefjaaDoor.Big Go.Proofs.YtghhphndbbefjaaDoor.X Go.Proofs.YtghhphndbbefjaaDoor.Sq
set_option linter.unusedVariables false
set_option linter.unusedSimpArgs false
structure KnownAddExacts (s0_0 : Int) (l0_1 : List Int) (s0_2 : Int) (s0_3 : Int) (l0_4 : List Int) (s0_5 : Int) (s1_0 : Int) (l1_1 : List Int) (s1_2 : Int) (s1_3 : Int) (l1_4 : List Int) (s1_5 : Int) (r1 : Int) (r2 : List Int) (r3 : Int) (r4 : Int) (r5 : List Int) (r6 : Int) (r7 : Int) (n1 : Int) (m129 : List Int) (m130 : List Int) (n2 : Int) (m137 : List Int) (m138 : List Int) (n3 : Int) (m157 : List Int) (m158 : List Int) : Prop where
 f0 : ∃ k, laws_toExact.f k s0_0 l0_1 s0_2 s0_3 l0_4 s0_5 = some (s0_0, l0_1, s0_2, s0_3, l0_4, s0_5)
 f1 : ∃ k, laws_toExact.f k s1_0 l1_1 s1_2 s1_3 l1_4 s1_5 = some (s1_0, l1_1, s1_2, s1_3, l1_4, s1_5)
 f2 : ∃ k, spec_AddExacts.f k s0_0 l0_1 s0_2 s0_3 l0_4 s0_5 s1_0 l1_1 s1_2 s1_3 l1_4 s1_5 = some (r1, r2, r3, r4, r5, r6, r7)
 f3 : impl_AddExacts.f s0_0 l0_1 s0_2 s0_3 l0_4 s0_5 s1_0 l1_1 s1_2 s1_3 l1_4 s1_5 = some (r1, r2, r3, r4, r5, r6, r7)
 f4 : ∃ k, laws_eqExact.f k r1 r2 r3 r4 r5 r6 r1 r2 r3 r4 r5 r6 = some true
 f5 : ∃ k, laws_eqExact.f k s0_0 l0_1 s0_2 s0_3 l0_4 s0_5 s0_0 l0_1 s0_2 s0_3 l0_4 s0_5 = some true
 f6 : ∃ k, laws_eqExact.f k s1_0 l1_1 s1_2 s1_3 l1_4 s1_5 s1_0 l1_1 s1_2 s1_3 l1_4 s1_5 = some true
 f7 : ∃ k, laws_markExact.f k s0_0 l0_1 s0_2 s0_3 l0_4 s0_5 1 = some (n1, m129, m130)
 f8 : 0 ≤ n1
 f9 : m129.length = l0_1.length
 f10 : m130.length = l0_4.length
 f11 : ∃ k, laws_markExact.f k s1_0 l1_1 s1_2 s1_3 l1_4 s1_5 n1 = some (n2, m137, m138)
 f12 : 0 ≤ n2
 f13 : m137.length = l1_1.length
 f14 : m138.length = l1_4.length
 f15 : ∃ k, laws_markExact.f k r1 r2 r3 r4 r5 r6 1 = some (n3, m157, m158)
 f16 : 0 ≤ n3
 f17 : m157.length = r2.length
 f18 : m158.length = r5.length
 f19 : ∃ k, laws_heldExact.f k r1 m157 r3 r4 m158 r6 1 = some n3
set_option maxRecDepth 100000 in
set_option maxHeartbeats 8000000 in
theorem walk_AddExacts (s0_0 : Int) (A0_1 : Option Addr) (c0_1 : Nat) (l0_1 : List Int) (s0_2 : Int) (s0_3 : Int) (A0_4 : Option Addr) (c0_4 : Nat) (l0_4 : List Int) (s0_5 : Int) (s1_0 : Int) (A1_1 : Option Addr) (c1_1 : Nat) (l1_1 : List Int) (s1_2 : Int) (s1_3 : Int) (A1_4 : Option Addr) (c1_4 : Nat) (l1_4 : List Int) (s1_5 : Int) (r1 : Int) (r2 : List Int) (r3 : Int) (r4 : Int) (r5 : List Int) (r6 : Int) (r7 : Int) (n1 : Int) (m129 : List Int) (m130 : List Int) (n2 : Int) (m137 : List Int) (m138 : List Int) (n3 : Int) (m157 : List Int) (m158 : List Int) (z0 z1 : Int) (w : World) (hr0_1 : Kd.C (Kd.int .i64) w A0_1 l0_1.length l0_1) (hc0_1 : l0_1.length ≤ c0_1) (hr0_4 : Kd.C (Kd.int .i64) w A0_4 l0_4.length l0_4) (hc0_4 : l0_4.length ≤ c0_4) (hr1_1 : Kd.C (Kd.int .i64) w A1_1 l1_1.length l1_1) (hc1_1 : l1_1.length ≤ c1_1) (hr1_4 : Kd.C (Kd.int .i64) w A1_4 l1_4.length l1_4) (hc1_4 : l1_4.length ≤ c1_4) (hT : Tab w) (hz0 : laws_szExact.f s0_0 l0_1 s0_2 s0_3 l0_4 s0_5 1048576 = some z0) (hz1 : 0 ≤ z0 → laws_szExact.f s1_0 l1_1 s1_2 s1_3 l1_4 s1_5 z0 = some z1) (hk : 0 ≤ z1 → KnownAddExacts s0_0 l0_1 s0_2 s0_3 l0_4 s0_5 s1_0 l1_1 s1_2 s1_3 l1_4 s1_5 r1 r2 r3 r4 r5 r6 r7 n1 m129 m130 n2 m137 m138 n3 m157 m158) :
  Calls Tryd.prog 7 #[.agg #[.int .i64 s0_0, .slice A0_1 l0_1.length c0_1, .int .i64 s0_2, .int .i64 s0_3, .slice A0_4 l0_4.length c0_4, .int .i64 s0_5], .agg #[.int .i64 s1_0, .slice A1_1 l1_1.length c1_1, .int .i64 s1_2, .int .i64 s1_3, .slice A1_4 l1_4.length c1_4, .int .i64 s1_5]] w fun x w' => x = .returned (.bool true) ∧ Below w.heap.size w w' := by
 have HR0_1 := Aside0.mk hr0_1; have HC0_1 := Aside0.mk hc0_1; clear hr0_1 hc0_1
 have HR0_4 := Aside0.mk hr0_4; have HC0_4 := Aside0.mk hc0_4; clear hr0_4 hc0_4
 have HR1_1 := Aside0.mk hr1_1; have HC1_1 := Aside0.mk hc1_1; clear hr1_1 hc1_1
 have HR1_4 := Aside0.mk hr1_4; have HC1_4 := Aside0.mk hc1_4; clear hr1_4 hc1_4
 have HT := Aside0.mk hT; clear hT
 have HZ0 := Aside0.mk hz0; clear hz0
 by_cases hs : z0 < 0
 ·skip
  go_enter Tryd.func7, Tryd.ntmps7
  go_upto_region 1 with fail
  obtain ⟨w1, g1, e1, e2, hB, hb⟩ := new_box w #[.int .i64 s0_0, .slice A0_1 l0_1.length c0_1, .int .i64 s0_2, .int .i64 s0_3, .slice A0_4 l0_4.length c0_4, .int .i64 s0_5] 42
  rw [← e1]; rw [← e2]
  have G2 := Aside0.mk hB
  have L := Aside0.mk hb
  have z1_ : w1.heap.size = g1 + 1 := by rw [e1, e2]; simp
  clear hB hb e1 e2
  obtain ⟨w1, g3, e1, e2, hB, hb⟩ := new_box w1 #[.int .i64 s1_0, .slice A1_1 l1_1.length c1_1, .int .i64 s1_2, .int .i64 s1_3, .slice A1_4 l1_4.length c1_4, .int .i64 s1_5] 42
  rw [← e1]; rw [← z1_]; rw [← e2]
  have G4 := Aside0.mk hB
  replace G2 := Aside0.mk (G2.out.below hb)
  replace L := Aside0.mk (L.out.trans (hb.mono L.out.size))
  clear z1_
  clear hB hb e1 e2
  have p5 := G2.out.cell 0 _ rfl
  have p6 := G2.out.cell 1 _ rfl
  have p7 := G2.out.cell 2 _ rfl
  have p8 := G2.out.cell 3 _ rfl
  have p9 := G2.out.cell 4 _ rfl
  have p10 := G2.out.cell 5 _ rfl
  go_wp2_with fail
  refine (laws_szExact.calls s0_0 A0_1 c0_1 l0_1 s0_2 s0_3 A0_4 c0_4 l0_4 s0_5 1048576 z0 _ (Kd.C_below HR0_1.out L.out) (HC0_1.out) (Kd.C_below HR0_4.out L.out) (HC0_4.out) HZ0.out).mono ?_
  rintro x w1 ⟨rfl, hb⟩
  clear p5 p6 p7 p8 p9 p10
  replace G2 := Aside0.mk (G2.out.below hb)
  replace G4 := Aside0.mk (G4.out.below hb)
  replace L := Aside0.mk (L.out.trans (hb.mono L.out.size))
  clear hb
  go_wp2
  go_ret
  exact ⟨rfl, L.out⟩
 ·have HZ1 := Aside0.mk (hz1 (by omega)); have hs' : 0 ≤ z0 := by omega
  clear hz1
  by_cases ht : z1 < 0
  ·skip
   go_enter Tryd.func7, Tryd.ntmps7
   go_upto_region 1 with fail
   obtain ⟨w1, g11, e1, e2, hB, hb⟩ := new_box w #[.int .i64 s0_0, .slice A0_1 l0_1.length c0_1, .int .i64 s0_2, .int .i64 s0_3, .slice A0_4 l0_4.length c0_4, .int .i64 s0_5] 42
   rw [← e1]; rw [← e2]
   have G12 := Aside0.mk hB
   have L := Aside0.mk hb
   have z1_ : w1.heap.size = g11 + 1 := by rw [e1, e2]; simp
   clear hB hb e1 e2
   obtain ⟨w1, g13, e1, e2, hB, hb⟩ := new_box w1 #[.int .i64 s1_0, .slice A1_1 l1_1.length c1_1, .int .i64 s1_2, .int .i64 s1_3, .slice A1_4 l1_4.length c1_4, .int .i64 s1_5] 42
   rw [← e1]; rw [← z1_]; rw [← e2]
   have G14 := Aside0.mk hB
   replace G12 := Aside0.mk (G12.out.below hb)
   replace L := Aside0.mk (L.out.trans (hb.mono L.out.size))
   clear z1_
   clear hB hb e1 e2
   have p15 := G12.out.cell 0 _ rfl
   have p16 := G12.out.cell 1 _ rfl
   have p17 := G12.out.cell 2 _ rfl
   have p18 := G12.out.cell 3 _ rfl
   have p19 := G12.out.cell 4 _ rfl
   have p20 := G12.out.cell 5 _ rfl
   go_wp2_with fail
   refine (laws_szExact.calls s0_0 A0_1 c0_1 l0_1 s0_2 s0_3 A0_4 c0_4 l0_4 s0_5 1048576 z0 _ (Kd.C_below HR0_1.out L.out) (HC0_1.out) (Kd.C_below HR0_4.out L.out) (HC0_4.out) HZ0.out).mono ?_
   rintro x w1 ⟨rfl, hb⟩
   clear p15 p16 p17 p18 p19 p20
   replace G12 := Aside0.mk (G12.out.below hb)
   replace G14 := Aside0.mk (G14.out.below hb)
   replace L := Aside0.mk (L.out.trans (hb.mono L.out.size))
   clear hb
   have p21 := G14.out.cell 0 _ rfl
   have p22 := G14.out.cell 1 _ rfl
   have p23 := G14.out.cell 2 _ rfl
   have p24 := G14.out.cell 3 _ rfl
   have p25 := G14.out.cell 4 _ rfl
   have p26 := G14.out.cell 5 _ rfl
   go_wp2_with fail
   refine (laws_szExact.calls s1_0 A1_1 c1_1 l1_1 s1_2 s1_3 A1_4 c1_4 l1_4 s1_5 z0 z1 _ (Kd.C_below HR1_1.out L.out) (HC1_1.out) (Kd.C_below HR1_4.out L.out) (HC1_4.out) HZ1.out).mono ?_
   rintro x w1 ⟨rfl, hb⟩
   clear p21 p22 p23 p24 p25 p26
   replace G12 := Aside0.mk (G12.out.below hb)
   replace G14 := Aside0.mk (G14.out.below hb)
   replace L := Aside0.mk (L.out.trans (hb.mono L.out.size))
   clear hb
   go_wp2
   go_ret
   exact ⟨rfl, L.out⟩
  ·have KF := Aside0.mk (hk (by omega)); have ht' : 0 ≤ z1 := by omega
   clear hk
   go_enter Tryd.func7, Tryd.ntmps7
   go_upto_region 1 with fail
   obtain ⟨w1, g27, e1, e2, hB, hb⟩ := new_box w #[.int .i64 s0_0, .slice A0_1 l0_1.length c0_1, .int .i64 s0_2, .int .i64 s0_3, .slice A0_4 l0_4.length c0_4, .int .i64 s0_5] 42
   rw [← e1]; rw [← e2]
   have G28 := Aside0.mk hB
   have L := Aside0.mk hb
   have z1_ : w1.heap.size = g27 + 1 := by rw [e1, e2]; simp
   clear hB hb e1 e2
   obtain ⟨w1, g29, e1, e2, hB, hb⟩ := new_box w1 #[.int .i64 s1_0, .slice A1_1 l1_1.length c1_1, .int .i64 s1_2, .int .i64 s1_3, .slice A1_4 l1_4.length c1_4, .int .i64 s1_5] 42
   rw [← e1]; rw [← z1_]; rw [← e2]
   have G30 := Aside0.mk hB
   replace G28 := Aside0.mk (G28.out.below hb)
   replace L := Aside0.mk (L.out.trans (hb.mono L.out.size))
   clear z1_
   clear hB hb e1 e2
   have p31 := G28.out.cell 0 _ rfl
   have p32 := G28.out.cell 1 _ rfl
   have p33 := G28.out.cell 2 _ rfl
   have p34 := G28.out.cell 3 _ rfl
   have p35 := G28.out.cell 4 _ rfl
   have p36 := G28.out.cell 5 _ rfl
   go_wp2_with fail
   refine (laws_szExact.calls s0_0 A0_1 c0_1 l0_1 s0_2 s0_3 A0_4 c0_4 l0_4 s0_5 1048576 z0 _ (Kd.C_below HR0_1.out L.out) (HC0_1.out) (Kd.C_below HR0_4.out L.out) (HC0_4.out) HZ0.out).mono ?_
   rintro x w1 ⟨rfl, hb⟩
   clear p31 p32 p33 p34 p35 p36
   replace G28 := Aside0.mk (G28.out.below hb)
   replace G30 := Aside0.mk (G30.out.below hb)
   replace L := Aside0.mk (L.out.trans (hb.mono L.out.size))
   clear hb
   have p37 := G30.out.cell 0 _ rfl
   have p38 := G30.out.cell 1 _ rfl
   have p39 := G30.out.cell 2 _ rfl
   have p40 := G30.out.cell 3 _ rfl
   have p41 := G30.out.cell 4 _ rfl
   have p42 := G30.out.cell 5 _ rfl
   go_wp2_with fail
   refine (laws_szExact.calls s1_0 A1_1 c1_1 l1_1 s1_2 s1_3 A1_4 c1_4 l1_4 s1_5 z0 z1 _ (Kd.C_below HR1_1.out L.out) (HC1_1.out) (Kd.C_below HR1_4.out L.out) (HC1_4.out) HZ1.out).mono ?_
   rintro x w1 ⟨rfl, hb⟩
   clear p37 p38 p39 p40 p41 p42
   replace G28 := Aside0.mk (G28.out.below hb)
   replace G30 := Aside0.mk (G30.out.below hb)
   replace L := Aside0.mk (L.out.trans (hb.mono L.out.size))
   clear hb
   go_upto_region 8 with fail
   refine start_ (n := 11) (S := fun w' => w'.cell? ⟨g27, 0, none⟩ = some (.int .i64 s0_0) ∧ w'.cell? ⟨g27, 1, none⟩ = some (.slice A0_1 l0_1.length c0_1) ∧ w'.cell? ⟨g27, 2, none⟩ = some (.int .i64 s0_2) ∧ w'.cell? ⟨g27, 3, none⟩ = some (.int .i64 s0_3) ∧ w'.cell? ⟨g27, 4, none⟩ = some (.slice A0_4 l0_4.length c0_4) ∧ w'.cell? ⟨g27, 5, none⟩ = some (.int .i64 s0_5) ∧ w'.cell? ⟨g29, 0, none⟩ = some (.int .i64 s1_0) ∧ w'.cell? ⟨g29, 1, none⟩ = some (.slice A1_1 l1_1.length c1_1) ∧ w'.cell? ⟨g29, 2, none⟩ = some (.int .i64 s1_2) ∧ w'.cell? ⟨g29, 3, none⟩ = some (.int .i64 s1_3) ∧ w'.cell? ⟨g29, 4, none⟩ = some (.slice A1_4 l1_4.length c1_4) ∧ w'.cell? ⟨g29, 5, none⟩ = some (.int .i64 s1_5)) (ds := [9]) #[false, false, false, false, false, false, false, false, false, false, false] (by kernel_rfl) rfl rfl ⟨G28.out.cell 0 _ rfl, G28.out.cell 1 _ rfl, G28.out.cell 2 _ rfl, G28.out.cell 3 _ rfl, G28.out.cell 4 _ rfl, G28.out.cell 5 _ rfl, G30.out.cell 0 _ rfl, G30.out.cell 1 _ rfl, G30.out.cell 2 _ rfl, G30.out.cell 3 _ rfl, G30.out.cell 4 _ rfl, G30.out.cell 5 _ rfl⟩ (fun hHeld => ?_)
   have hb := (Below.refl w1.heap.size w1).drew; generalize w1.drew = w1 at hHeld hb ⊢
   replace G28 := Aside0.mk (G28.out.below hb)
   replace G30 := Aside0.mk (G30.out.below hb)
   replace L := Aside0.mk (L.out.trans (hb.mono L.out.size))
   clear hb
   refine tk_ #[true, false, false, false, false, false, false, false, false, false, false] 0 28 (by kernel_rfl) hHeld ?_
   refine tk_ #[true, false, true, false, false, false, false, false, false, false, false] 2 30 (by kernel_rfl) hHeld ?_
   refine join_ (σ := Value × Value × Value × Value × Value × Value × Nat) 2 #[true, true, true, true, true, true, true, true, true, false, false] (fun s => [(29, .agg #[.int .i64 s0_0, s.1, .int .i64 s0_2, .int .i64 s0_3, s.2.1, .int .i64 s0_5]), (31, .agg #[.int .i64 s1_0, s.2.2.1, .int .i64 s1_2, .int .i64 s1_3, s.2.2.2.1, .int .i64 s1_5]), (32, .tuple #[.agg #[.int .i64 r1, s.2.2.2.2.1, .int .i64 r3, .int .i64 r4, s.2.2.2.2.2.1, .int .i64 r6], .int .i64 r7]), (27, .tuple #[.agg #[.int .i64 r1, s.2.2.2.2.1, .int .i64 r3, .int .i64 r4, s.2.2.2.2.2.1, .int .i64 r6], .int .i64 r7]), (33, .agg #[.int .i64 r1, s.2.2.2.2.1, .int .i64 r3, .int .i64 r4, s.2.2.2.2.2.1, .int .i64 r6]), (34, .int .i64 r7), (6, .pointer (some ⟨s.2.2.2.2.2.2, 0, none⟩))]) (fun s w' => (w'.cell? ⟨g27, 0, none⟩ = some (.int .i64 s0_0) ∧ w'.cell? ⟨g27, 1, none⟩ = some (.slice A0_1 l0_1.length c0_1) ∧ w'.cell? ⟨g27, 2, none⟩ = some (.int .i64 s0_2) ∧ w'.cell? ⟨g27, 3, none⟩ = some (.int .i64 s0_3) ∧ w'.cell? ⟨g27, 4, none⟩ = some (.slice A0_4 l0_4.length c0_4) ∧ w'.cell? ⟨g27, 5, none⟩ = some (.int .i64 s0_5) ∧ w'.cell? ⟨g29, 0, none⟩ = some (.int .i64 s1_0) ∧ w'.cell? ⟨g29, 1, none⟩ = some (.slice A1_1 l1_1.length c1_1) ∧ w'.cell? ⟨g29, 2, none⟩ = some (.int .i64 s1_2) ∧ w'.cell? ⟨g29, 3, none⟩ = some (.int .i64 s1_3) ∧ w'.cell? ⟨g29, 4, none⟩ = some (.slice A1_4 l1_4.length c1_4) ∧ w'.cell? ⟨g29, 5, none⟩ = some (.int .i64 s1_5)) ∧ BX w' g27 #[.int .i64 s0_0, .slice A0_1 l0_1.length c0_1, .int .i64 s0_2, .int .i64 s0_3, .slice A0_4 l0_4.length c0_4, .int .i64 s0_5] 42 ∧ BX w' g29 #[.int .i64 s1_0, .slice A1_1 l1_1.length c1_1, .int .i64 s1_2, .int .i64 s1_3, .slice A1_4 l1_4.length c1_4, .int .i64 s1_5] 42 ∧ Below w.heap.size w w' ∧ RO w w' s.2.2.2.2.1 r2 ∧ RO w w' s.2.2.2.2.2.1 r5 ∧ BX w' s.2.2.2.2.2.2 #[.int .i64 0, .slice none 0 0, .int .i64 0, .int .i64 0, .slice none 0 0, .int .i64 0] 47 ∧ w.heap.size ≤ s.2.2.2.2.2.2 ∧ g27 ≠ s.2.2.2.2.2.2 ∧ g29 ≠ s.2.2.2.2.2.2) ?cont (fun hJ => ?_)
   case cont =>
    rintro ⟨t0_0, t0_1, t1_0, t1_1, u0_0, u0_1, y0⟩ w1 ⟨hHeld, h0_, h1_, h2_, h3_, h4_, h5_, h6_, h7_, h8_⟩
    try dsimp only at hHeld h0_ h1_ h2_ h3_ h4_ h5_ h6_ h7_ h8_
    have G28 := Aside0.mk h0_; have G30 := Aside0.mk h1_; have L := Aside0.mk h2_; have Uu0_0 := Aside0.mk h3_; have Uu0_1 := Aside0.mk h4_; have By0 := Aside0.mk h5_; have Ey0 := Aside0.mk h6_; have DG28_y0 := Aside0.mk h7_; have DG30_y0 := Aside0.mk h8_
    clear h0_ h1_ h2_ h3_ h4_ h5_ h6_ h7_ h8_
    obtain ⟨A43, c44, rfl⟩ := Kd.R_slice Uu0_0.out.row
    obtain ⟨A45, c46, rfl⟩ := Kd.R_slice Uu0_1.out.row
    refine norm_ (a' := ?_) ?_ ?_
    rotate_left
    ·simp only [putAll, Act.put, List.setIfInBounds_toArray, List.set_cons_zero, List.set_cons_succ]
     rfl
    refine last_ (i := 9) (N := none) #[true, true, true, true, true, true, true, true, true, true, false] rfl rfl (by kernel_rfl) (by decide) (fun K hK => ?_)
    obtain ⟨q0, q1, q2, q3, q4, q5, q6, q7, q8, q9, q10, q11⟩ := ck6_ (Aside0.mk By0.out.x)
    refine skip_ (w1 := ?_) (by rfl) rfl ?_ ?_
    rotate_left
    ·go_simp
     rfl
    refine hK.out _ _ ?_
    clear hK K q0 q1 q2 q3 q4 q5 q6 q7 q8 q9 q10 q11
    obtain ⟨w1, e1, hB, hst⟩ := store6 By0.out (.int .i64 r1) (.slice A43 r2.length c44) (.int .i64 r3) (.int .i64 r4) (.slice A45 r5.length c46) (.int .i64 r6)
    rw [← e1]; clear e1
    replace G28 := Aside0.mk (G28.out.stp hst DG28_y0.out)
    replace G30 := Aside0.mk (G30.out.stp hst DG30_y0.out)
    replace Uu0_0 := Aside0.mk (Uu0_0.out.stp hst By0.out (by decide))
    replace Uu0_1 := Aside0.mk (Uu0_1.out.stp hst By0.out (by decide))
    replace L := Aside0.mk (hst.low L.out Ey0.out); replace By0 := Aside0.mk hB; clear hB hst
    refine pu_ #[true, true, true, true, true, true, true, true, true, true, true] 10 7 (by kernel_rfl) ?_
    refine done_ (by kernel_rfl) ?_
    clear hHeld Ey0 DG28_y0 DG30_y0
    obtain ⟨g48, eg⟩ : ∃ x, x = y0 := ⟨_, rfl⟩
    rw [← eg] at By0 ⊢; clear eg
    have G47 := By0; clear By0
    have V49 := Uu0_0; clear Uu0_0
    have V50 := Uu0_1; clear Uu0_1
    have p51 := G28.out.cell 0 _ rfl
    have p52 := G28.out.cell 1 _ rfl
    have p53 := G28.out.cell 2 _ rfl
    have p54 := G28.out.cell 3 _ rfl
    have p55 := G28.out.cell 4 _ rfl
    have p56 := G28.out.cell 5 _ rfl
    go_wp2_with fail
    obtain ⟨k, hk⟩ := KF.out.f0
    refine (laws_toExact.calls k s0_0 A0_1 c0_1 l0_1 s0_2 s0_3 A0_4 c0_4 l0_4 s0_5 s0_0 l0_1 s0_2 s0_3 l0_4 s0_5 _ (Kd.C_below HR0_1.out L.out) (HC0_1.out) (Kd.C_below HR0_4.out L.out) (HC0_4.out) hk).mono ?_
    rintro x w1 ⟨v0_, v1_, rfl, hr0_, hr1_, hb⟩
    clear p51 p52 p53 p54 p55 p56
    obtain ⟨A57, c58, rfl⟩ := Kd.R_slice hr0_
    obtain ⟨A60, c61, rfl⟩ := Kd.R_slice hr1_
    have V59 := Aside0.mk (RO.of (w := w) hr0_ L.out.size)
    have V62 := Aside0.mk (RO.of (w := w) hr1_ L.out.size)
    have N_V49_V59 := Aside0.mk (NeRow.of V49.out.row hr0_)
    have N_V49_V62 := Aside0.mk (NeRow.of V49.out.row hr1_)
    have N_V50_V59 := Aside0.mk (NeRow.of V50.out.row hr0_)
    have N_V50_V62 := Aside0.mk (NeRow.of V50.out.row hr1_)
    have N_V59_V62 := Aside0.mk (NeRow.two hr0_)
    replace V49 := Aside0.mk (V49.out.below hb)
    replace V50 := Aside0.mk (V50.out.below hb)
    replace G28 := Aside0.mk (G28.out.below hb)
    replace G30 := Aside0.mk (G30.out.below hb)
    replace G47 := Aside0.mk (G47.out.below hb)
    replace L := Aside0.mk (L.out.trans (hb.mono L.out.size))
    clear hb hk hr0_ hr1_
    go_upto_region 10 with fail
    obtain ⟨w1, g63, e1, e2, hB, hb⟩ := new_box _ #[.int .i64 s0_0, .slice A57 l0_1.length c58, .int .i64 s0_2, .int .i64 s0_3, .slice A60 l0_4.length c61, .int .i64 s0_5] 47
    rw [← e1]; try rw [← e2]
    have G64 := Aside0.mk hB
    replace V49 := Aside0.mk (V49.out.below hb)
    replace V50 := Aside0.mk (V50.out.below hb)
    replace V59 := Aside0.mk (V59.out.below hb)
    replace V62 := Aside0.mk (V62.out.below hb)
    replace G28 := Aside0.mk (G28.out.below hb)
    replace G30 := Aside0.mk (G30.out.below hb)
    replace G47 := Aside0.mk (G47.out.below hb)
    replace L := Aside0.mk (L.out.trans (hb.mono L.out.size))
    clear hB hb e1 e2
    have p65 := G30.out.cell 0 _ rfl
    have p66 := G30.out.cell 1 _ rfl
    have p67 := G30.out.cell 2 _ rfl
    have p68 := G30.out.cell 3 _ rfl
    have p69 := G30.out.cell 4 _ rfl
    have p70 := G30.out.cell 5 _ rfl
    go_wp2_with fail
    obtain ⟨k, hk⟩ := KF.out.f1
    refine (laws_toExact.calls k s1_0 A1_1 c1_1 l1_1 s1_2 s1_3 A1_4 c1_4 l1_4 s1_5 s1_0 l1_1 s1_2 s1_3 l1_4 s1_5 _ (Kd.C_below HR1_1.out L.out) (HC1_1.out) (Kd.C_below HR1_4.out L.out) (HC1_4.out) hk).mono ?_
    rintro x w1 ⟨v0_, v1_, rfl, hr0_, hr1_, hb⟩
    clear p65 p66 p67 p68 p69 p70
    obtain ⟨A71, c72, rfl⟩ := Kd.R_slice hr0_
    obtain ⟨A74, c75, rfl⟩ := Kd.R_slice hr1_
    have V73 := Aside0.mk (RO.of (w := w) hr0_ L.out.size)
    have V76 := Aside0.mk (RO.of (w := w) hr1_ L.out.size)
    have N_V49_V73 := Aside0.mk (NeRow.of V49.out.row hr0_)
    have N_V49_V76 := Aside0.mk (NeRow.of V49.out.row hr1_)
    have N_V50_V73 := Aside0.mk (NeRow.of V50.out.row hr0_)
    have N_V50_V76 := Aside0.mk (NeRow.of V50.out.row hr1_)
    have N_V59_V73 := Aside0.mk (NeRow.of V59.out.row hr0_)
    have N_V59_V76 := Aside0.mk (NeRow.of V59.out.row hr1_)
    have N_V62_V73 := Aside0.mk (NeRow.of V62.out.row hr0_)
    have N_V62_V76 := Aside0.mk (NeRow.of V62.out.row hr1_)
    have N_V73_V76 := Aside0.mk (NeRow.two hr0_)
    replace V49 := Aside0.mk (V49.out.below hb)
    replace V50 := Aside0.mk (V50.out.below hb)
    replace V59 := Aside0.mk (V59.out.below hb)
    replace V62 := Aside0.mk (V62.out.below hb)
    replace G28 := Aside0.mk (G28.out.below hb)
    replace G30 := Aside0.mk (G30.out.below hb)
    replace G47 := Aside0.mk (G47.out.below hb)
    replace G64 := Aside0.mk (G64.out.below hb)
    replace L := Aside0.mk (L.out.trans (hb.mono L.out.size))
    clear hb hk hr0_ hr1_
    go_upto_region 11 with fail
    obtain ⟨w1, g77, e1, e2, hB, hb⟩ := new_box _ #[.int .i64 s1_0, .slice A71 l1_1.length c72, .int .i64 s1_2, .int .i64 s1_3, .slice A74 l1_4.length c75, .int .i64 s1_5] 47
    rw [← e1]; try rw [← e2]
    have G78 := Aside0.mk hB
    replace V49 := Aside0.mk (V49.out.below hb)
    replace V50 := Aside0.mk (V50.out.below hb)
    replace V59 := Aside0.mk (V59.out.below hb)
    replace V62 := Aside0.mk (V62.out.below hb)
    replace V73 := Aside0.mk (V73.out.below hb)
    replace V76 := Aside0.mk (V76.out.below hb)
    replace G28 := Aside0.mk (G28.out.below hb)
    replace G30 := Aside0.mk (G30.out.below hb)
    replace G47 := Aside0.mk (G47.out.below hb)
    replace G64 := Aside0.mk (G64.out.below hb)
    replace L := Aside0.mk (L.out.trans (hb.mono L.out.size))
    clear hB hb e1 e2
    have p79 := G64.out.cell 0 _ rfl
    have p80 := G64.out.cell 1 _ rfl
    have p81 := G64.out.cell 2 _ rfl
    have p82 := G64.out.cell 3 _ rfl
    have p83 := G64.out.cell 4 _ rfl
    have p84 := G64.out.cell 5 _ rfl
    have p85 := G78.out.cell 0 _ rfl
    have p86 := G78.out.cell 1 _ rfl
    have p87 := G78.out.cell 2 _ rfl
    have p88 := G78.out.cell 3 _ rfl
    have p89 := G78.out.cell 4 _ rfl
    have p90 := G78.out.cell 5 _ rfl
    go_wp2_with fail
    refine (impl_AddExacts.calls s0_0 A57 c58 l0_1 s0_2 s0_3 A60 c61 l0_4 s0_5 s1_0 A71 c72 l1_1 s1_2 s1_3 A74 c75 l1_4 s1_5 r1 r2 r3 r4 r5 r6 r7 _ (V59.out.c) (V59.out.le) (V62.out.c) (V62.out.le) (V73.out.c) (V73.out.le) (V76.out.c) (V76.out.le) (HT.out.below L.out) KF.out.f3).mono ?_
    rintro x w1 ⟨v0_, v1_, rfl, hr0_, hr1_, hb⟩
    clear p79 p80 p81 p82 p83 p84 p85 p86 p87 p88 p89 p90
    obtain ⟨A91, c92, rfl⟩ := Kd.R_slice hr0_
    obtain ⟨A94, c95, rfl⟩ := Kd.R_slice hr1_
    have V93 := Aside0.mk (RO.of (w := w) hr0_ L.out.size)
    have V96 := Aside0.mk (RO.of (w := w) hr1_ L.out.size)
    have N_V49_V93 := Aside0.mk (NeRow.of V49.out.row hr0_)
    have N_V49_V96 := Aside0.mk (NeRow.of V49.out.row hr1_)
    have N_V50_V93 := Aside0.mk (NeRow.of V50.out.row hr0_)
    have N_V50_V96 := Aside0.mk (NeRow.of V50.out.row hr1_)
    have N_V59_V93 := Aside0.mk (NeRow.of V59.out.row hr0_)
    have N_V59_V96 := Aside0.mk (NeRow.of V59.out.row hr1_)
    have N_V62_V93 := Aside0.mk (NeRow.of V62.out.row hr0_)
    have N_V62_V96 := Aside0.mk (NeRow.of V62.out.row hr1_)
    have N_V73_V93 := Aside0.mk (NeRow.of V73.out.row hr0_)
    have N_V73_V96 := Aside0.mk (NeRow.of V73.out.row hr1_)
    have N_V76_V93 := Aside0.mk (NeRow.of V76.out.row hr0_)
    have N_V76_V96 := Aside0.mk (NeRow.of V76.out.row hr1_)
    have N_V93_V96 := Aside0.mk (NeRow.two hr0_)
    replace V49 := Aside0.mk (V49.out.below hb)
    replace V50 := Aside0.mk (V50.out.below hb)
    replace V59 := Aside0.mk (V59.out.below hb)
    replace V62 := Aside0.mk (V62.out.below hb)
    replace V73 := Aside0.mk (V73.out.below hb)
    replace V76 := Aside0.mk (V76.out.below hb)
    replace G28 := Aside0.mk (G28.out.below hb)
    replace G30 := Aside0.mk (G30.out.below hb)
    replace G47 := Aside0.mk (G47.out.below hb)
    replace G64 := Aside0.mk (G64.out.below hb)
    replace G78 := Aside0.mk (G78.out.below hb)
    replace L := Aside0.mk (L.out.trans (hb.mono L.out.size))
    clear hb hr0_ hr1_
    go_upto_region 12 with fail
    obtain ⟨w1, g97, e1, e2, hB, hb⟩ := new_box _ #[.int .i64 r1, .slice A91 r2.length c92, .int .i64 r3, .int .i64 r4, .slice A94 r5.length c95, .int .i64 r6] 47
    rw [← e1]; try rw [← e2]
    have G98 := Aside0.mk hB
    replace V49 := Aside0.mk (V49.out.below hb)
    replace V50 := Aside0.mk (V50.out.below hb)
    replace V59 := Aside0.mk (V59.out.below hb)
    replace V62 := Aside0.mk (V62.out.below hb)
    replace V73 := Aside0.mk (V73.out.below hb)
    replace V76 := Aside0.mk (V76.out.below hb)
    replace V93 := Aside0.mk (V93.out.below hb)
    replace V96 := Aside0.mk (V96.out.below hb)
    replace G28 := Aside0.mk (G28.out.below hb)
    replace G30 := Aside0.mk (G30.out.below hb)
    replace G47 := Aside0.mk (G47.out.below hb)
    replace G64 := Aside0.mk (G64.out.below hb)
    replace G78 := Aside0.mk (G78.out.below hb)
    replace L := Aside0.mk (L.out.trans (hb.mono L.out.size))
    clear hB hb e1 e2
    have p99 := G98.out.cell 0 _ rfl
    have p100 := G98.out.cell 1 _ rfl
    have p101 := G98.out.cell 2 _ rfl
    have p102 := G98.out.cell 3 _ rfl
    have p103 := G98.out.cell 4 _ rfl
    have p104 := G98.out.cell 5 _ rfl
    have p105 := G47.out.cell 0 _ rfl
    have p106 := G47.out.cell 1 _ rfl
    have p107 := G47.out.cell 2 _ rfl
    have p108 := G47.out.cell 3 _ rfl
    have p109 := G47.out.cell 4 _ rfl
    have p110 := G47.out.cell 5 _ rfl
    go_wp2_with fail
    obtain ⟨k, hk⟩ := KF.out.f4
    refine (laws_eqExact.calls k r1 A91 c92 r2 r3 r4 A94 c95 r5 r6 r1 A43 c44 r2 r3 r4 A45 c46 r5 r6 true _ (V93.out.c) (V93.out.le) (V96.out.c) (V96.out.le) (V49.out.c) (V49.out.le) (V50.out.c) (V50.out.le) hk).mono ?_
    rintro x w1 ⟨rfl, hb⟩
    clear p99 p100 p101 p102 p103 p104 p105 p106 p107 p108 p109 p110
    replace V49 := Aside0.mk (V49.out.below hb)
    replace V50 := Aside0.mk (V50.out.below hb)
    replace V59 := Aside0.mk (V59.out.below hb)
    replace V62 := Aside0.mk (V62.out.below hb)
    replace V73 := Aside0.mk (V73.out.below hb)
    replace V76 := Aside0.mk (V76.out.below hb)
    replace V93 := Aside0.mk (V93.out.below hb)
    replace V96 := Aside0.mk (V96.out.below hb)
    replace G28 := Aside0.mk (G28.out.below hb)
    replace G30 := Aside0.mk (G30.out.below hb)
    replace G47 := Aside0.mk (G47.out.below hb)
    replace G64 := Aside0.mk (G64.out.below hb)
    replace G78 := Aside0.mk (G78.out.below hb)
    replace G98 := Aside0.mk (G98.out.below hb)
    replace L := Aside0.mk (L.out.trans (hb.mono L.out.size))
    clear hb hk
    go_upto_region 14 with fail
    refine start_ (n := 5) (S := fun w' => w'.cell? ⟨g63, 0, none⟩ = some (.int .i64 s0_0) ∧ w'.cell? ⟨g63, 1, none⟩ = some (.slice A57 l0_1.length c58) ∧ w'.cell? ⟨g63, 2, none⟩ = some (.int .i64 s0_2) ∧ w'.cell? ⟨g63, 3, none⟩ = some (.int .i64 s0_3) ∧ w'.cell? ⟨g63, 4, none⟩ = some (.slice A60 l0_4.length c61) ∧ w'.cell? ⟨g63, 5, none⟩ = some (.int .i64 s0_5) ∧ w'.cell? ⟨g27, 0, none⟩ = some (.int .i64 s0_0) ∧ w'.cell? ⟨g27, 1, none⟩ = some (.slice A0_1 l0_1.length c0_1) ∧ w'.cell? ⟨g27, 2, none⟩ = some (.int .i64 s0_2) ∧ w'.cell? ⟨g27, 3, none⟩ = some (.int .i64 s0_3) ∧ w'.cell? ⟨g27, 4, none⟩ = some (.slice A0_4 l0_4.length c0_4) ∧ w'.cell? ⟨g27, 5, none⟩ = some (.int .i64 s0_5)) (ds := []) #[false, false, false, false, false] (by kernel_rfl) rfl rfl ⟨G64.out.cell 0 _ rfl, G64.out.cell 1 _ rfl, G64.out.cell 2 _ rfl, G64.out.cell 3 _ rfl, G64.out.cell 4 _ rfl, G64.out.cell 5 _ rfl, G28.out.cell 0 _ rfl, G28.out.cell 1 _ rfl, G28.out.cell 2 _ rfl, G28.out.cell 3 _ rfl, G28.out.cell 4 _ rfl, G28.out.cell 5 _ rfl⟩ (fun hHeld => ?_)
    have Dw2 := Aside0.mk ((Below.refl w1.heap.size w1).drew)
    generalize w1.drew = w2 at hHeld Dw2 ⊢
    refine tk_ #[true, false, false, false, false] 0 54 (by kernel_rfl) hHeld ?_
    refine tk_ #[true, true, false, false, false] 1 55 (by kernel_rfl) hHeld ?_
    refine one_ (i := 2) (N := some 56) #[true, true, true, false, false] rfl rfl (by kernel_rfl) (by decide) (fun K hK => ?_)
    replace V49 := Aside0.mk (V49.out.below Dw2.out)
    replace V50 := Aside0.mk (V50.out.below Dw2.out)
    replace V59 := Aside0.mk (V59.out.below Dw2.out)
    replace V62 := Aside0.mk (V62.out.below Dw2.out)
    replace V73 := Aside0.mk (V73.out.below Dw2.out)
    replace V76 := Aside0.mk (V76.out.below Dw2.out)
    replace V93 := Aside0.mk (V93.out.below Dw2.out)
    replace V96 := Aside0.mk (V96.out.below Dw2.out)
    replace G28 := Aside0.mk (G28.out.below Dw2.out)
    replace G30 := Aside0.mk (G30.out.below Dw2.out)
    replace G47 := Aside0.mk (G47.out.below Dw2.out)
    replace G64 := Aside0.mk (G64.out.below Dw2.out)
    replace G78 := Aside0.mk (G78.out.below Dw2.out)
    replace G98 := Aside0.mk (G98.out.below Dw2.out)
    replace L := Aside0.mk (L.out.trans (Dw2.out.mono L.out.size))
    obtain ⟨k, hk⟩ := KF.out.f0
    refine goes_ Tryd.func26 (by kernel_rfl) rfl #[.agg #[.int .i64 s0_0, .slice A0_1 l0_1.length c0_1, .int .i64 s0_2, .int .i64 s0_3, .slice A0_4 l0_4.length c0_4, .int .i64 s0_5]] (by rfl) rfl rfl ma_ ?_
    with_reducible refine (laws_toExact.calls k s0_0 A0_1 c0_1 l0_1 s0_2 s0_3 A0_4 c0_4 l0_4 s0_5 s0_0 l0_1 s0_2 s0_3 l0_4 s0_5 _ (Kd.C_below HR0_1.out L.out) (HC0_1.out) (Kd.C_below HR0_4.out L.out) (HC0_4.out) hk).mono ?_
    rintro x w1 ⟨v0_, v1_, rfl, hr0_, hr1_, hb⟩
    refine ⟨_, rfl, ?_⟩
    obtain ⟨A111, c112, rfl⟩ := Kd.R_slice hr0_
    obtain ⟨A114, c115, rfl⟩ := Kd.R_slice hr1_
    have V113 := Aside0.mk (RO.of (w := w) hr0_ L.out.size)
    have V116 := Aside0.mk (RO.of (w := w) hr1_ L.out.size)
    have N_V49_V113 := Aside0.mk (NeRow.of V49.out.row hr0_)
    have N_V49_V116 := Aside0.mk (NeRow.of V49.out.row hr1_)
    have N_V50_V113 := Aside0.mk (NeRow.of V50.out.row hr0_)
    have N_V50_V116 := Aside0.mk (NeRow.of V50.out.row hr1_)
    have N_V59_V113 := Aside0.mk (NeRow.of V59.out.row hr0_)
    have N_V59_V116 := Aside0.mk (NeRow.of V59.out.row hr1_)
    have N_V62_V113 := Aside0.mk (NeRow.of V62.out.row hr0_)
    have N_V62_V116 := Aside0.mk (NeRow.of V62.out.row hr1_)
    have N_V73_V113 := Aside0.mk (NeRow.of V73.out.row hr0_)
    have N_V73_V116 := Aside0.mk (NeRow.of V73.out.row hr1_)
    have N_V76_V113 := Aside0.mk (NeRow.of V76.out.row hr0_)
    have N_V76_V116 := Aside0.mk (NeRow.of V76.out.row hr1_)
    have N_V93_V113 := Aside0.mk (NeRow.of V93.out.row hr0_)
    have N_V93_V116 := Aside0.mk (NeRow.of V93.out.row hr1_)
    have N_V96_V113 := Aside0.mk (NeRow.of V96.out.row hr0_)
    have N_V96_V116 := Aside0.mk (NeRow.of V96.out.row hr1_)
    have N_V113_V116 := Aside0.mk (NeRow.two hr0_)
    replace V49 := Aside0.mk (V49.out.below hb)
    replace V50 := Aside0.mk (V50.out.below hb)
    replace V59 := Aside0.mk (V59.out.below hb)
    replace V62 := Aside0.mk (V62.out.below hb)
    replace V73 := Aside0.mk (V73.out.below hb)
    replace V76 := Aside0.mk (V76.out.below hb)
    replace V93 := Aside0.mk (V93.out.below hb)
    replace V96 := Aside0.mk (V96.out.below hb)
    replace G28 := Aside0.mk (G28.out.below hb)
    replace G30 := Aside0.mk (G30.out.below hb)
    replace G47 := Aside0.mk (G47.out.below hb)
    replace G64 := Aside0.mk (G64.out.below hb)
    replace G78 := Aside0.mk (G78.out.below hb)
    replace G98 := Aside0.mk (G98.out.below hb)
    replace L := Aside0.mk (L.out.trans (hb.mono L.out.size))
    clear hb hk hr0_ hr1_
    refine hK.out _ _ ⟨G64.out.cell 0 _ rfl, G64.out.cell 1 _ rfl, G64.out.cell 2 _ rfl, G64.out.cell 3 _ rfl, G64.out.cell 4 _ rfl, G64.out.cell 5 _ rfl, G28.out.cell 0 _ rfl, G28.out.cell 1 _ rfl, G28.out.cell 2 _ rfl, G28.out.cell 3 _ rfl, G28.out.cell 4 _ rfl, G28.out.cell 5 _ rfl⟩ (fun hHeld => ?_)
    clear hK K
    refine nr_ ?_
    refine one_ (i := 3) (N := some 57) #[true, true, true, true, false] rfl rfl (by kernel_rfl) (by decide) (fun K hK => ?_)
    obtain ⟨k, hk⟩ := KF.out.f5
    refine goes_ Tryd.func28 (by kernel_rfl) rfl #[.agg #[.int .i64 s0_0, .slice A57 l0_1.length c58, .int .i64 s0_2, .int .i64 s0_3, .slice A60 l0_4.length c61, .int .i64 s0_5], .agg #[.int .i64 s0_0, .slice A111 l0_1.length c112, .int .i64 s0_2, .int .i64 s0_3, .slice A114 l0_4.length c115, .int .i64 s0_5]] (by rfl) rfl rfl ma_ ?_
    with_reducible refine (laws_eqExact.calls k s0_0 A57 c58 l0_1 s0_2 s0_3 A60 c61 l0_4 s0_5 s0_0 A111 c112 l0_1 s0_2 s0_3 A114 c115 l0_4 s0_5 true _ (V59.out.c) (V59.out.le) (V62.out.c) (V62.out.le) (V113.out.c) (V113.out.le) (V116.out.c) (V116.out.le) hk).mono ?_
    rintro x w1 ⟨rfl, hb⟩
    refine ⟨_, rfl, ?_⟩
    replace V49 := Aside0.mk (V49.out.below hb)
    replace V50 := Aside0.mk (V50.out.below hb)
    replace V59 := Aside0.mk (V59.out.below hb)
    replace V62 := Aside0.mk (V62.out.below hb)
    replace V73 := Aside0.mk (V73.out.below hb)
    replace V76 := Aside0.mk (V76.out.below hb)
    replace V93 := Aside0.mk (V93.out.below hb)
    replace V96 := Aside0.mk (V96.out.below hb)
    replace V113 := Aside0.mk (V113.out.below hb)
    replace V116 := Aside0.mk (V116.out.below hb)
    replace G28 := Aside0.mk (G28.out.below hb)
    replace G30 := Aside0.mk (G30.out.below hb)
    replace G47 := Aside0.mk (G47.out.below hb)
    replace G64 := Aside0.mk (G64.out.below hb)
    replace G78 := Aside0.mk (G78.out.below hb)
    replace G98 := Aside0.mk (G98.out.below hb)
    replace L := Aside0.mk (L.out.trans (hb.mono L.out.size))
    clear hb hk
    refine hK.out _ _ ⟨G64.out.cell 0 _ rfl, G64.out.cell 1 _ rfl, G64.out.cell 2 _ rfl, G64.out.cell 3 _ rfl, G64.out.cell 4 _ rfl, G64.out.cell 5 _ rfl, G28.out.cell 0 _ rfl, G28.out.cell 1 _ rfl, G28.out.cell 2 _ rfl, G28.out.cell 3 _ rfl, G28.out.cell 4 _ rfl, G28.out.cell 5 _ rfl⟩ (fun hHeld => ?_)
    clear hK K
    refine nr_ ?_
    refine pu_ #[true, true, true, true, true] 4 58 (by kernel_rfl) ?_
    refine done_ (by kernel_rfl) ?_
    clear V113 V116
    go_upto_region 16 with fail
    refine start_ (n := 5) (S := fun w' => w'.cell? ⟨g77, 0, none⟩ = some (.int .i64 s1_0) ∧ w'.cell? ⟨g77, 1, none⟩ = some (.slice A71 l1_1.length c72) ∧ w'.cell? ⟨g77, 2, none⟩ = some (.int .i64 s1_2) ∧ w'.cell? ⟨g77, 3, none⟩ = some (.int .i64 s1_3) ∧ w'.cell? ⟨g77, 4, none⟩ = some (.slice A74 l1_4.length c75) ∧ w'.cell? ⟨g77, 5, none⟩ = some (.int .i64 s1_5) ∧ w'.cell? ⟨g29, 0, none⟩ = some (.int .i64 s1_0) ∧ w'.cell? ⟨g29, 1, none⟩ = some (.slice A1_1 l1_1.length c1_1) ∧ w'.cell? ⟨g29, 2, none⟩ = some (.int .i64 s1_2) ∧ w'.cell? ⟨g29, 3, none⟩ = some (.int .i64 s1_3) ∧ w'.cell? ⟨g29, 4, none⟩ = some (.slice A1_4 l1_4.length c1_4) ∧ w'.cell? ⟨g29, 5, none⟩ = some (.int .i64 s1_5)) (ds := []) #[false, false, false, false, false] (by kernel_rfl) rfl rfl ⟨G78.out.cell 0 _ rfl, G78.out.cell 1 _ rfl, G78.out.cell 2 _ rfl, G78.out.cell 3 _ rfl, G78.out.cell 4 _ rfl, G78.out.cell 5 _ rfl, G30.out.cell 0 _ rfl, G30.out.cell 1 _ rfl, G30.out.cell 2 _ rfl, G30.out.cell 3 _ rfl, G30.out.cell 4 _ rfl, G30.out.cell 5 _ rfl⟩ (fun hHeld => ?_)
    have Dw2 := Aside0.mk ((Below.refl w1.heap.size w1).drew)
    generalize w1.drew = w2 at hHeld Dw2 ⊢
    refine tk_ #[true, false, false, false, false] 0 59 (by kernel_rfl) hHeld ?_
    refine tk_ #[true, true, false, false, false] 1 60 (by kernel_rfl) hHeld ?_
    refine one_ (i := 2) (N := some 61) #[true, true, true, false, false] rfl rfl (by kernel_rfl) (by decide) (fun K hK => ?_)
    replace V49 := Aside0.mk (V49.out.below Dw2.out)
    replace V50 := Aside0.mk (V50.out.below Dw2.out)
    replace V59 := Aside0.mk (V59.out.below Dw2.out)
    replace V62 := Aside0.mk (V62.out.below Dw2.out)
    replace V73 := Aside0.mk (V73.out.below Dw2.out)
    replace V76 := Aside0.mk (V76.out.below Dw2.out)
    replace V93 := Aside0.mk (V93.out.below Dw2.out)
    replace V96 := Aside0.mk (V96.out.below Dw2.out)
    replace G28 := Aside0.mk (G28.out.below Dw2.out)
    replace G30 := Aside0.mk (G30.out.below Dw2.out)
    replace G47 := Aside0.mk (G47.out.below Dw2.out)
    replace G64 := Aside0.mk (G64.out.below Dw2.out)
    replace G78 := Aside0.mk (G78.out.below Dw2.out)
    replace G98 := Aside0.mk (G98.out.below Dw2.out)
    replace L := Aside0.mk (L.out.trans (Dw2.out.mono L.out.size))
    obtain ⟨k, hk⟩ := KF.out.f1
    refine goes_ Tryd.func26 (by kernel_rfl) rfl #[.agg #[.int .i64 s1_0, .slice A1_1 l1_1.length c1_1, .int .i64 s1_2, .int .i64 s1_3, .slice A1_4 l1_4.length c1_4, .int .i64 s1_5]] (by rfl) rfl rfl ma_ ?_
    with_reducible refine (laws_toExact.calls k s1_0 A1_1 c1_1 l1_1 s1_2 s1_3 A1_4 c1_4 l1_4 s1_5 s1_0 l1_1 s1_2 s1_3 l1_4 s1_5 _ (Kd.C_below HR1_1.out L.out) (HC1_1.out) (Kd.C_below HR1_4.out L.out) (HC1_4.out) hk).mono ?_
    rintro x w1 ⟨v0_, v1_, rfl, hr0_, hr1_, hb⟩
    refine ⟨_, rfl, ?_⟩
    obtain ⟨A117, c118, rfl⟩ := Kd.R_slice hr0_
    obtain ⟨A120, c121, rfl⟩ := Kd.R_slice hr1_
    have V119 := Aside0.mk (RO.of (w := w) hr0_ L.out.size)
    have V122 := Aside0.mk (RO.of (w := w) hr1_ L.out.size)
    have N_V49_V119 := Aside0.mk (NeRow.of V49.out.row hr0_)
    have N_V49_V122 := Aside0.mk (NeRow.of V49.out.row hr1_)
    have N_V50_V119 := Aside0.mk (NeRow.of V50.out.row hr0_)
    have N_V50_V122 := Aside0.mk (NeRow.of V50.out.row hr1_)
    have N_V59_V119 := Aside0.mk (NeRow.of V59.out.row hr0_)
    have N_V59_V122 := Aside0.mk (NeRow.of V59.out.row hr1_)
    have N_V62_V119 := Aside0.mk (NeRow.of V62.out.row hr0_)
    have N_V62_V122 := Aside0.mk (NeRow.of V62.out.row hr1_)
    have N_V73_V119 := Aside0.mk (NeRow.of V73.out.row hr0_)
    have N_V73_V122 := Aside0.mk (NeRow.of V73.out.row hr1_)
    have N_V76_V119 := Aside0.mk (NeRow.of V76.out.row hr0_)
    have N_V76_V122 := Aside0.mk (NeRow.of V76.out.row hr1_)
    have N_V93_V119 := Aside0.mk (NeRow.of V93.out.row hr0_)
    have N_V93_V122 := Aside0.mk (NeRow.of V93.out.row hr1_)
    have N_V96_V119 := Aside0.mk (NeRow.of V96.out.row hr0_)
    have N_V96_V122 := Aside0.mk (NeRow.of V96.out.row hr1_)
    have N_V119_V122 := Aside0.mk (NeRow.two hr0_)
    replace V49 := Aside0.mk (V49.out.below hb)
    replace V50 := Aside0.mk (V50.out.below hb)
    replace V59 := Aside0.mk (V59.out.below hb)
    replace V62 := Aside0.mk (V62.out.below hb)
    replace V73 := Aside0.mk (V73.out.below hb)
    replace V76 := Aside0.mk (V76.out.below hb)
    replace V93 := Aside0.mk (V93.out.below hb)
    replace V96 := Aside0.mk (V96.out.below hb)
    replace G28 := Aside0.mk (G28.out.below hb)
    replace G30 := Aside0.mk (G30.out.below hb)
    replace G47 := Aside0.mk (G47.out.below hb)
    replace G64 := Aside0.mk (G64.out.below hb)
    replace G78 := Aside0.mk (G78.out.below hb)
    replace G98 := Aside0.mk (G98.out.below hb)
    replace L := Aside0.mk (L.out.trans (hb.mono L.out.size))
    clear hb hk hr0_ hr1_
    refine hK.out _ _ ⟨G78.out.cell 0 _ rfl, G78.out.cell 1 _ rfl, G78.out.cell 2 _ rfl, G78.out.cell 3 _ rfl, G78.out.cell 4 _ rfl, G78.out.cell 5 _ rfl, G30.out.cell 0 _ rfl, G30.out.cell 1 _ rfl, G30.out.cell 2 _ rfl, G30.out.cell 3 _ rfl, G30.out.cell 4 _ rfl, G30.out.cell 5 _ rfl⟩ (fun hHeld => ?_)
    clear hK K
    refine nr_ ?_
    refine one_ (i := 3) (N := some 62) #[true, true, true, true, false] rfl rfl (by kernel_rfl) (by decide) (fun K hK => ?_)
    obtain ⟨k, hk⟩ := KF.out.f6
    refine goes_ Tryd.func28 (by kernel_rfl) rfl #[.agg #[.int .i64 s1_0, .slice A71 l1_1.length c72, .int .i64 s1_2, .int .i64 s1_3, .slice A74 l1_4.length c75, .int .i64 s1_5], .agg #[.int .i64 s1_0, .slice A117 l1_1.length c118, .int .i64 s1_2, .int .i64 s1_3, .slice A120 l1_4.length c121, .int .i64 s1_5]] (by rfl) rfl rfl ma_ ?_
    with_reducible refine (laws_eqExact.calls k s1_0 A71 c72 l1_1 s1_2 s1_3 A74 c75 l1_4 s1_5 s1_0 A117 c118 l1_1 s1_2 s1_3 A120 c121 l1_4 s1_5 true _ (V73.out.c) (V73.out.le) (V76.out.c) (V76.out.le) (V119.out.c) (V119.out.le) (V122.out.c) (V122.out.le) hk).mono ?_
    rintro x w1 ⟨rfl, hb⟩
    refine ⟨_, rfl, ?_⟩
    replace V49 := Aside0.mk (V49.out.below hb)
    replace V50 := Aside0.mk (V50.out.below hb)
    replace V59 := Aside0.mk (V59.out.below hb)
    replace V62 := Aside0.mk (V62.out.below hb)
    replace V73 := Aside0.mk (V73.out.below hb)
    replace V76 := Aside0.mk (V76.out.below hb)
    replace V93 := Aside0.mk (V93.out.below hb)
    replace V96 := Aside0.mk (V96.out.below hb)
    replace V119 := Aside0.mk (V119.out.below hb)
    replace V122 := Aside0.mk (V122.out.below hb)
    replace G28 := Aside0.mk (G28.out.below hb)
    replace G30 := Aside0.mk (G30.out.below hb)
    replace G47 := Aside0.mk (G47.out.below hb)
    replace G64 := Aside0.mk (G64.out.below hb)
    replace G78 := Aside0.mk (G78.out.below hb)
    replace G98 := Aside0.mk (G98.out.below hb)
    replace L := Aside0.mk (L.out.trans (hb.mono L.out.size))
    clear hb hk
    refine hK.out _ _ ⟨G78.out.cell 0 _ rfl, G78.out.cell 1 _ rfl, G78.out.cell 2 _ rfl, G78.out.cell 3 _ rfl, G78.out.cell 4 _ rfl, G78.out.cell 5 _ rfl, G30.out.cell 0 _ rfl, G30.out.cell 1 _ rfl, G30.out.cell 2 _ rfl, G30.out.cell 3 _ rfl, G30.out.cell 4 _ rfl, G30.out.cell 5 _ rfl⟩ (fun hHeld => ?_)
    clear hK K
    refine nr_ ?_
    refine pu_ #[true, true, true, true, true] 4 63 (by kernel_rfl) ?_
    refine done_ (by kernel_rfl) ?_
    clear V119 V122
    go_upto_region 19 with fail
    have p123 := G64.out.cell 0 _ rfl
    have p124 := G64.out.cell 1 _ rfl
    have p125 := G64.out.cell 2 _ rfl
    have p126 := G64.out.cell 3 _ rfl
    have p127 := G64.out.cell 4 _ rfl
    have p128 := G64.out.cell 5 _ rfl
    go_wp2_with fail
    obtain ⟨k, hk⟩ := KF.out.f7
    refine (laws_markExact.calls k s0_0 (fun q => some q = (.slice A57 l0_1.length c58 : Value).ownBlock) (.slice A57 l0_1.length c58) l0_1 s0_2 s0_3 (fun q => some q = (.slice A60 l0_4.length c61 : Value).ownBlock) (.slice A60 l0_4.length c61) l0_4 s0_5 1 n1 m129 m130 w _ L.out V59.out.row N_V59_V62.out V62.out.row N_V59_V62.out.symm hk).mono ?_
    rintro x w1 ⟨rfl, hr0_, hr1_, hb, hkp⟩
    clear p123 p124 p125 p126 p127 p128
    replace V49 := Aside0.mk (V49.out.kept2 hkp N_V49_V59.out N_V49_V62.out)
    replace V50 := Aside0.mk (V50.out.kept2 hkp N_V50_V59.out N_V50_V62.out)
    replace V73 := Aside0.mk (V73.out.kept2 hkp N_V59_V73.out.symm N_V62_V73.out.symm)
    replace V76 := Aside0.mk (V76.out.kept2 hkp N_V59_V76.out.symm N_V62_V76.out.symm)
    replace V93 := Aside0.mk (V93.out.kept2 hkp N_V59_V93.out.symm N_V62_V93.out.symm)
    replace V96 := Aside0.mk (V96.out.kept2 hkp N_V59_V96.out.symm N_V62_V96.out.symm)
    replace G28 := Aside0.mk (G28.out.kept2 V59.out V62.out (by decide) hkp)
    replace G30 := Aside0.mk (G30.out.kept2 V59.out V62.out (by decide) hkp)
    replace G47 := Aside0.mk (G47.out.kept2 V59.out V62.out (by decide) hkp)
    replace G64 := Aside0.mk (G64.out.kept2 V59.out V62.out (by decide) hkp)
    replace G78 := Aside0.mk (G78.out.kept2 V59.out V62.out (by decide) hkp)
    replace G98 := Aside0.mk (G98.out.kept2 V59.out V62.out (by decide) hkp)
    replace V59 := Aside0.mk (RO.of (w := w) hr0_ (Nat.le_refl _))
    replace V62 := Aside0.mk (RO.of (w := w) hr1_ (Nat.le_refl _))
    replace L := Aside0.mk hb
    clear hb hkp hk hr0_ hr1_
    have hn1 := KF.out.f8
    clear G64
    clear V59 V62
    have p131 := G78.out.cell 0 _ rfl
    have p132 := G78.out.cell 1 _ rfl
    have p133 := G78.out.cell 2 _ rfl
    have p134 := G78.out.cell 3 _ rfl
    have p135 := G78.out.cell 4 _ rfl
    have p136 := G78.out.cell 5 _ rfl
    go_wp2_with fail
    obtain ⟨k, hk⟩ := KF.out.f11
    refine (laws_markExact.calls k s1_0 (fun q => some q = (.slice A71 l1_1.length c72 : Value).ownBlock) (.slice A71 l1_1.length c72) l1_1 s1_2 s1_3 (fun q => some q = (.slice A74 l1_4.length c75 : Value).ownBlock) (.slice A74 l1_4.length c75) l1_4 s1_5 n1 n2 m137 m138 w _ L.out V73.out.row N_V73_V76.out V76.out.row N_V73_V76.out.symm hk).mono ?_
    rintro x w1 ⟨rfl, hr0_, hr1_, hb, hkp⟩
    clear p131 p132 p133 p134 p135 p136
    replace V49 := Aside0.mk (V49.out.kept2 hkp N_V49_V73.out N_V49_V76.out)
    replace V50 := Aside0.mk (V50.out.kept2 hkp N_V50_V73.out N_V50_V76.out)
    replace V93 := Aside0.mk (V93.out.kept2 hkp N_V73_V93.out.symm N_V76_V93.out.symm)
    replace V96 := Aside0.mk (V96.out.kept2 hkp N_V73_V96.out.symm N_V76_V96.out.symm)
    replace G28 := Aside0.mk (G28.out.kept2 V73.out V76.out (by decide) hkp)
    replace G30 := Aside0.mk (G30.out.kept2 V73.out V76.out (by decide) hkp)
    replace G47 := Aside0.mk (G47.out.kept2 V73.out V76.out (by decide) hkp)
    replace G78 := Aside0.mk (G78.out.kept2 V73.out V76.out (by decide) hkp)
    replace G98 := Aside0.mk (G98.out.kept2 V73.out V76.out (by decide) hkp)
    replace V73 := Aside0.mk (RO.of (w := w) hr0_ (Nat.le_refl _))
    replace V76 := Aside0.mk (RO.of (w := w) hr1_ (Nat.le_refl _))
    replace L := Aside0.mk hb
    clear hb hkp hk hr0_ hr1_
    have hn2 := KF.out.f12
    clear G78
    clear V73 V76
    have p139 := G98.out.cell 0 _ rfl
    have p140 := G98.out.cell 1 _ rfl
    have p141 := G98.out.cell 2 _ rfl
    have p142 := G98.out.cell 3 _ rfl
    have p143 := G98.out.cell 4 _ rfl
    have p144 := G98.out.cell 5 _ rfl
    have p145 := G47.out.cell 0 _ rfl
    have p146 := G47.out.cell 1 _ rfl
    have p147 := G47.out.cell 2 _ rfl
    have p148 := G47.out.cell 3 _ rfl
    have p149 := G47.out.cell 4 _ rfl
    have p150 := G47.out.cell 5 _ rfl
    go_wp2_with fail
    obtain ⟨k, hk⟩ := KF.out.f4
    refine (laws_eqExact.calls k r1 A91 c92 r2 r3 r4 A94 c95 r5 r6 r1 A43 c44 r2 r3 r4 A45 c46 r5 r6 true _ (V93.out.c) (V93.out.le) (V96.out.c) (V96.out.le) (V49.out.c) (V49.out.le) (V50.out.c) (V50.out.le) hk).mono ?_
    rintro x w1 ⟨rfl, hb⟩
    clear p139 p140 p141 p142 p143 p144 p145 p146 p147 p148 p149 p150
    replace V49 := Aside0.mk (V49.out.below hb)
    replace V50 := Aside0.mk (V50.out.below hb)
    replace V93 := Aside0.mk (V93.out.below hb)
    replace V96 := Aside0.mk (V96.out.below hb)
    replace G28 := Aside0.mk (G28.out.below hb)
    replace G30 := Aside0.mk (G30.out.below hb)
    replace G47 := Aside0.mk (G47.out.below hb)
    replace G98 := Aside0.mk (G98.out.below hb)
    replace L := Aside0.mk (L.out.trans (hb.mono L.out.size))
    clear hb hk
    have p151 := G98.out.cell 0 _ rfl
    have p152 := G98.out.cell 1 _ rfl
    have p153 := G98.out.cell 2 _ rfl
    have p154 := G98.out.cell 3 _ rfl
    have p155 := G98.out.cell 4 _ rfl
    have p156 := G98.out.cell 5 _ rfl
    go_wp2_with fail
    obtain ⟨k, hk⟩ := KF.out.f15
    refine (laws_markExact.calls k r1 (fun q => some q = (.slice A91 r2.length c92 : Value).ownBlock) (.slice A91 r2.length c92) r2 r3 r4 (fun q => some q = (.slice A94 r5.length c95 : Value).ownBlock) (.slice A94 r5.length c95) r5 r6 1 n3 m157 m158 w _ L.out V93.out.row N_V93_V96.out V96.out.row N_V93_V96.out.symm hk).mono ?_
    rintro x w1 ⟨rfl, hr0_, hr1_, hb, hkp⟩
    clear p151 p152 p153 p154 p155 p156
    replace V49 := Aside0.mk (V49.out.kept2 hkp N_V49_V93.out N_V49_V96.out)
    replace V50 := Aside0.mk (V50.out.kept2 hkp N_V50_V93.out N_V50_V96.out)
    replace G28 := Aside0.mk (G28.out.kept2 V93.out V96.out (by decide) hkp)
    replace G30 := Aside0.mk (G30.out.kept2 V93.out V96.out (by decide) hkp)
    replace G47 := Aside0.mk (G47.out.kept2 V93.out V96.out (by decide) hkp)
    replace G98 := Aside0.mk (G98.out.kept2 V93.out V96.out (by decide) hkp)
    replace V93 := Aside0.mk (RO.of (w := w) hr0_ (Nat.le_refl _))
    replace V96 := Aside0.mk (RO.of (w := w) hr1_ (Nat.le_refl _))
    replace L := Aside0.mk hb
    clear hb hkp hk hr0_ hr1_
    have hn3 := KF.out.f16
    have p159 := G98.out.cell 0 _ rfl
    have p160 := G98.out.cell 1 _ rfl
    have p161 := G98.out.cell 2 _ rfl
    have p162 := G98.out.cell 3 _ rfl
    have p163 := G98.out.cell 4 _ rfl
    have p164 := G98.out.cell 5 _ rfl
    go_wp2_with fail
    obtain ⟨k, hk⟩ := KF.out.f19
    have V93_ := V93.out; rw [← KF.out.f17] at V93_
    have V96_ := V96.out; rw [← KF.out.f18] at V96_
    have hcon := laws_heldExact.calls k r1 A91 c92 m157 r3 r4 A94 c95 m158 r6 1 n3 _ V93_.c V93_.le V96_.c V96_.le hk
    rw [KF.out.f17, KF.out.f18] at hcon
    refine (hcon).mono ?_
    rintro x w1 ⟨rfl, hb⟩
    clear p159 p160 p161 p162 p163 p164
    replace V49 := Aside0.mk (V49.out.below hb)
    replace V50 := Aside0.mk (V50.out.below hb)
    replace V93 := Aside0.mk (V93.out.below hb)
    replace V96 := Aside0.mk (V96.out.below hb)
    replace G28 := Aside0.mk (G28.out.below hb)
    replace G30 := Aside0.mk (G30.out.below hb)
    replace G47 := Aside0.mk (G47.out.below hb)
    replace G98 := Aside0.mk (G98.out.below hb)
    replace L := Aside0.mk (L.out.trans (hb.mono L.out.size))
    clear hb hk
    clear hcon V93_ V96_
    go_upto_region 31 with fail
    refine start_ (n := 11) (S := fun w' => w'.cell? ⟨g27, 0, none⟩ = some (.int .i64 s0_0) ∧ w'.cell? ⟨g27, 1, none⟩ = some (.slice A0_1 l0_1.length c0_1) ∧ w'.cell? ⟨g27, 2, none⟩ = some (.int .i64 s0_2) ∧ w'.cell? ⟨g27, 3, none⟩ = some (.int .i64 s0_3) ∧ w'.cell? ⟨g27, 4, none⟩ = some (.slice A0_4 l0_4.length c0_4) ∧ w'.cell? ⟨g27, 5, none⟩ = some (.int .i64 s0_5) ∧ w'.cell? ⟨g29, 0, none⟩ = some (.int .i64 s1_0) ∧ w'.cell? ⟨g29, 1, none⟩ = some (.slice A1_1 l1_1.length c1_1) ∧ w'.cell? ⟨g29, 2, none⟩ = some (.int .i64 s1_2) ∧ w'.cell? ⟨g29, 3, none⟩ = some (.int .i64 s1_3) ∧ w'.cell? ⟨g29, 4, none⟩ = some (.slice A1_4 l1_4.length c1_4) ∧ w'.cell? ⟨g29, 5, none⟩ = some (.int .i64 s1_5)) (ds := [9]) #[false, false, false, false, false, false, false, false, false, false, false] (by kernel_rfl) rfl rfl ⟨G28.out.cell 0 _ rfl, G28.out.cell 1 _ rfl, G28.out.cell 2 _ rfl, G28.out.cell 3 _ rfl, G28.out.cell 4 _ rfl, G28.out.cell 5 _ rfl, G30.out.cell 0 _ rfl, G30.out.cell 1 _ rfl, G30.out.cell 2 _ rfl, G30.out.cell 3 _ rfl, G30.out.cell 4 _ rfl, G30.out.cell 5 _ rfl⟩ (fun hHeld => ?_)
    have hb := (Below.refl w1.heap.size w1).drew; generalize w1.drew = w1 at hHeld hb ⊢
    replace V49 := Aside0.mk (V49.out.below hb)
    replace V50 := Aside0.mk (V50.out.below hb)
    replace V93 := Aside0.mk (V93.out.below hb)
    replace V96 := Aside0.mk (V96.out.below hb)
    replace G28 := Aside0.mk (G28.out.below hb)
    replace G30 := Aside0.mk (G30.out.below hb)
    replace G47 := Aside0.mk (G47.out.below hb)
    replace G98 := Aside0.mk (G98.out.below hb)
    replace L := Aside0.mk (L.out.trans (hb.mono L.out.size))
    clear hb
    refine tk_ #[true, false, false, false, false, false, false, false, false, false, false] 0 95 (by kernel_rfl) hHeld ?_
    refine tk_ #[true, false, true, false, false, false, false, false, false, false, false] 2 97 (by kernel_rfl) hHeld ?_
    refine join_ (σ := Value × Value × Value × Value × Value × Value × Nat) 2 #[true, true, true, true, true, true, true, true, true, false, false] (fun s => [(96, .agg #[.int .i64 s0_0, s.1, .int .i64 s0_2, .int .i64 s0_3, s.2.1, .int .i64 s0_5]), (98, .agg #[.int .i64 s1_0, s.2.2.1, .int .i64 s1_2, .int .i64 s1_3, s.2.2.2.1, .int .i64 s1_5]), (99, .tuple #[.agg #[.int .i64 r1, s.2.2.2.2.1, .int .i64 r3, .int .i64 r4, s.2.2.2.2.2.1, .int .i64 r6], .int .i64 r7]), (94, .tuple #[.agg #[.int .i64 r1, s.2.2.2.2.1, .int .i64 r3, .int .i64 r4, s.2.2.2.2.2.1, .int .i64 r6], .int .i64 r7]), (100, .agg #[.int .i64 r1, s.2.2.2.2.1, .int .i64 r3, .int .i64 r4, s.2.2.2.2.2.1, .int .i64 r6]), (101, .int .i64 r7), (15, .pointer (some ⟨s.2.2.2.2.2.2, 0, none⟩))]) (fun s w' => (w'.cell? ⟨g27, 0, none⟩ = some (.int .i64 s0_0) ∧ w'.cell? ⟨g27, 1, none⟩ = some (.slice A0_1 l0_1.length c0_1) ∧ w'.cell? ⟨g27, 2, none⟩ = some (.int .i64 s0_2) ∧ w'.cell? ⟨g27, 3, none⟩ = some (.int .i64 s0_3) ∧ w'.cell? ⟨g27, 4, none⟩ = some (.slice A0_4 l0_4.length c0_4) ∧ w'.cell? ⟨g27, 5, none⟩ = some (.int .i64 s0_5) ∧ w'.cell? ⟨g29, 0, none⟩ = some (.int .i64 s1_0) ∧ w'.cell? ⟨g29, 1, none⟩ = some (.slice A1_1 l1_1.length c1_1) ∧ w'.cell? ⟨g29, 2, none⟩ = some (.int .i64 s1_2) ∧ w'.cell? ⟨g29, 3, none⟩ = some (.int .i64 s1_3) ∧ w'.cell? ⟨g29, 4, none⟩ = some (.slice A1_4 l1_4.length c1_4) ∧ w'.cell? ⟨g29, 5, none⟩ = some (.int .i64 s1_5)) ∧ RO w w' (.slice A43 r2.length c44) r2 ∧ RO w w' (.slice A45 r5.length c46) r5 ∧ RO w w' (.slice A91 r2.length c92) m157 ∧ RO w w' (.slice A94 r5.length c95) m158 ∧ BX w' g27 #[.int .i64 s0_0, .slice A0_1 l0_1.length c0_1, .int .i64 s0_2, .int .i64 s0_3, .slice A0_4 l0_4.length c0_4, .int .i64 s0_5] 42 ∧ BX w' g29 #[.int .i64 s1_0, .slice A1_1 l1_1.length c1_1, .int .i64 s1_2, .int .i64 s1_3, .slice A1_4 l1_4.length c1_4, .int .i64 s1_5] 42 ∧ BX w' g48 #[.int .i64 r1, .slice A43 r2.length c44, .int .i64 r3, .int .i64 r4, .slice A45 r5.length c46, .int .i64 r6] 47 ∧ BX w' g97 #[.int .i64 r1, .slice A91 r2.length c92, .int .i64 r3, .int .i64 r4, .slice A94 r5.length c95, .int .i64 r6] 47 ∧ Below w.heap.size w w' ∧ RO w w' s.2.2.2.2.1 r2 ∧ RO w w' s.2.2.2.2.2.1 r5 ∧ BX w' s.2.2.2.2.2.2 #[.int .i64 0, .slice none 0 0, .int .i64 0, .int .i64 0, .slice none 0 0, .int .i64 0] 47 ∧ w.heap.size ≤ s.2.2.2.2.2.2 ∧ g27 ≠ s.2.2.2.2.2.2 ∧ g29 ≠ s.2.2.2.2.2.2 ∧ g48 ≠ s.2.2.2.2.2.2 ∧ g97 ≠ s.2.2.2.2.2.2) ?cont (fun hJ => ?_)
    case cont =>
     rintro ⟨t0_0, t0_1, t1_0, t1_1, u0_0, u0_1, y0⟩ w1 ⟨hHeld, h0_, h1_, h2_, h3_, h4_, h5_, h6_, h7_, h8_, h9_, h10_, h11_, h12_, h13_, h14_, h15_, h16_⟩
     try dsimp only at hHeld h0_ h1_ h2_ h3_ h4_ h5_ h6_ h7_ h8_ h9_ h10_ h11_ h12_ h13_ h14_ h15_ h16_
     have V49 := Aside0.mk h0_; have V50 := Aside0.mk h1_; have V93 := Aside0.mk h2_; have V96 := Aside0.mk h3_; have G28 := Aside0.mk h4_; have G30 := Aside0.mk h5_; have G47 := Aside0.mk h6_; have G98 := Aside0.mk h7_; have L := Aside0.mk h8_; have Uu0_0 := Aside0.mk h9_; have Uu0_1 := Aside0.mk h10_; have By0 := Aside0.mk h11_; have Ey0 := Aside0.mk h12_; have DG28_y0 := Aside0.mk h13_; have DG30_y0 := Aside0.mk h14_; have DG47_y0 := Aside0.mk h15_; have DG98_y0 := Aside0.mk h16_
     clear h0_ h1_ h2_ h3_ h4_ h5_ h6_ h7_ h8_ h9_ h10_ h11_ h12_ h13_ h14_ h15_ h16_
     obtain ⟨A165, c166, rfl⟩ := Kd.R_slice Uu0_0.out.row
     obtain ⟨A167, c168, rfl⟩ := Kd.R_slice Uu0_1.out.row
     refine norm_ (a' := ?_) ?_ ?_
     rotate_left
     ·simp only [putAll, Act.put, List.setIfInBounds_toArray, List.set_cons_zero, List.set_cons_succ]
      rfl
     refine last_ (i := 9) (N := none) #[true, true, true, true, true, true, true, true, true, true, false] rfl rfl (by kernel_rfl) (by decide) (fun K hK => ?_)
     obtain ⟨q0, q1, q2, q3, q4, q5, q6, q7, q8, q9, q10, q11⟩ := ck6_ (Aside0.mk By0.out.x)
     refine skip_ (w1 := ?_) (by rfl) rfl ?_ ?_
     rotate_left
     ·go_simp
      rfl
     refine hK.out _ _ ?_
     clear hK K q0 q1 q2 q3 q4 q5 q6 q7 q8 q9 q10 q11
     obtain ⟨w1, e1, hB, hst⟩ := store6 By0.out (.int .i64 r1) (.slice A165 r2.length c166) (.int .i64 r3) (.int .i64 r4) (.slice A167 r5.length c168) (.int .i64 r6)
     rw [← e1]; clear e1
     replace V49 := Aside0.mk (V49.out.stp hst By0.out (by decide))
     replace V50 := Aside0.mk (V50.out.stp hst By0.out (by decide))
     replace V93 := Aside0.mk (V93.out.stp hst By0.out (by decide))
     replace V96 := Aside0.mk (V96.out.stp hst By0.out (by decide))
     replace G28 := Aside0.mk (G28.out.stp hst DG28_y0.out)
     replace G30 := Aside0.mk (G30.out.stp hst DG30_y0.out)
     replace G47 := Aside0.mk (G47.out.stp hst DG47_y0.out)
     replace G98 := Aside0.mk (G98.out.stp hst DG98_y0.out)
     replace Uu0_0 := Aside0.mk (Uu0_0.out.stp hst By0.out (by decide))
     replace Uu0_1 := Aside0.mk (Uu0_1.out.stp hst By0.out (by decide))
     replace L := Aside0.mk (hst.low L.out Ey0.out); replace By0 := Aside0.mk hB; clear hB hst
     refine pu_ #[true, true, true, true, true, true, true, true, true, true, true] 10 16 (by kernel_rfl) ?_
     refine done_ (by kernel_rfl) ?_
     clear hHeld Ey0 DG28_y0 DG30_y0 DG47_y0 DG98_y0
     obtain ⟨g170, eg⟩ : ∃ x, x = y0 := ⟨_, rfl⟩
     rw [← eg] at By0 ⊢; clear eg
     have G169 := By0; clear By0
     have V171 := Uu0_0; clear Uu0_0
     have V172 := Uu0_1; clear Uu0_1
     have p173 := G169.out.cell 0 _ rfl
     have p174 := G169.out.cell 1 _ rfl
     have p175 := G169.out.cell 2 _ rfl
     have p176 := G169.out.cell 3 _ rfl
     have p177 := G169.out.cell 4 _ rfl
     have p178 := G169.out.cell 5 _ rfl
     have p179 := G47.out.cell 0 _ rfl
     have p180 := G47.out.cell 1 _ rfl
     have p181 := G47.out.cell 2 _ rfl
     have p182 := G47.out.cell 3 _ rfl
     have p183 := G47.out.cell 4 _ rfl
     have p184 := G47.out.cell 5 _ rfl
     go_wp2_with fail
     obtain ⟨k, hk⟩ := KF.out.f4
     refine (laws_eqExact.calls k r1 A165 c166 r2 r3 r4 A167 c168 r5 r6 r1 A43 c44 r2 r3 r4 A45 c46 r5 r6 true _ (V171.out.c) (V171.out.le) (V172.out.c) (V172.out.le) (V49.out.c) (V49.out.le) (V50.out.c) (V50.out.le) hk).mono ?_
     rintro x w1 ⟨rfl, hb⟩
     clear p173 p174 p175 p176 p177 p178 p179 p180 p181 p182 p183 p184
     replace V49 := Aside0.mk (V49.out.below hb)
     replace V50 := Aside0.mk (V50.out.below hb)
     replace V93 := Aside0.mk (V93.out.below hb)
     replace V96 := Aside0.mk (V96.out.below hb)
     replace V171 := Aside0.mk (V171.out.below hb)
     replace V172 := Aside0.mk (V172.out.below hb)
     replace G28 := Aside0.mk (G28.out.below hb)
     replace G30 := Aside0.mk (G30.out.below hb)
     replace G47 := Aside0.mk (G47.out.below hb)
     replace G98 := Aside0.mk (G98.out.below hb)
     replace G169 := Aside0.mk (G169.out.below hb)
     replace L := Aside0.mk (L.out.trans (hb.mono L.out.size))
     clear hb hk
     have p185 := G98.out.cell 0 _ rfl
     have p186 := G98.out.cell 1 _ rfl
     have p187 := G98.out.cell 2 _ rfl
     have p188 := G98.out.cell 3 _ rfl
     have p189 := G98.out.cell 4 _ rfl
     have p190 := G98.out.cell 5 _ rfl
     go_wp2_with fail
     obtain ⟨k, hk⟩ := KF.out.f19
     have V93_ := V93.out; rw [← KF.out.f17] at V93_
     have V96_ := V96.out; rw [← KF.out.f18] at V96_
     have hcon := laws_heldExact.calls k r1 A91 c92 m157 r3 r4 A94 c95 m158 r6 1 n3 _ V93_.c V93_.le V96_.c V96_.le hk
     rw [KF.out.f17, KF.out.f18] at hcon
     refine (hcon).mono ?_
     rintro x w1 ⟨rfl, hb⟩
     clear p185 p186 p187 p188 p189 p190
     replace V49 := Aside0.mk (V49.out.below hb)
     replace V50 := Aside0.mk (V50.out.below hb)
     replace V93 := Aside0.mk (V93.out.below hb)
     replace V96 := Aside0.mk (V96.out.below hb)
     replace V171 := Aside0.mk (V171.out.below hb)
     replace V172 := Aside0.mk (V172.out.below hb)
     replace G28 := Aside0.mk (G28.out.below hb)
     replace G30 := Aside0.mk (G30.out.below hb)
     replace G47 := Aside0.mk (G47.out.below hb)
     replace G98 := Aside0.mk (G98.out.below hb)
     replace G169 := Aside0.mk (G169.out.below hb)
     replace L := Aside0.mk (L.out.trans (hb.mono L.out.size))
     clear hb hk
     clear hcon V93_ V96_
     go_wp2
     go_ret
     exact ⟨rfl, L.out⟩
    refine two_ (i := 1) (j := 8) (Ni := some 96) (Nj := some 15) #[true, true, true, false, false, false, false, false, false, false, false] #[true, false, true, false, false, false, false, false, true, false, false] rfl rfl rfl rfl (by kernel_rfl) (by decide) (by decide) (fun K hK => ?_) (fun K hK => ?_)
    ·skip
     refine goes_ Tryd.func26 (by kernel_rfl) rfl #[.agg #[.int .i64 s0_0, .slice A0_1 l0_1.length c0_1, .int .i64 s0_2, .int .i64 s0_3, .slice A0_4 l0_4.length c0_4, .int .i64 s0_5]] (by rfl) rfl rfl ma_ ?_
     obtain ⟨k, hk⟩ := KF.out.f0
     with_reducible refine (laws_toExact.calls k s0_0 A0_1 c0_1 l0_1 s0_2 s0_3 A0_4 c0_4 l0_4 s0_5 s0_0 l0_1 s0_2 s0_3 l0_4 s0_5 _ (Kd.C_below HR0_1.out L.out) (HC0_1.out) (Kd.C_below HR0_4.out L.out) (HC0_4.out) hk).mono ?_
     rintro x w1 ⟨v0_, v1_, rfl, hr0_, hr1_, hb⟩
     refine ⟨_, rfl, ?_⟩
     obtain ⟨At0_0, ct0_0, rfl⟩ := Kd.R_slice hr0_
     obtain ⟨At0_1, ct0_1, rfl⟩ := Kd.R_slice hr1_
     have Vt0_0 := Aside0.mk (RO.of (w := w) hr0_ L.out.size)
     have Vt0_1 := Aside0.mk (RO.of (w := w) hr1_ L.out.size)
     replace V49 := Aside0.mk (V49.out.below hb)
     replace V50 := Aside0.mk (V50.out.below hb)
     replace V93 := Aside0.mk (V93.out.below hb)
     replace V96 := Aside0.mk (V96.out.below hb)
     replace G28 := Aside0.mk (G28.out.below hb)
     replace G30 := Aside0.mk (G30.out.below hb)
     replace G47 := Aside0.mk (G47.out.below hb)
     replace G98 := Aside0.mk (G98.out.below hb)
     replace L := Aside0.mk (L.out.trans (hb.mono L.out.size))
     clear hb hk hr0_ hr1_
     refine hK.out _ _ (⟨G28.out.cell 0 _ rfl, G28.out.cell 1 _ rfl, G28.out.cell 2 _ rfl, G28.out.cell 3 _ rfl, G28.out.cell 4 _ rfl, G28.out.cell 5 _ rfl, G30.out.cell 0 _ rfl, G30.out.cell 1 _ rfl, G30.out.cell 2 _ rfl, G30.out.cell 3 _ rfl, G30.out.cell 4 _ rfl, G30.out.cell 5 _ rfl⟩) (fun hHeld => ?_)
     clear hK K
     refine nr_ ?_
     refine two_ (i := 3) (j := 8) (Ni := some 98) (Nj := some 15) #[true, true, true, true, false, false, false, false, false, false, false] #[true, true, true, false, false, false, false, false, true, false, false] rfl rfl rfl rfl (by kernel_rfl) (by decide) (by decide) (fun K hK => ?_) (fun K hK => ?_)
     ·skip
      refine goes_ Tryd.func26 (by kernel_rfl) rfl #[.agg #[.int .i64 s1_0, .slice A1_1 l1_1.length c1_1, .int .i64 s1_2, .int .i64 s1_3, .slice A1_4 l1_4.length c1_4, .int .i64 s1_5]] (by rfl) rfl rfl ma_ ?_
      obtain ⟨k, hk⟩ := KF.out.f1
      with_reducible refine (laws_toExact.calls k s1_0 A1_1 c1_1 l1_1 s1_2 s1_3 A1_4 c1_4 l1_4 s1_5 s1_0 l1_1 s1_2 s1_3 l1_4 s1_5 _ (Kd.C_below HR1_1.out L.out) (HC1_1.out) (Kd.C_below HR1_4.out L.out) (HC1_4.out) hk).mono ?_
      rintro x w1 ⟨v0_, v1_, rfl, hr0_, hr1_, hb⟩
      refine ⟨_, rfl, ?_⟩
      obtain ⟨At1_0, ct1_0, rfl⟩ := Kd.R_slice hr0_
      obtain ⟨At1_1, ct1_1, rfl⟩ := Kd.R_slice hr1_
      have Vt1_0 := Aside0.mk (RO.of (w := w) hr0_ L.out.size)
      have Vt1_1 := Aside0.mk (RO.of (w := w) hr1_ L.out.size)
      replace V49 := Aside0.mk (V49.out.below hb)
      replace V50 := Aside0.mk (V50.out.below hb)
      replace V93 := Aside0.mk (V93.out.below hb)
      replace V96 := Aside0.mk (V96.out.below hb)
      replace G28 := Aside0.mk (G28.out.below hb)
      replace G30 := Aside0.mk (G30.out.below hb)
      replace G47 := Aside0.mk (G47.out.below hb)
      replace G98 := Aside0.mk (G98.out.below hb)
      replace Vt0_0 := Aside0.mk (Vt0_0.out.below hb)
      replace Vt0_1 := Aside0.mk (Vt0_1.out.below hb)
      replace L := Aside0.mk (L.out.trans (hb.mono L.out.size))
      clear hb hk hr0_ hr1_
      refine hK.out _ _ (⟨G28.out.cell 0 _ rfl, G28.out.cell 1 _ rfl, G28.out.cell 2 _ rfl, G28.out.cell 3 _ rfl, G28.out.cell 4 _ rfl, G28.out.cell 5 _ rfl, G30.out.cell 0 _ rfl, G30.out.cell 1 _ rfl, G30.out.cell 2 _ rfl, G30.out.cell 3 _ rfl, G30.out.cell 4 _ rfl, G30.out.cell 5 _ rfl⟩) (fun hHeld => ?_)
      clear hK K
      refine nr_ ?_
      refine two_ (i := 4) (j := 8) (Ni := some 99) (Nj := some 15) #[true, true, true, true, true, false, false, false, false, false, false] #[true, true, true, true, false, false, false, false, true, false, false] rfl rfl rfl rfl (by kernel_rfl) (by decide) (by decide) (fun K hK => ?_) (fun K hK => ?_)
      ·skip
       refine goes_ Tryd.func27 (by kernel_rfl) rfl #[.agg #[.int .i64 s0_0, .slice At0_0 l0_1.length ct0_0, .int .i64 s0_2, .int .i64 s0_3, .slice At0_1 l0_4.length ct0_1, .int .i64 s0_5], .agg #[.int .i64 s1_0, .slice At1_0 l1_1.length ct1_0, .int .i64 s1_2, .int .i64 s1_3, .slice At1_1 l1_4.length ct1_1, .int .i64 s1_5]] (by rfl) rfl rfl ma_ ?_
       with_reducible refine (impl_AddExacts.calls s0_0 At0_0 ct0_0 l0_1 s0_2 s0_3 At0_1 ct0_1 l0_4 s0_5 s1_0 At1_0 ct1_0 l1_1 s1_2 s1_3 At1_1 ct1_1 l1_4 s1_5 r1 r2 r3 r4 r5 r6 r7 _ (Vt0_0.out.c) (Vt0_0.out.le) (Vt0_1.out.c) (Vt0_1.out.le) (Vt1_0.out.c) (Vt1_0.out.le) (Vt1_1.out.c) (Vt1_1.out.le) (HT.out.below L.out) KF.out.f3).mono ?_
       rintro x w1 ⟨v0_, v1_, rfl, hr0_, hr1_, hb⟩
       refine ⟨_, rfl, ?_⟩
       obtain ⟨Au0_0, cu0_0, rfl⟩ := Kd.R_slice hr0_
       obtain ⟨Au0_1, cu0_1, rfl⟩ := Kd.R_slice hr1_
       have Uu0_0 := Aside0.mk (RO.of (w := w) hr0_ L.out.size)
       have Uu0_1 := Aside0.mk (RO.of (w := w) hr1_ L.out.size)
       replace V49 := Aside0.mk (V49.out.below hb)
       replace V50 := Aside0.mk (V50.out.below hb)
       replace V93 := Aside0.mk (V93.out.below hb)
       replace V96 := Aside0.mk (V96.out.below hb)
       replace G28 := Aside0.mk (G28.out.below hb)
       replace G30 := Aside0.mk (G30.out.below hb)
       replace G47 := Aside0.mk (G47.out.below hb)
       replace G98 := Aside0.mk (G98.out.below hb)
       replace Vt0_0 := Aside0.mk (Vt0_0.out.below hb)
       replace Vt0_1 := Aside0.mk (Vt0_1.out.below hb)
       replace Vt1_0 := Aside0.mk (Vt1_0.out.below hb)
       replace Vt1_1 := Aside0.mk (Vt1_1.out.below hb)
       replace L := Aside0.mk (L.out.trans (hb.mono L.out.size))
       clear hb hr0_ hr1_
       refine hK.out _ _ (⟨G28.out.cell 0 _ rfl, G28.out.cell 1 _ rfl, G28.out.cell 2 _ rfl, G28.out.cell 3 _ rfl, G28.out.cell 4 _ rfl, G28.out.cell 5 _ rfl, G30.out.cell 0 _ rfl, G30.out.cell 1 _ rfl, G30.out.cell 2 _ rfl, G30.out.cell 3 _ rfl, G30.out.cell 4 _ rfl, G30.out.cell 5 _ rfl⟩) (fun hHeld => ?_)
       clear hK K
       refine nr_ ?_
       refine pu_ #[true, true, true, true, true, true, false, false, false, false, false] 5 94 (by kernel_rfl) ?_
       refine pu_ #[true, true, true, true, true, true, true, false, false, false, false] 6 100 (by kernel_rfl) ?_
       refine pu_ #[true, true, true, true, true, true, true, true, false, false, false] 7 101 (by kernel_rfl) ?_
       refine one_ (i := 8) (N := some 15) #[true, true, true, true, true, true, true, true, true, false, false] rfl rfl (by kernel_rfl) (by decide) (fun K hK => ?_)
       refine box_step ?hg (N := 15) ?hd (cs := #[.int .i64 0, .slice none 0 0, .int .i64 0, .int .i64 0, .slice none 0 0, .int .i64 0]) (t := 47) ?hr ?_; (case hd => rfl); (case hg => rfl); (case hr => first | (go_simp; done) | (go_simp; rfl))
       intro y0 hg w1 hbox hb
       have By0 := Aside0.mk (show BX w1 y0 #[.int .i64 0, .slice none 0 0, .int .i64 0, .int .i64 0, .slice none 0 0, .int .i64 0] 47 from ⟨hbox⟩)
       have Ey0 := Aside0.mk (show w.heap.size ≤ y0 from by rw [hg]; exact L.out.size)
       have DG28_y0 := Aside0.mk (show g27 ≠ y0 from by rw [hg]; exact Nat.ne_of_lt (blk_lt G28.out.x))
       have DG30_y0 := Aside0.mk (show g29 ≠ y0 from by rw [hg]; exact Nat.ne_of_lt (blk_lt G30.out.x))
       have DG47_y0 := Aside0.mk (show g48 ≠ y0 from by rw [hg]; exact Nat.ne_of_lt (blk_lt G47.out.x))
       have DG98_y0 := Aside0.mk (show g97 ≠ y0 from by rw [hg]; exact Nat.ne_of_lt (blk_lt G98.out.x))
       replace V49 := Aside0.mk (V49.out.below hb)
       replace V50 := Aside0.mk (V50.out.below hb)
       replace V93 := Aside0.mk (V93.out.below hb)
       replace V96 := Aside0.mk (V96.out.below hb)
       replace G28 := Aside0.mk (G28.out.below hb)
       replace G30 := Aside0.mk (G30.out.below hb)
       replace G47 := Aside0.mk (G47.out.below hb)
       replace G98 := Aside0.mk (G98.out.below hb)
       replace Vt0_0 := Aside0.mk (Vt0_0.out.below hb)
       replace Vt0_1 := Aside0.mk (Vt0_1.out.below hb)
       replace Vt1_0 := Aside0.mk (Vt1_0.out.below hb)
       replace Vt1_1 := Aside0.mk (Vt1_1.out.below hb)
       replace Uu0_0 := Aside0.mk (Uu0_0.out.below hb)
       replace Uu0_1 := Aside0.mk (Uu0_1.out.below hb)
       replace L := Aside0.mk (L.out.trans (hb.mono L.out.size))
       clear hb hg hbox
       refine hK.out _ _ (⟨G28.out.cell 0 _ rfl, G28.out.cell 1 _ rfl, G28.out.cell 2 _ rfl, G28.out.cell 3 _ rfl, G28.out.cell 4 _ rfl, G28.out.cell 5 _ rfl, G30.out.cell 0 _ rfl, G30.out.cell 1 _ rfl, G30.out.cell 2 _ rfl, G30.out.cell 3 _ rfl, G30.out.cell 4 _ rfl, G30.out.cell 5 _ rfl⟩) (fun hHeld => ?_)
       clear hK K
       refine nr_ ?_
       exact norm_ (by first | (simp only [putAll, Act.put, List.setIfInBounds_toArray, List.set_cons_zero, List.set_cons_succ]; done) | (simp only [putAll, Act.put, List.setIfInBounds_toArray, List.set_cons_zero, List.set_cons_succ]; rfl)) (hJ ((.slice At0_0 l0_1.length ct0_0), (.slice At0_1 l0_4.length ct0_1), (.slice At1_0 l1_1.length ct1_0), (.slice At1_1 l1_4.length ct1_1), (.slice Au0_0 r2.length cu0_0), (.slice Au0_1 r5.length cu0_1), y0) _ ⟨hHeld, V49.out, V50.out, V93.out, V96.out, G28.out, G30.out, G47.out, G98.out, L.out, Uu0_0.out, Uu0_1.out, By0.out, Ey0.out, DG28_y0.out, DG30_y0.out, DG47_y0.out, DG98_y0.out⟩)
      ·skip
       refine box_step ?hg (N := 15) ?hd (cs := #[.int .i64 0, .slice none 0 0, .int .i64 0, .int .i64 0, .slice none 0 0, .int .i64 0]) (t := 47) ?hr ?_; (case hd => rfl); (case hg => rfl); (case hr => first | (go_simp; done) | (go_simp; rfl))
       intro y0 hg w1 hbox hb
       have By0 := Aside0.mk (show BX w1 y0 #[.int .i64 0, .slice none 0 0, .int .i64 0, .int .i64 0, .slice none 0 0, .int .i64 0] 47 from ⟨hbox⟩)
       have Ey0 := Aside0.mk (show w.heap.size ≤ y0 from by rw [hg]; exact L.out.size)
       have DG28_y0 := Aside0.mk (show g27 ≠ y0 from by rw [hg]; exact Nat.ne_of_lt (blk_lt G28.out.x))
       have DG30_y0 := Aside0.mk (show g29 ≠ y0 from by rw [hg]; exact Nat.ne_of_lt (blk_lt G30.out.x))
       have DG47_y0 := Aside0.mk (show g48 ≠ y0 from by rw [hg]; exact Nat.ne_of_lt (blk_lt G47.out.x))
       have DG98_y0 := Aside0.mk (show g97 ≠ y0 from by rw [hg]; exact Nat.ne_of_lt (blk_lt G98.out.x))
       replace V49 := Aside0.mk (V49.out.below hb)
       replace V50 := Aside0.mk (V50.out.below hb)
       replace V93 := Aside0.mk (V93.out.below hb)
       replace V96 := Aside0.mk (V96.out.below hb)
       replace G28 := Aside0.mk (G28.out.below hb)
       replace G30 := Aside0.mk (G30.out.below hb)
       replace G47 := Aside0.mk (G47.out.below hb)
       replace G98 := Aside0.mk (G98.out.below hb)
       replace Vt0_0 := Aside0.mk (Vt0_0.out.below hb)
       replace Vt0_1 := Aside0.mk (Vt0_1.out.below hb)
       replace Vt1_0 := Aside0.mk (Vt1_0.out.below hb)
       replace Vt1_1 := Aside0.mk (Vt1_1.out.below hb)
       replace L := Aside0.mk (L.out.trans (hb.mono L.out.size))
       clear hb hg hbox
       refine hK.out _ _ (⟨G28.out.cell 0 _ rfl, G28.out.cell 1 _ rfl, G28.out.cell 2 _ rfl, G28.out.cell 3 _ rfl, G28.out.cell 4 _ rfl, G28.out.cell 5 _ rfl, G30.out.cell 0 _ rfl, G30.out.cell 1 _ rfl, G30.out.cell 2 _ rfl, G30.out.cell 3 _ rfl, G30.out.cell 4 _ rfl, G30.out.cell 5 _ rfl⟩) (fun hHeld => ?_)
       clear hK K
       refine nr_ ?_
       refine one_ (i := 4) (N := some 99) #[true, true, true, true, true, false, false, false, true, false, false] rfl rfl (by kernel_rfl) (by decide) (fun K hK => ?_)
       refine goes_ Tryd.func27 (by kernel_rfl) rfl #[.agg #[.int .i64 s0_0, .slice At0_0 l0_1.length ct0_0, .int .i64 s0_2, .int .i64 s0_3, .slice At0_1 l0_4.length ct0_1, .int .i64 s0_5], .agg #[.int .i64 s1_0, .slice At1_0 l1_1.length ct1_0, .int .i64 s1_2, .int .i64 s1_3, .slice At1_1 l1_4.length ct1_1, .int .i64 s1_5]] (by rfl) rfl rfl ma_ ?_
       with_reducible refine (impl_AddExacts.calls s0_0 At0_0 ct0_0 l0_1 s0_2 s0_3 At0_1 ct0_1 l0_4 s0_5 s1_0 At1_0 ct1_0 l1_1 s1_2 s1_3 At1_1 ct1_1 l1_4 s1_5 r1 r2 r3 r4 r5 r6 r7 _ (Vt0_0.out.c) (Vt0_0.out.le) (Vt0_1.out.c) (Vt0_1.out.le) (Vt1_0.out.c) (Vt1_0.out.le) (Vt1_1.out.c) (Vt1_1.out.le) (HT.out.below L.out) KF.out.f3).mono ?_
       rintro x w1 ⟨v0_, v1_, rfl, hr0_, hr1_, hb⟩
       refine ⟨_, rfl, ?_⟩
       obtain ⟨Au0_0, cu0_0, rfl⟩ := Kd.R_slice hr0_
       obtain ⟨Au0_1, cu0_1, rfl⟩ := Kd.R_slice hr1_
       have Uu0_0 := Aside0.mk (RO.of (w := w) hr0_ L.out.size)
       have Uu0_1 := Aside0.mk (RO.of (w := w) hr1_ L.out.size)
       replace V49 := Aside0.mk (V49.out.below hb)
       replace V50 := Aside0.mk (V50.out.below hb)
       replace V93 := Aside0.mk (V93.out.below hb)
       replace V96 := Aside0.mk (V96.out.below hb)
       replace G28 := Aside0.mk (G28.out.below hb)
       replace G30 := Aside0.mk (G30.out.below hb)
       replace G47 := Aside0.mk (G47.out.below hb)
       replace G98 := Aside0.mk (G98.out.below hb)
       replace Vt0_0 := Aside0.mk (Vt0_0.out.below hb)
       replace Vt0_1 := Aside0.mk (Vt0_1.out.below hb)
       replace Vt1_0 := Aside0.mk (Vt1_0.out.below hb)
       replace Vt1_1 := Aside0.mk (Vt1_1.out.below hb)
       replace By0 := Aside0.mk (By0.out.below hb)
       replace L := Aside0.mk (L.out.trans (hb.mono L.out.size))
       clear hb hr0_ hr1_
       refine hK.out _ _ (⟨G28.out.cell 0 _ rfl, G28.out.cell 1 _ rfl, G28.out.cell 2 _ rfl, G28.out.cell 3 _ rfl, G28.out.cell 4 _ rfl, G28.out.cell 5 _ rfl, G30.out.cell 0 _ rfl, G30.out.cell 1 _ rfl, G30.out.cell 2 _ rfl, G30.out.cell 3 _ rfl, G30.out.cell 4 _ rfl, G30.out.cell 5 _ rfl⟩) (fun hHeld => ?_)
       clear hK K
       refine nr_ ?_
       refine pu_ #[true, true, true, true, true, true, false, false, true, false, false] 5 94 (by kernel_rfl) ?_
       refine pu_ #[true, true, true, true, true, true, true, false, true, false, false] 6 100 (by kernel_rfl) ?_
       refine pu_ #[true, true, true, true, true, true, true, true, true, false, false] 7 101 (by kernel_rfl) ?_
       exact norm_ (by first | (simp only [putAll, Act.put, List.setIfInBounds_toArray, List.set_cons_zero, List.set_cons_succ]; done) | (simp only [putAll, Act.put, List.setIfInBounds_toArray, List.set_cons_zero, List.set_cons_succ]; rfl)) (hJ ((.slice At0_0 l0_1.length ct0_0), (.slice At0_1 l0_4.length ct0_1), (.slice At1_0 l1_1.length ct1_0), (.slice At1_1 l1_4.length ct1_1), (.slice Au0_0 r2.length cu0_0), (.slice Au0_1 r5.length cu0_1), y0) _ ⟨hHeld, V49.out, V50.out, V93.out, V96.out, G28.out, G30.out, G47.out, G98.out, L.out, Uu0_0.out, Uu0_1.out, By0.out, Ey0.out, DG28_y0.out, DG30_y0.out, DG47_y0.out, DG98_y0.out⟩)
     ·skip
      refine box_step ?hg (N := 15) ?hd (cs := #[.int .i64 0, .slice none 0 0, .int .i64 0, .int .i64 0, .slice none 0 0, .int .i64 0]) (t := 47) ?hr ?_; (case hd => rfl); (case hg => rfl); (case hr => first | (go_simp; done) | (go_simp; rfl))
      intro y0 hg w1 hbox hb
      have By0 := Aside0.mk (show BX w1 y0 #[.int .i64 0, .slice none 0 0, .int .i64 0, .int .i64 0, .slice none 0 0, .int .i64 0] 47 from ⟨hbox⟩)
      have Ey0 := Aside0.mk (show w.heap.size ≤ y0 from by rw [hg]; exact L.out.size)
      have DG28_y0 := Aside0.mk (show g27 ≠ y0 from by rw [hg]; exact Nat.ne_of_lt (blk_lt G28.out.x))
      have DG30_y0 := Aside0.mk (show g29 ≠ y0 from by rw [hg]; exact Nat.ne_of_lt (blk_lt G30.out.x))
      have DG47_y0 := Aside0.mk (show g48 ≠ y0 from by rw [hg]; exact Nat.ne_of_lt (blk_lt G47.out.x))
      have DG98_y0 := Aside0.mk (show g97 ≠ y0 from by rw [hg]; exact Nat.ne_of_lt (blk_lt G98.out.x))
      replace V49 := Aside0.mk (V49.out.below hb)
      replace V50 := Aside0.mk (V50.out.below hb)
      replace V93 := Aside0.mk (V93.out.below hb)
      replace V96 := Aside0.mk (V96.out.below hb)
      replace G28 := Aside0.mk (G28.out.below hb)
      replace G30 := Aside0.mk (G30.out.below hb)
      replace G47 := Aside0.mk (G47.out.below hb)
      replace G98 := Aside0.mk (G98.out.below hb)
      replace Vt0_0 := Aside0.mk (Vt0_0.out.below hb)
      replace Vt0_1 := Aside0.mk (Vt0_1.out.below hb)
      replace L := Aside0.mk (L.out.trans (hb.mono L.out.size))
      clear hb hg hbox
      refine hK.out _ _ (⟨G28.out.cell 0 _ rfl, G28.out.cell 1 _ rfl, G28.out.cell 2 _ rfl, G28.out.cell 3 _ rfl, G28.out.cell 4 _ rfl, G28.out.cell 5 _ rfl, G30.out.cell 0 _ rfl, G30.out.cell 1 _ rfl, G30.out.cell 2 _ rfl, G30.out.cell 3 _ rfl, G30.out.cell 4 _ rfl, G30.out.cell 5 _ rfl⟩) (fun hHeld => ?_)
      clear hK K
      refine nr_ ?_
      refine one_ (i := 3) (N := some 98) #[true, true, true, true, false, false, false, false, true, false, false] rfl rfl (by kernel_rfl) (by decide) (fun K hK => ?_)
      refine goes_ Tryd.func26 (by kernel_rfl) rfl #[.agg #[.int .i64 s1_0, .slice A1_1 l1_1.length c1_1, .int .i64 s1_2, .int .i64 s1_3, .slice A1_4 l1_4.length c1_4, .int .i64 s1_5]] (by rfl) rfl rfl ma_ ?_
      obtain ⟨k, hk⟩ := KF.out.f1
      with_reducible refine (laws_toExact.calls k s1_0 A1_1 c1_1 l1_1 s1_2 s1_3 A1_4 c1_4 l1_4 s1_5 s1_0 l1_1 s1_2 s1_3 l1_4 s1_5 _ (Kd.C_below HR1_1.out L.out) (HC1_1.out) (Kd.C_below HR1_4.out L.out) (HC1_4.out) hk).mono ?_
      rintro x w1 ⟨v0_, v1_, rfl, hr0_, hr1_, hb⟩
      refine ⟨_, rfl, ?_⟩
      obtain ⟨At1_0, ct1_0, rfl⟩ := Kd.R_slice hr0_
      obtain ⟨At1_1, ct1_1, rfl⟩ := Kd.R_slice hr1_
      have Vt1_0 := Aside0.mk (RO.of (w := w) hr0_ L.out.size)
      have Vt1_1 := Aside0.mk (RO.of (w := w) hr1_ L.out.size)
      replace V49 := Aside0.mk (V49.out.below hb)
      replace V50 := Aside0.mk (V50.out.below hb)
      replace V93 := Aside0.mk (V93.out.below hb)
      replace V96 := Aside0.mk (V96.out.below hb)
      replace G28 := Aside0.mk (G28.out.below hb)
      replace G30 := Aside0.mk (G30.out.below hb)
      replace G47 := Aside0.mk (G47.out.below hb)
      replace G98 := Aside0.mk (G98.out.below hb)
      replace Vt0_0 := Aside0.mk (Vt0_0.out.below hb)
      replace Vt0_1 := Aside0.mk (Vt0_1.out.below hb)
      replace By0 := Aside0.mk (By0.out.below hb)
      replace L := Aside0.mk (L.out.trans (hb.mono L.out.size))
      clear hb hk hr0_ hr1_
      refine hK.out _ _ (⟨G28.out.cell 0 _ rfl, G28.out.cell 1 _ rfl, G28.out.cell 2 _ rfl, G28.out.cell 3 _ rfl, G28.out.cell 4 _ rfl, G28.out.cell 5 _ rfl, G30.out.cell 0 _ rfl, G30.out.cell 1 _ rfl, G30.out.cell 2 _ rfl, G30.out.cell 3 _ rfl, G30.out.cell 4 _ rfl, G30.out.cell 5 _ rfl⟩) (fun hHeld => ?_)
      clear hK K
      refine nr_ ?_
      refine one_ (i := 4) (N := some 99) #[true, true, true, true, true, false, false, false, true, false, false] rfl rfl (by kernel_rfl) (by decide) (fun K hK => ?_)
      refine goes_ Tryd.func27 (by kernel_rfl) rfl #[.agg #[.int .i64 s0_0, .slice At0_0 l0_1.length ct0_0, .int .i64 s0_2, .int .i64 s0_3, .slice At0_1 l0_4.length ct0_1, .int .i64 s0_5], .agg #[.int .i64 s1_0, .slice At1_0 l1_1.length ct1_0, .int .i64 s1_2, .int .i64 s1_3, .slice At1_1 l1_4.length ct1_1, .int .i64 s1_5]] (by rfl) rfl rfl ma_ ?_
      with_reducible refine (impl_AddExacts.calls s0_0 At0_0 ct0_0 l0_1 s0_2 s0_3 At0_1 ct0_1 l0_4 s0_5 s1_0 At1_0 ct1_0 l1_1 s1_2 s1_3 At1_1 ct1_1 l1_4 s1_5 r1 r2 r3 r4 r5 r6 r7 _ (Vt0_0.out.c) (Vt0_0.out.le) (Vt0_1.out.c) (Vt0_1.out.le) (Vt1_0.out.c) (Vt1_0.out.le) (Vt1_1.out.c) (Vt1_1.out.le) (HT.out.below L.out) KF.out.f3).mono ?_
      rintro x w1 ⟨v0_, v1_, rfl, hr0_, hr1_, hb⟩
      refine ⟨_, rfl, ?_⟩
      obtain ⟨Au0_0, cu0_0, rfl⟩ := Kd.R_slice hr0_
      obtain ⟨Au0_1, cu0_1, rfl⟩ := Kd.R_slice hr1_
      have Uu0_0 := Aside0.mk (RO.of (w := w) hr0_ L.out.size)
      have Uu0_1 := Aside0.mk (RO.of (w := w) hr1_ L.out.size)
      replace V49 := Aside0.mk (V49.out.below hb)
      replace V50 := Aside0.mk (V50.out.below hb)
      replace V93 := Aside0.mk (V93.out.below hb)
      replace V96 := Aside0.mk (V96.out.below hb)
      replace G28 := Aside0.mk (G28.out.below hb)
      replace G30 := Aside0.mk (G30.out.below hb)
      replace G47 := Aside0.mk (G47.out.below hb)
      replace G98 := Aside0.mk (G98.out.below hb)
      replace Vt0_0 := Aside0.mk (Vt0_0.out.below hb)
      replace Vt0_1 := Aside0.mk (Vt0_1.out.below hb)
      replace By0 := Aside0.mk (By0.out.below hb)
      replace Vt1_0 := Aside0.mk (Vt1_0.out.below hb)
      replace Vt1_1 := Aside0.mk (Vt1_1.out.below hb)
      replace L := Aside0.mk (L.out.trans (hb.mono L.out.size))
      clear hb hr0_ hr1_
      refine hK.out _ _ (⟨G28.out.cell 0 _ rfl, G28.out.cell 1 _ rfl, G28.out.cell 2 _ rfl, G28.out.cell 3 _ rfl, G28.out.cell 4 _ rfl, G28.out.cell 5 _ rfl, G30.out.cell 0 _ rfl, G30.out.cell 1 _ rfl, G30.out.cell 2 _ rfl, G30.out.cell 3 _ rfl, G30.out.cell 4 _ rfl, G30.out.cell 5 _ rfl⟩) (fun hHeld => ?_)
      clear hK K
      refine nr_ ?_
      refine pu_ #[true, true, true, true, true, true, false, false, true, false, false] 5 94 (by kernel_rfl) ?_
      refine pu_ #[true, true, true, true, true, true, true, false, true, false, false] 6 100 (by kernel_rfl) ?_
      refine pu_ #[true, true, true, true, true, true, true, true, true, false, false] 7 101 (by kernel_rfl) ?_
      exact norm_ (by first | (simp only [putAll, Act.put, List.setIfInBounds_toArray, List.set_cons_zero, List.set_cons_succ]; done) | (simp only [putAll, Act.put, List.setIfInBounds_toArray, List.set_cons_zero, List.set_cons_succ]; rfl)) (hJ ((.slice At0_0 l0_1.length ct0_0), (.slice At0_1 l0_4.length ct0_1), (.slice At1_0 l1_1.length ct1_0), (.slice At1_1 l1_4.length ct1_1), (.slice Au0_0 r2.length cu0_0), (.slice Au0_1 r5.length cu0_1), y0) _ ⟨hHeld, V49.out, V50.out, V93.out, V96.out, G28.out, G30.out, G47.out, G98.out, L.out, Uu0_0.out, Uu0_1.out, By0.out, Ey0.out, DG28_y0.out, DG30_y0.out, DG47_y0.out, DG98_y0.out⟩)
    ·skip
     refine box_step ?hg (N := 15) ?hd (cs := #[.int .i64 0, .slice none 0 0, .int .i64 0, .int .i64 0, .slice none 0 0, .int .i64 0]) (t := 47) ?hr ?_; (case hd => rfl); (case hg => rfl); (case hr => first | (go_simp; done) | (go_simp; rfl))
     intro y0 hg w1 hbox hb
     have By0 := Aside0.mk (show BX w1 y0 #[.int .i64 0, .slice none 0 0, .int .i64 0, .int .i64 0, .slice none 0 0, .int .i64 0] 47 from ⟨hbox⟩)
     have Ey0 := Aside0.mk (show w.heap.size ≤ y0 from by rw [hg]; exact L.out.size)
     have DG28_y0 := Aside0.mk (show g27 ≠ y0 from by rw [hg]; exact Nat.ne_of_lt (blk_lt G28.out.x))
     have DG30_y0 := Aside0.mk (show g29 ≠ y0 from by rw [hg]; exact Nat.ne_of_lt (blk_lt G30.out.x))
     have DG47_y0 := Aside0.mk (show g48 ≠ y0 from by rw [hg]; exact Nat.ne_of_lt (blk_lt G47.out.x))
     have DG98_y0 := Aside0.mk (show g97 ≠ y0 from by rw [hg]; exact Nat.ne_of_lt (blk_lt G98.out.x))
     replace V49 := Aside0.mk (V49.out.below hb)
     replace V50 := Aside0.mk (V50.out.below hb)
     replace V93 := Aside0.mk (V93.out.below hb)
     replace V96 := Aside0.mk (V96.out.below hb)
     replace G28 := Aside0.mk (G28.out.below hb)
     replace G30 := Aside0.mk (G30.out.below hb)
     replace G47 := Aside0.mk (G47.out.below hb)
     replace G98 := Aside0.mk (G98.out.below hb)
     replace L := Aside0.mk (L.out.trans (hb.mono L.out.size))
     clear hb hg hbox
     refine hK.out _ _ (⟨G28.out.cell 0 _ rfl, G28.out.cell 1 _ rfl, G28.out.cell 2 _ rfl, G28.out.cell 3 _ rfl, G28.out.cell 4 _ rfl, G28.out.cell 5 _ rfl, G30.out.cell 0 _ rfl, G30.out.cell 1 _ rfl, G30.out.cell 2 _ rfl, G30.out.cell 3 _ rfl, G30.out.cell 4 _ rfl, G30.out.cell 5 _ rfl⟩) (fun hHeld => ?_)
     clear hK K
     refine nr_ ?_
     refine one_ (i := 1) (N := some 96) #[true, true, true, false, false, false, false, false, true, false, false] rfl rfl (by kernel_rfl) (by decide) (fun K hK => ?_)
     refine goes_ Tryd.func26 (by kernel_rfl) rfl #[.agg #[.int .i64 s0_0, .slice A0_1 l0_1.length c0_1, .int .i64 s0_2, .int .i64 s0_3, .slice A0_4 l0_4.length c0_4, .int .i64 s0_5]] (by rfl) rfl rfl ma_ ?_
     obtain ⟨k, hk⟩ := KF.out.f0
     with_reducible refine (laws_toExact.calls k s0_0 A0_1 c0_1 l0_1 s0_2 s0_3 A0_4 c0_4 l0_4 s0_5 s0_0 l0_1 s0_2 s0_3 l0_4 s0_5 _ (Kd.C_below HR0_1.out L.out) (HC0_1.out) (Kd.C_below HR0_4.out L.out) (HC0_4.out) hk).mono ?_
     rintro x w1 ⟨v0_, v1_, rfl, hr0_, hr1_, hb⟩
     refine ⟨_, rfl, ?_⟩
     obtain ⟨At0_0, ct0_0, rfl⟩ := Kd.R_slice hr0_
     obtain ⟨At0_1, ct0_1, rfl⟩ := Kd.R_slice hr1_
     have Vt0_0 := Aside0.mk (RO.of (w := w) hr0_ L.out.size)
     have Vt0_1 := Aside0.mk (RO.of (w := w) hr1_ L.out.size)
     replace V49 := Aside0.mk (V49.out.below hb)
     replace V50 := Aside0.mk (V50.out.below hb)
     replace V93 := Aside0.mk (V93.out.below hb)
     replace V96 := Aside0.mk (V96.out.below hb)
     replace G28 := Aside0.mk (G28.out.below hb)
     replace G30 := Aside0.mk (G30.out.below hb)
     replace G47 := Aside0.mk (G47.out.below hb)
     replace G98 := Aside0.mk (G98.out.below hb)
     replace By0 := Aside0.mk (By0.out.below hb)
     replace L := Aside0.mk (L.out.trans (hb.mono L.out.size))
     clear hb hk hr0_ hr1_
     refine hK.out _ _ (⟨G28.out.cell 0 _ rfl, G28.out.cell 1 _ rfl, G28.out.cell 2 _ rfl, G28.out.cell 3 _ rfl, G28.out.cell 4 _ rfl, G28.out.cell 5 _ rfl, G30.out.cell 0 _ rfl, G30.out.cell 1 _ rfl, G30.out.cell 2 _ rfl, G30.out.cell 3 _ rfl, G30.out.cell 4 _ rfl, G30.out.cell 5 _ rfl⟩) (fun hHeld => ?_)
     clear hK K
     refine nr_ ?_
     refine one_ (i := 3) (N := some 98) #[true, true, true, true, false, false, false, false, true, false, false] rfl rfl (by kernel_rfl) (by decide) (fun K hK => ?_)
     refine goes_ Tryd.func26 (by kernel_rfl) rfl #[.agg #[.int .i64 s1_0, .slice A1_1 l1_1.length c1_1, .int .i64 s1_2, .int .i64 s1_3, .slice A1_4 l1_4.length c1_4, .int .i64 s1_5]] (by rfl) rfl rfl ma_ ?_
     obtain ⟨k, hk⟩ := KF.out.f1
     with_reducible refine (laws_toExact.calls k s1_0 A1_1 c1_1 l1_1 s1_2 s1_3 A1_4 c1_4 l1_4 s1_5 s1_0 l1_1 s1_2 s1_3 l1_4 s1_5 _ (Kd.C_below HR1_1.out L.out) (HC1_1.out) (Kd.C_below HR1_4.out L.out) (HC1_4.out) hk).mono ?_
     rintro x w1 ⟨v0_, v1_, rfl, hr0_, hr1_, hb⟩
     refine ⟨_, rfl, ?_⟩
     obtain ⟨At1_0, ct1_0, rfl⟩ := Kd.R_slice hr0_
     obtain ⟨At1_1, ct1_1, rfl⟩ := Kd.R_slice hr1_
     have Vt1_0 := Aside0.mk (RO.of (w := w) hr0_ L.out.size)
     have Vt1_1 := Aside0.mk (RO.of (w := w) hr1_ L.out.size)
     replace V49 := Aside0.mk (V49.out.below hb)
     replace V50 := Aside0.mk (V50.out.below hb)
     replace V93 := Aside0.mk (V93.out.below hb)
     replace V96 := Aside0.mk (V96.out.below hb)
     replace G28 := Aside0.mk (G28.out.below hb)
     replace G30 := Aside0.mk (G30.out.below hb)
     replace G47 := Aside0.mk (G47.out.below hb)
     replace G98 := Aside0.mk (G98.out.below hb)
     replace By0 := Aside0.mk (By0.out.below hb)
     replace Vt0_0 := Aside0.mk (Vt0_0.out.below hb)
     replace Vt0_1 := Aside0.mk (Vt0_1.out.below hb)
     replace L := Aside0.mk (L.out.trans (hb.mono L.out.size))
     clear hb hk hr0_ hr1_
     refine hK.out _ _ (⟨G28.out.cell 0 _ rfl, G28.out.cell 1 _ rfl, G28.out.cell 2 _ rfl, G28.out.cell 3 _ rfl, G28.out.cell 4 _ rfl, G28.out.cell 5 _ rfl, G30.out.cell 0 _ rfl, G30.out.cell 1 _ rfl, G30.out.cell 2 _ rfl, G30.out.cell 3 _ rfl, G30.out.cell 4 _ rfl, G30.out.cell 5 _ rfl⟩) (fun hHeld => ?_)
     clear hK K
     refine nr_ ?_
     refine one_ (i := 4) (N := some 99) #[true, true, true, true, true, false, false, false, true, false, false] rfl rfl (by kernel_rfl) (by decide) (fun K hK => ?_)
     refine goes_ Tryd.func27 (by kernel_rfl) rfl #[.agg #[.int .i64 s0_0, .slice At0_0 l0_1.length ct0_0, .int .i64 s0_2, .int .i64 s0_3, .slice At0_1 l0_4.length ct0_1, .int .i64 s0_5], .agg #[.int .i64 s1_0, .slice At1_0 l1_1.length ct1_0, .int .i64 s1_2, .int .i64 s1_3, .slice At1_1 l1_4.length ct1_1, .int .i64 s1_5]] (by rfl) rfl rfl ma_ ?_
     with_reducible refine (impl_AddExacts.calls s0_0 At0_0 ct0_0 l0_1 s0_2 s0_3 At0_1 ct0_1 l0_4 s0_5 s1_0 At1_0 ct1_0 l1_1 s1_2 s1_3 At1_1 ct1_1 l1_4 s1_5 r1 r2 r3 r4 r5 r6 r7 _ (Vt0_0.out.c) (Vt0_0.out.le) (Vt0_1.out.c) (Vt0_1.out.le) (Vt1_0.out.c) (Vt1_0.out.le) (Vt1_1.out.c) (Vt1_1.out.le) (HT.out.below L.out) KF.out.f3).mono ?_
     rintro x w1 ⟨v0_, v1_, rfl, hr0_, hr1_, hb⟩
     refine ⟨_, rfl, ?_⟩
     obtain ⟨Au0_0, cu0_0, rfl⟩ := Kd.R_slice hr0_
     obtain ⟨Au0_1, cu0_1, rfl⟩ := Kd.R_slice hr1_
     have Uu0_0 := Aside0.mk (RO.of (w := w) hr0_ L.out.size)
     have Uu0_1 := Aside0.mk (RO.of (w := w) hr1_ L.out.size)
     replace V49 := Aside0.mk (V49.out.below hb)
     replace V50 := Aside0.mk (V50.out.below hb)
     replace V93 := Aside0.mk (V93.out.below hb)
     replace V96 := Aside0.mk (V96.out.below hb)
     replace G28 := Aside0.mk (G28.out.below hb)
     replace G30 := Aside0.mk (G30.out.below hb)
     replace G47 := Aside0.mk (G47.out.below hb)
     replace G98 := Aside0.mk (G98.out.below hb)
     replace By0 := Aside0.mk (By0.out.below hb)
     replace Vt0_0 := Aside0.mk (Vt0_0.out.below hb)
     replace Vt0_1 := Aside0.mk (Vt0_1.out.below hb)
     replace Vt1_0 := Aside0.mk (Vt1_0.out.below hb)
     replace Vt1_1 := Aside0.mk (Vt1_1.out.below hb)
     replace L := Aside0.mk (L.out.trans (hb.mono L.out.size))
     clear hb hr0_ hr1_
     refine hK.out _ _ (⟨G28.out.cell 0 _ rfl, G28.out.cell 1 _ rfl, G28.out.cell 2 _ rfl, G28.out.cell 3 _ rfl, G28.out.cell 4 _ rfl, G28.out.cell 5 _ rfl, G30.out.cell 0 _ rfl, G30.out.cell 1 _ rfl, G30.out.cell 2 _ rfl, G30.out.cell 3 _ rfl, G30.out.cell 4 _ rfl, G30.out.cell 5 _ rfl⟩) (fun hHeld => ?_)
     clear hK K
     refine nr_ ?_
     refine pu_ #[true, true, true, true, true, true, false, false, true, false, false] 5 94 (by kernel_rfl) ?_
     refine pu_ #[true, true, true, true, true, true, true, false, true, false, false] 6 100 (by kernel_rfl) ?_
     refine pu_ #[true, true, true, true, true, true, true, true, true, false, false] 7 101 (by kernel_rfl) ?_
     exact norm_ (by first | (simp only [putAll, Act.put, List.setIfInBounds_toArray, List.set_cons_zero, List.set_cons_succ]; done) | (simp only [putAll, Act.put, List.setIfInBounds_toArray, List.set_cons_zero, List.set_cons_succ]; rfl)) (hJ ((.slice At0_0 l0_1.length ct0_0), (.slice At0_1 l0_4.length ct0_1), (.slice At1_0 l1_1.length ct1_0), (.slice At1_1 l1_4.length ct1_1), (.slice Au0_0 r2.length cu0_0), (.slice Au0_1 r5.length cu0_1), y0) _ ⟨hHeld, V49.out, V50.out, V93.out, V96.out, G28.out, G30.out, G47.out, G98.out, L.out, Uu0_0.out, Uu0_1.out, By0.out, Ey0.out, DG28_y0.out, DG30_y0.out, DG47_y0.out, DG98_y0.out⟩)
   refine two_ (i := 1) (j := 8) (Ni := some 29) (Nj := some 6) #[true, true, true, false, false, false, false, false, false, false, false] #[true, false, true, false, false, false, false, false, true, false, false] rfl rfl rfl rfl (by kernel_rfl) (by decide) (by decide) (fun K hK => ?_) (fun K hK => ?_)
   ·skip
    refine goes_ Tryd.func26 (by kernel_rfl) rfl #[.agg #[.int .i64 s0_0, .slice A0_1 l0_1.length c0_1, .int .i64 s0_2, .int .i64 s0_3, .slice A0_4 l0_4.length c0_4, .int .i64 s0_5]] (by rfl) rfl rfl ma_ ?_
    obtain ⟨k, hk⟩ := KF.out.f0
    with_reducible refine (laws_toExact.calls k s0_0 A0_1 c0_1 l0_1 s0_2 s0_3 A0_4 c0_4 l0_4 s0_5 s0_0 l0_1 s0_2 s0_3 l0_4 s0_5 _ (Kd.C_below HR0_1.out L.out) (HC0_1.out) (Kd.C_below HR0_4.out L.out) (HC0_4.out) hk).mono ?_
    rintro x w1 ⟨v0_, v1_, rfl, hr0_, hr1_, hb⟩
    refine ⟨_, rfl, ?_⟩
    obtain ⟨At0_0, ct0_0, rfl⟩ := Kd.R_slice hr0_
    obtain ⟨At0_1, ct0_1, rfl⟩ := Kd.R_slice hr1_
    have Vt0_0 := Aside0.mk (RO.of (w := w) hr0_ L.out.size)
    have Vt0_1 := Aside0.mk (RO.of (w := w) hr1_ L.out.size)
    replace G28 := Aside0.mk (G28.out.below hb)
    replace G30 := Aside0.mk (G30.out.below hb)
    replace L := Aside0.mk (L.out.trans (hb.mono L.out.size))
    clear hb hk hr0_ hr1_
    refine hK.out _ _ (⟨G28.out.cell 0 _ rfl, G28.out.cell 1 _ rfl, G28.out.cell 2 _ rfl, G28.out.cell 3 _ rfl, G28.out.cell 4 _ rfl, G28.out.cell 5 _ rfl, G30.out.cell 0 _ rfl, G30.out.cell 1 _ rfl, G30.out.cell 2 _ rfl, G30.out.cell 3 _ rfl, G30.out.cell 4 _ rfl, G30.out.cell 5 _ rfl⟩) (fun hHeld => ?_)
    clear hK K
    refine nr_ ?_
    refine two_ (i := 3) (j := 8) (Ni := some 31) (Nj := some 6) #[true, true, true, true, false, false, false, false, false, false, false] #[true, true, true, false, false, false, false, false, true, false, false] rfl rfl rfl rfl (by kernel_rfl) (by decide) (by decide) (fun K hK => ?_) (fun K hK => ?_)
    ·skip
     refine goes_ Tryd.func26 (by kernel_rfl) rfl #[.agg #[.int .i64 s1_0, .slice A1_1 l1_1.length c1_1, .int .i64 s1_2, .int .i64 s1_3, .slice A1_4 l1_4.length c1_4, .int .i64 s1_5]] (by rfl) rfl rfl ma_ ?_
     obtain ⟨k, hk⟩ := KF.out.f1
     with_reducible refine (laws_toExact.calls k s1_0 A1_1 c1_1 l1_1 s1_2 s1_3 A1_4 c1_4 l1_4 s1_5 s1_0 l1_1 s1_2 s1_3 l1_4 s1_5 _ (Kd.C_below HR1_1.out L.out) (HC1_1.out) (Kd.C_below HR1_4.out L.out) (HC1_4.out) hk).mono ?_
     rintro x w1 ⟨v0_, v1_, rfl, hr0_, hr1_, hb⟩
     refine ⟨_, rfl, ?_⟩
     obtain ⟨At1_0, ct1_0, rfl⟩ := Kd.R_slice hr0_
     obtain ⟨At1_1, ct1_1, rfl⟩ := Kd.R_slice hr1_
     have Vt1_0 := Aside0.mk (RO.of (w := w) hr0_ L.out.size)
     have Vt1_1 := Aside0.mk (RO.of (w := w) hr1_ L.out.size)
     replace G28 := Aside0.mk (G28.out.below hb)
     replace G30 := Aside0.mk (G30.out.below hb)
     replace Vt0_0 := Aside0.mk (Vt0_0.out.below hb)
     replace Vt0_1 := Aside0.mk (Vt0_1.out.below hb)
     replace L := Aside0.mk (L.out.trans (hb.mono L.out.size))
     clear hb hk hr0_ hr1_
     refine hK.out _ _ (⟨G28.out.cell 0 _ rfl, G28.out.cell 1 _ rfl, G28.out.cell 2 _ rfl, G28.out.cell 3 _ rfl, G28.out.cell 4 _ rfl, G28.out.cell 5 _ rfl, G30.out.cell 0 _ rfl, G30.out.cell 1 _ rfl, G30.out.cell 2 _ rfl, G30.out.cell 3 _ rfl, G30.out.cell 4 _ rfl, G30.out.cell 5 _ rfl⟩) (fun hHeld => ?_)
     clear hK K
     refine nr_ ?_
     refine two_ (i := 4) (j := 8) (Ni := some 32) (Nj := some 6) #[true, true, true, true, true, false, false, false, false, false, false] #[true, true, true, true, false, false, false, false, true, false, false] rfl rfl rfl rfl (by kernel_rfl) (by decide) (by decide) (fun K hK => ?_) (fun K hK => ?_)
     ·skip
      refine goes_ Tryd.func25 (by kernel_rfl) rfl #[.agg #[.int .i64 s0_0, .slice At0_0 l0_1.length ct0_0, .int .i64 s0_2, .int .i64 s0_3, .slice At0_1 l0_4.length ct0_1, .int .i64 s0_5], .agg #[.int .i64 s1_0, .slice At1_0 l1_1.length ct1_0, .int .i64 s1_2, .int .i64 s1_3, .slice At1_1 l1_4.length ct1_1, .int .i64 s1_5]] (by rfl) rfl rfl ma_ ?_
      obtain ⟨k, hk⟩ := KF.out.f2
      with_reducible refine (spec_AddExacts.calls k s0_0 At0_0 ct0_0 l0_1 s0_2 s0_3 At0_1 ct0_1 l0_4 s0_5 s1_0 At1_0 ct1_0 l1_1 s1_2 s1_3 At1_1 ct1_1 l1_4 s1_5 r1 r2 r3 r4 r5 r6 r7 _ (Vt0_0.out.c) (Vt0_0.out.le) (Vt0_1.out.c) (Vt0_1.out.le) (Vt1_0.out.c) (Vt1_0.out.le) (Vt1_1.out.c) (Vt1_1.out.le) hk).mono ?_
      rintro x w1 ⟨v0_, v1_, rfl, hr0_, hr1_, hb⟩
      refine ⟨_, rfl, ?_⟩
      obtain ⟨Au0_0, cu0_0, rfl⟩ := Kd.R_slice hr0_
      obtain ⟨Au0_1, cu0_1, rfl⟩ := Kd.R_slice hr1_
      have Uu0_0 := Aside0.mk (RO.of (w := w) hr0_ L.out.size)
      have Uu0_1 := Aside0.mk (RO.of (w := w) hr1_ L.out.size)
      replace G28 := Aside0.mk (G28.out.below hb)
      replace G30 := Aside0.mk (G30.out.below hb)
      replace Vt0_0 := Aside0.mk (Vt0_0.out.below hb)
      replace Vt0_1 := Aside0.mk (Vt0_1.out.below hb)
      replace Vt1_0 := Aside0.mk (Vt1_0.out.below hb)
      replace Vt1_1 := Aside0.mk (Vt1_1.out.below hb)
      replace L := Aside0.mk (L.out.trans (hb.mono L.out.size))
      clear hb hk hr0_ hr1_
      refine hK.out _ _ (⟨G28.out.cell 0 _ rfl, G28.out.cell 1 _ rfl, G28.out.cell 2 _ rfl, G28.out.cell 3 _ rfl, G28.out.cell 4 _ rfl, G28.out.cell 5 _ rfl, G30.out.cell 0 _ rfl, G30.out.cell 1 _ rfl, G30.out.cell 2 _ rfl, G30.out.cell 3 _ rfl, G30.out.cell 4 _ rfl, G30.out.cell 5 _ rfl⟩) (fun hHeld => ?_)
      clear hK K
      refine nr_ ?_
      refine pu_ #[true, true, true, true, true, true, false, false, false, false, false] 5 27 (by kernel_rfl) ?_
      refine pu_ #[true, true, true, true, true, true, true, false, false, false, false] 6 33 (by kernel_rfl) ?_
      refine pu_ #[true, true, true, true, true, true, true, true, false, false, false] 7 34 (by kernel_rfl) ?_
      refine one_ (i := 8) (N := some 6) #[true, true, true, true, true, true, true, true, true, false, false] rfl rfl (by kernel_rfl) (by decide) (fun K hK => ?_)
      refine box_step ?hg (N := 6) ?hd (cs := #[.int .i64 0, .slice none 0 0, .int .i64 0, .int .i64 0, .slice none 0 0, .int .i64 0]) (t := 47) ?hr ?_; (case hd => rfl); (case hg => rfl); (case hr => first | (go_simp; done) | (go_simp; rfl))
      intro y0 hg w1 hbox hb
      have By0 := Aside0.mk (show BX w1 y0 #[.int .i64 0, .slice none 0 0, .int .i64 0, .int .i64 0, .slice none 0 0, .int .i64 0] 47 from ⟨hbox⟩)
      have Ey0 := Aside0.mk (show w.heap.size ≤ y0 from by rw [hg]; exact L.out.size)
      have DG28_y0 := Aside0.mk (show g27 ≠ y0 from by rw [hg]; exact Nat.ne_of_lt (blk_lt G28.out.x))
      have DG30_y0 := Aside0.mk (show g29 ≠ y0 from by rw [hg]; exact Nat.ne_of_lt (blk_lt G30.out.x))
      replace G28 := Aside0.mk (G28.out.below hb)
      replace G30 := Aside0.mk (G30.out.below hb)
      replace Vt0_0 := Aside0.mk (Vt0_0.out.below hb)
      replace Vt0_1 := Aside0.mk (Vt0_1.out.below hb)
      replace Vt1_0 := Aside0.mk (Vt1_0.out.below hb)
      replace Vt1_1 := Aside0.mk (Vt1_1.out.below hb)
      replace Uu0_0 := Aside0.mk (Uu0_0.out.below hb)
      replace Uu0_1 := Aside0.mk (Uu0_1.out.below hb)
      replace L := Aside0.mk (L.out.trans (hb.mono L.out.size))
      clear hb hg hbox
      refine hK.out _ _ (⟨G28.out.cell 0 _ rfl, G28.out.cell 1 _ rfl, G28.out.cell 2 _ rfl, G28.out.cell 3 _ rfl, G28.out.cell 4 _ rfl, G28.out.cell 5 _ rfl, G30.out.cell 0 _ rfl, G30.out.cell 1 _ rfl, G30.out.cell 2 _ rfl, G30.out.cell 3 _ rfl, G30.out.cell 4 _ rfl, G30.out.cell 5 _ rfl⟩) (fun hHeld => ?_)
      clear hK K
      refine nr_ ?_
      exact norm_ (by first | (simp only [putAll, Act.put, List.setIfInBounds_toArray, List.set_cons_zero, List.set_cons_succ]; done) | (simp only [putAll, Act.put, List.setIfInBounds_toArray, List.set_cons_zero, List.set_cons_succ]; rfl)) (hJ ((.slice At0_0 l0_1.length ct0_0), (.slice At0_1 l0_4.length ct0_1), (.slice At1_0 l1_1.length ct1_0), (.slice At1_1 l1_4.length ct1_1), (.slice Au0_0 r2.length cu0_0), (.slice Au0_1 r5.length cu0_1), y0) _ ⟨hHeld, G28.out, G30.out, L.out, Uu0_0.out, Uu0_1.out, By0.out, Ey0.out, DG28_y0.out, DG30_y0.out⟩)
     ·skip
      refine box_step ?hg (N := 6) ?hd (cs := #[.int .i64 0, .slice none 0 0, .int .i64 0, .int .i64 0, .slice none 0 0, .int .i64 0]) (t := 47) ?hr ?_; (case hd => rfl); (case hg => rfl); (case hr => first | (go_simp; done) | (go_simp; rfl))
      intro y0 hg w1 hbox hb
      have By0 := Aside0.mk (show BX w1 y0 #[.int .i64 0, .slice none 0 0, .int .i64 0, .int .i64 0, .slice none 0 0, .int .i64 0] 47 from ⟨hbox⟩)
      have Ey0 := Aside0.mk (show w.heap.size ≤ y0 from by rw [hg]; exact L.out.size)
      have DG28_y0 := Aside0.mk (show g27 ≠ y0 from by rw [hg]; exact Nat.ne_of_lt (blk_lt G28.out.x))
      have DG30_y0 := Aside0.mk (show g29 ≠ y0 from by rw [hg]; exact Nat.ne_of_lt (blk_lt G30.out.x))
      replace G28 := Aside0.mk (G28.out.below hb)
      replace G30 := Aside0.mk (G30.out.below hb)
      replace Vt0_0 := Aside0.mk (Vt0_0.out.below hb)
      replace Vt0_1 := Aside0.mk (Vt0_1.out.below hb)
      replace Vt1_0 := Aside0.mk (Vt1_0.out.below hb)
      replace Vt1_1 := Aside0.mk (Vt1_1.out.below hb)
      replace L := Aside0.mk (L.out.trans (hb.mono L.out.size))
      clear hb hg hbox
      refine hK.out _ _ (⟨G28.out.cell 0 _ rfl, G28.out.cell 1 _ rfl, G28.out.cell 2 _ rfl, G28.out.cell 3 _ rfl, G28.out.cell 4 _ rfl, G28.out.cell 5 _ rfl, G30.out.cell 0 _ rfl, G30.out.cell 1 _ rfl, G30.out.cell 2 _ rfl, G30.out.cell 3 _ rfl, G30.out.cell 4 _ rfl, G30.out.cell 5 _ rfl⟩) (fun hHeld => ?_)
      clear hK K
      refine nr_ ?_
      refine one_ (i := 4) (N := some 32) #[true, true, true, true, true, false, false, false, true, false, false] rfl rfl (by kernel_rfl) (by decide) (fun K hK => ?_)
      refine goes_ Tryd.func25 (by kernel_rfl) rfl #[.agg #[.int .i64 s0_0, .slice At0_0 l0_1.length ct0_0, .int .i64 s0_2, .int .i64 s0_3, .slice At0_1 l0_4.length ct0_1, .int .i64 s0_5], .agg #[.int .i64 s1_0, .slice At1_0 l1_1.length ct1_0, .int .i64 s1_2, .int .i64 s1_3, .slice At1_1 l1_4.length ct1_1, .int .i64 s1_5]] (by rfl) rfl rfl ma_ ?_
      obtain ⟨k, hk⟩ := KF.out.f2
      with_reducible refine (spec_AddExacts.calls k s0_0 At0_0 ct0_0 l0_1 s0_2 s0_3 At0_1 ct0_1 l0_4 s0_5 s1_0 At1_0 ct1_0 l1_1 s1_2 s1_3 At1_1 ct1_1 l1_4 s1_5 r1 r2 r3 r4 r5 r6 r7 _ (Vt0_0.out.c) (Vt0_0.out.le) (Vt0_1.out.c) (Vt0_1.out.le) (Vt1_0.out.c) (Vt1_0.out.le) (Vt1_1.out.c) (Vt1_1.out.le) hk).mono ?_
      rintro x w1 ⟨v0_, v1_, rfl, hr0_, hr1_, hb⟩
      refine ⟨_, rfl, ?_⟩
      obtain ⟨Au0_0, cu0_0, rfl⟩ := Kd.R_slice hr0_
      obtain ⟨Au0_1, cu0_1, rfl⟩ := Kd.R_slice hr1_
      have Uu0_0 := Aside0.mk (RO.of (w := w) hr0_ L.out.size)
      have Uu0_1 := Aside0.mk (RO.of (w := w) hr1_ L.out.size)
      replace G28 := Aside0.mk (G28.out.below hb)
      replace G30 := Aside0.mk (G30.out.below hb)
      replace Vt0_0 := Aside0.mk (Vt0_0.out.below hb)
      replace Vt0_1 := Aside0.mk (Vt0_1.out.below hb)
      replace Vt1_0 := Aside0.mk (Vt1_0.out.below hb)
      replace Vt1_1 := Aside0.mk (Vt1_1.out.below hb)
      replace By0 := Aside0.mk (By0.out.below hb)
      replace L := Aside0.mk (L.out.trans (hb.mono L.out.size))
      clear hb hk hr0_ hr1_
      refine hK.out _ _ (⟨G28.out.cell 0 _ rfl, G28.out.cell 1 _ rfl, G28.out.cell 2 _ rfl, G28.out.cell 3 _ rfl, G28.out.cell 4 _ rfl, G28.out.cell 5 _ rfl, G30.out.cell 0 _ rfl, G30.out.cell 1 _ rfl, G30.out.cell 2 _ rfl, G30.out.cell 3 _ rfl, G30.out.cell 4 _ rfl, G30.out.cell 5 _ rfl⟩) (fun hHeld => ?_)
      clear hK K
      refine nr_ ?_
      refine pu_ #[true, true, true, true, true, true, false, false, true, false, false] 5 27 (by kernel_rfl) ?_
      refine pu_ #[true, true, true, true, true, true, true, false, true, false, false] 6 33 (by kernel_rfl) ?_
      refine pu_ #[true, true, true, true, true, true, true, true, true, false, false] 7 34 (by kernel_rfl) ?_
      exact norm_ (by first | (simp only [putAll, Act.put, List.setIfInBounds_toArray, List.set_cons_zero, List.set_cons_succ]; done) | (simp only [putAll, Act.put, List.setIfInBounds_toArray, List.set_cons_zero, List.set_cons_succ]; rfl)) (hJ ((.slice At0_0 l0_1.length ct0_0), (.slice At0_1 l0_4.length ct0_1), (.slice At1_0 l1_1.length ct1_0), (.slice At1_1 l1_4.length ct1_1), (.slice Au0_0 r2.length cu0_0), (.slice Au0_1 r5.length cu0_1), y0) _ ⟨hHeld, G28.out, G30.out, L.out, Uu0_0.out, Uu0_1.out, By0.out, Ey0.out, DG28_y0.out, DG30_y0.out⟩)
    ·skip
     refine box_step ?hg (N := 6) ?hd (cs := #[.int .i64 0, .slice none 0 0, .int .i64 0, .int .i64 0, .slice none 0 0, .int .i64 0]) (t := 47) ?hr ?_; (case hd => rfl); (case hg => rfl); (case hr => first | (go_simp; done) | (go_simp; rfl))
     intro y0 hg w1 hbox hb
     have By0 := Aside0.mk (show BX w1 y0 #[.int .i64 0, .slice none 0 0, .int .i64 0, .int .i64 0, .slice none 0 0, .int .i64 0] 47 from ⟨hbox⟩)
     have Ey0 := Aside0.mk (show w.heap.size ≤ y0 from by rw [hg]; exact L.out.size)
     have DG28_y0 := Aside0.mk (show g27 ≠ y0 from by rw [hg]; exact Nat.ne_of_lt (blk_lt G28.out.x))
     have DG30_y0 := Aside0.mk (show g29 ≠ y0 from by rw [hg]; exact Nat.ne_of_lt (blk_lt G30.out.x))
     replace G28 := Aside0.mk (G28.out.below hb)
     replace G30 := Aside0.mk (G30.out.below hb)
     replace Vt0_0 := Aside0.mk (Vt0_0.out.below hb)
     replace Vt0_1 := Aside0.mk (Vt0_1.out.below hb)
     replace L := Aside0.mk (L.out.trans (hb.mono L.out.size))
     clear hb hg hbox
     refine hK.out _ _ (⟨G28.out.cell 0 _ rfl, G28.out.cell 1 _ rfl, G28.out.cell 2 _ rfl, G28.out.cell 3 _ rfl, G28.out.cell 4 _ rfl, G28.out.cell 5 _ rfl, G30.out.cell 0 _ rfl, G30.out.cell 1 _ rfl, G30.out.cell 2 _ rfl, G30.out.cell 3 _ rfl, G30.out.cell 4 _ rfl, G30.out.cell 5 _ rfl⟩) (fun hHeld => ?_)
     clear hK K
     refine nr_ ?_
     refine one_ (i := 3) (N := some 31) #[true, true, true, true, false, false, false, false, true, false, false] rfl rfl (by kernel_rfl) (by decide) (fun K hK => ?_)
     refine goes_ Tryd.func26 (by kernel_rfl) rfl #[.agg #[.int .i64 s1_0, .slice A1_1 l1_1.length c1_1, .int .i64 s1_2, .int .i64 s1_3, .slice A1_4 l1_4.length c1_4, .int .i64 s1_5]] (by rfl) rfl rfl ma_ ?_
     obtain ⟨k, hk⟩ := KF.out.f1
     with_reducible refine (laws_toExact.calls k s1_0 A1_1 c1_1 l1_1 s1_2 s1_3 A1_4 c1_4 l1_4 s1_5 s1_0 l1_1 s1_2 s1_3 l1_4 s1_5 _ (Kd.C_below HR1_1.out L.out) (HC1_1.out) (Kd.C_below HR1_4.out L.out) (HC1_4.out) hk).mono ?_
     rintro x w1 ⟨v0_, v1_, rfl, hr0_, hr1_, hb⟩
     refine ⟨_, rfl, ?_⟩
     obtain ⟨At1_0, ct1_0, rfl⟩ := Kd.R_slice hr0_
     obtain ⟨At1_1, ct1_1, rfl⟩ := Kd.R_slice hr1_
     have Vt1_0 := Aside0.mk (RO.of (w := w) hr0_ L.out.size)
     have Vt1_1 := Aside0.mk (RO.of (w := w) hr1_ L.out.size)
     replace G28 := Aside0.mk (G28.out.below hb)
     replace G30 := Aside0.mk (G30.out.below hb)
     replace Vt0_0 := Aside0.mk (Vt0_0.out.below hb)
     replace Vt0_1 := Aside0.mk (Vt0_1.out.below hb)
     replace By0 := Aside0.mk (By0.out.below hb)
     replace L := Aside0.mk (L.out.trans (hb.mono L.out.size))
     clear hb hk hr0_ hr1_
     refine hK.out _ _ (⟨G28.out.cell 0 _ rfl, G28.out.cell 1 _ rfl, G28.out.cell 2 _ rfl, G28.out.cell 3 _ rfl, G28.out.cell 4 _ rfl, G28.out.cell 5 _ rfl, G30.out.cell 0 _ rfl, G30.out.cell 1 _ rfl, G30.out.cell 2 _ rfl, G30.out.cell 3 _ rfl, G30.out.cell 4 _ rfl, G30.out.cell 5 _ rfl⟩) (fun hHeld => ?_)
     clear hK K
     refine nr_ ?_
     refine one_ (i := 4) (N := some 32) #[true, true, true, true, true, false, false, false, true, false, false] rfl rfl (by kernel_rfl) (by decide) (fun K hK => ?_)
     refine goes_ Tryd.func25 (by kernel_rfl) rfl #[.agg #[.int .i64 s0_0, .slice At0_0 l0_1.length ct0_0, .int .i64 s0_2, .int .i64 s0_3, .slice At0_1 l0_4.length ct0_1, .int .i64 s0_5], .agg #[.int .i64 s1_0, .slice At1_0 l1_1.length ct1_0, .int .i64 s1_2, .int .i64 s1_3, .slice At1_1 l1_4.length ct1_1, .int .i64 s1_5]] (by rfl) rfl rfl ma_ ?_
     obtain ⟨k, hk⟩ := KF.out.f2
     with_reducible refine (spec_AddExacts.calls k s0_0 At0_0 ct0_0 l0_1 s0_2 s0_3 At0_1 ct0_1 l0_4 s0_5 s1_0 At1_0 ct1_0 l1_1 s1_2 s1_3 At1_1 ct1_1 l1_4 s1_5 r1 r2 r3 r4 r5 r6 r7 _ (Vt0_0.out.c) (Vt0_0.out.le) (Vt0_1.out.c) (Vt0_1.out.le) (Vt1_0.out.c) (Vt1_0.out.le) (Vt1_1.out.c) (Vt1_1.out.le) hk).mono ?_
     rintro x w1 ⟨v0_, v1_, rfl, hr0_, hr1_, hb⟩
     refine ⟨_, rfl, ?_⟩
     obtain ⟨Au0_0, cu0_0, rfl⟩ := Kd.R_slice hr0_
     obtain ⟨Au0_1, cu0_1, rfl⟩ := Kd.R_slice hr1_
     have Uu0_0 := Aside0.mk (RO.of (w := w) hr0_ L.out.size)
     have Uu0_1 := Aside0.mk (RO.of (w := w) hr1_ L.out.size)
     replace G28 := Aside0.mk (G28.out.below hb)
     replace G30 := Aside0.mk (G30.out.below hb)
     replace Vt0_0 := Aside0.mk (Vt0_0.out.below hb)
     replace Vt0_1 := Aside0.mk (Vt0_1.out.below hb)
     replace By0 := Aside0.mk (By0.out.below hb)
     replace Vt1_0 := Aside0.mk (Vt1_0.out.below hb)
     replace Vt1_1 := Aside0.mk (Vt1_1.out.below hb)
     replace L := Aside0.mk (L.out.trans (hb.mono L.out.size))
     clear hb hk hr0_ hr1_
     refine hK.out _ _ (⟨G28.out.cell 0 _ rfl, G28.out.cell 1 _ rfl, G28.out.cell 2 _ rfl, G28.out.cell 3 _ rfl, G28.out.cell 4 _ rfl, G28.out.cell 5 _ rfl, G30.out.cell 0 _ rfl, G30.out.cell 1 _ rfl, G30.out.cell 2 _ rfl, G30.out.cell 3 _ rfl, G30.out.cell 4 _ rfl, G30.out.cell 5 _ rfl⟩) (fun hHeld => ?_)
     clear hK K
     refine nr_ ?_
     refine pu_ #[true, true, true, true, true, true, false, false, true, false, false] 5 27 (by kernel_rfl) ?_
     refine pu_ #[true, true, true, true, true, true, true, false, true, false, false] 6 33 (by kernel_rfl) ?_
     refine pu_ #[true, true, true, true, true, true, true, true, true, false, false] 7 34 (by kernel_rfl) ?_
     exact norm_ (by first | (simp only [putAll, Act.put, List.setIfInBounds_toArray, List.set_cons_zero, List.set_cons_succ]; done) | (simp only [putAll, Act.put, List.setIfInBounds_toArray, List.set_cons_zero, List.set_cons_succ]; rfl)) (hJ ((.slice At0_0 l0_1.length ct0_0), (.slice At0_1 l0_4.length ct0_1), (.slice At1_0 l1_1.length ct1_0), (.slice At1_1 l1_4.length ct1_1), (.slice Au0_0 r2.length cu0_0), (.slice Au0_1 r5.length cu0_1), y0) _ ⟨hHeld, G28.out, G30.out, L.out, Uu0_0.out, Uu0_1.out, By0.out, Ey0.out, DG28_y0.out, DG30_y0.out⟩)
   ·skip
    refine box_step ?hg (N := 6) ?hd (cs := #[.int .i64 0, .slice none 0 0, .int .i64 0, .int .i64 0, .slice none 0 0, .int .i64 0]) (t := 47) ?hr ?_; (case hd => rfl); (case hg => rfl); (case hr => first | (go_simp; done) | (go_simp; rfl))
    intro y0 hg w1 hbox hb
    have By0 := Aside0.mk (show BX w1 y0 #[.int .i64 0, .slice none 0 0, .int .i64 0, .int .i64 0, .slice none 0 0, .int .i64 0] 47 from ⟨hbox⟩)
    have Ey0 := Aside0.mk (show w.heap.size ≤ y0 from by rw [hg]; exact L.out.size)
    have DG28_y0 := Aside0.mk (show g27 ≠ y0 from by rw [hg]; exact Nat.ne_of_lt (blk_lt G28.out.x))
    have DG30_y0 := Aside0.mk (show g29 ≠ y0 from by rw [hg]; exact Nat.ne_of_lt (blk_lt G30.out.x))
    replace G28 := Aside0.mk (G28.out.below hb)
    replace G30 := Aside0.mk (G30.out.below hb)
    replace L := Aside0.mk (L.out.trans (hb.mono L.out.size))
    clear hb hg hbox
    refine hK.out _ _ (⟨G28.out.cell 0 _ rfl, G28.out.cell 1 _ rfl, G28.out.cell 2 _ rfl, G28.out.cell 3 _ rfl, G28.out.cell 4 _ rfl, G28.out.cell 5 _ rfl, G30.out.cell 0 _ rfl, G30.out.cell 1 _ rfl, G30.out.cell 2 _ rfl, G30.out.cell 3 _ rfl, G30.out.cell 4 _ rfl, G30.out.cell 5 _ rfl⟩) (fun hHeld => ?_)
    clear hK K
    refine nr_ ?_
    refine one_ (i := 1) (N := some 29) #[true, true, true, false, false, false, false, false, true, false, false] rfl rfl (by kernel_rfl) (by decide) (fun K hK => ?_)
    refine goes_ Tryd.func26 (by kernel_rfl) rfl #[.agg #[.int .i64 s0_0, .slice A0_1 l0_1.length c0_1, .int .i64 s0_2, .int .i64 s0_3, .slice A0_4 l0_4.length c0_4, .int .i64 s0_5]] (by rfl) rfl rfl ma_ ?_
    obtain ⟨k, hk⟩ := KF.out.f0
    with_reducible refine (laws_toExact.calls k s0_0 A0_1 c0_1 l0_1 s0_2 s0_3 A0_4 c0_4 l0_4 s0_5 s0_0 l0_1 s0_2 s0_3 l0_4 s0_5 _ (Kd.C_below HR0_1.out L.out) (HC0_1.out) (Kd.C_below HR0_4.out L.out) (HC0_4.out) hk).mono ?_
    rintro x w1 ⟨v0_, v1_, rfl, hr0_, hr1_, hb⟩
    refine ⟨_, rfl, ?_⟩
    obtain ⟨At0_0, ct0_0, rfl⟩ := Kd.R_slice hr0_
    obtain ⟨At0_1, ct0_1, rfl⟩ := Kd.R_slice hr1_
    have Vt0_0 := Aside0.mk (RO.of (w := w) hr0_ L.out.size)
    have Vt0_1 := Aside0.mk (RO.of (w := w) hr1_ L.out.size)
    replace G28 := Aside0.mk (G28.out.below hb)
    replace G30 := Aside0.mk (G30.out.below hb)
    replace By0 := Aside0.mk (By0.out.below hb)
    replace L := Aside0.mk (L.out.trans (hb.mono L.out.size))
    clear hb hk hr0_ hr1_
    refine hK.out _ _ (⟨G28.out.cell 0 _ rfl, G28.out.cell 1 _ rfl, G28.out.cell 2 _ rfl, G28.out.cell 3 _ rfl, G28.out.cell 4 _ rfl, G28.out.cell 5 _ rfl, G30.out.cell 0 _ rfl, G30.out.cell 1 _ rfl, G30.out.cell 2 _ rfl, G30.out.cell 3 _ rfl, G30.out.cell 4 _ rfl, G30.out.cell 5 _ rfl⟩) (fun hHeld => ?_)
    clear hK K
    refine nr_ ?_
    refine one_ (i := 3) (N := some 31) #[true, true, true, true, false, false, false, false, true, false, false] rfl rfl (by kernel_rfl) (by decide) (fun K hK => ?_)
    refine goes_ Tryd.func26 (by kernel_rfl) rfl #[.agg #[.int .i64 s1_0, .slice A1_1 l1_1.length c1_1, .int .i64 s1_2, .int .i64 s1_3, .slice A1_4 l1_4.length c1_4, .int .i64 s1_5]] (by rfl) rfl rfl ma_ ?_
    obtain ⟨k, hk⟩ := KF.out.f1
    with_reducible refine (laws_toExact.calls k s1_0 A1_1 c1_1 l1_1 s1_2 s1_3 A1_4 c1_4 l1_4 s1_5 s1_0 l1_1 s1_2 s1_3 l1_4 s1_5 _ (Kd.C_below HR1_1.out L.out) (HC1_1.out) (Kd.C_below HR1_4.out L.out) (HC1_4.out) hk).mono ?_
    rintro x w1 ⟨v0_, v1_, rfl, hr0_, hr1_, hb⟩
    refine ⟨_, rfl, ?_⟩
    obtain ⟨At1_0, ct1_0, rfl⟩ := Kd.R_slice hr0_
    obtain ⟨At1_1, ct1_1, rfl⟩ := Kd.R_slice hr1_
    have Vt1_0 := Aside0.mk (RO.of (w := w) hr0_ L.out.size)
    have Vt1_1 := Aside0.mk (RO.of (w := w) hr1_ L.out.size)
    replace G28 := Aside0.mk (G28.out.below hb)
    replace G30 := Aside0.mk (G30.out.below hb)
    replace By0 := Aside0.mk (By0.out.below hb)
    replace Vt0_0 := Aside0.mk (Vt0_0.out.below hb)
    replace Vt0_1 := Aside0.mk (Vt0_1.out.below hb)
    replace L := Aside0.mk (L.out.trans (hb.mono L.out.size))
    clear hb hk hr0_ hr1_
    refine hK.out _ _ (⟨G28.out.cell 0 _ rfl, G28.out.cell 1 _ rfl, G28.out.cell 2 _ rfl, G28.out.cell 3 _ rfl, G28.out.cell 4 _ rfl, G28.out.cell 5 _ rfl, G30.out.cell 0 _ rfl, G30.out.cell 1 _ rfl, G30.out.cell 2 _ rfl, G30.out.cell 3 _ rfl, G30.out.cell 4 _ rfl, G30.out.cell 5 _ rfl⟩) (fun hHeld => ?_)
    clear hK K
    refine nr_ ?_
    refine one_ (i := 4) (N := some 32) #[true, true, true, true, true, false, false, false, true, false, false] rfl rfl (by kernel_rfl) (by decide) (fun K hK => ?_)
    refine goes_ Tryd.func25 (by kernel_rfl) rfl #[.agg #[.int .i64 s0_0, .slice At0_0 l0_1.length ct0_0, .int .i64 s0_2, .int .i64 s0_3, .slice At0_1 l0_4.length ct0_1, .int .i64 s0_5], .agg #[.int .i64 s1_0, .slice At1_0 l1_1.length ct1_0, .int .i64 s1_2, .int .i64 s1_3, .slice At1_1 l1_4.length ct1_1, .int .i64 s1_5]] (by rfl) rfl rfl ma_ ?_
    obtain ⟨k, hk⟩ := KF.out.f2
    with_reducible refine (spec_AddExacts.calls k s0_0 At0_0 ct0_0 l0_1 s0_2 s0_3 At0_1 ct0_1 l0_4 s0_5 s1_0 At1_0 ct1_0 l1_1 s1_2 s1_3 At1_1 ct1_1 l1_4 s1_5 r1 r2 r3 r4 r5 r6 r7 _ (Vt0_0.out.c) (Vt0_0.out.le) (Vt0_1.out.c) (Vt0_1.out.le) (Vt1_0.out.c) (Vt1_0.out.le) (Vt1_1.out.c) (Vt1_1.out.le) hk).mono ?_
    rintro x w1 ⟨v0_, v1_, rfl, hr0_, hr1_, hb⟩
    refine ⟨_, rfl, ?_⟩
    obtain ⟨Au0_0, cu0_0, rfl⟩ := Kd.R_slice hr0_
    obtain ⟨Au0_1, cu0_1, rfl⟩ := Kd.R_slice hr1_
    have Uu0_0 := Aside0.mk (RO.of (w := w) hr0_ L.out.size)
    have Uu0_1 := Aside0.mk (RO.of (w := w) hr1_ L.out.size)
    replace G28 := Aside0.mk (G28.out.below hb)
    replace G30 := Aside0.mk (G30.out.below hb)
    replace By0 := Aside0.mk (By0.out.below hb)
    replace Vt0_0 := Aside0.mk (Vt0_0.out.below hb)
    replace Vt0_1 := Aside0.mk (Vt0_1.out.below hb)
    replace Vt1_0 := Aside0.mk (Vt1_0.out.below hb)
    replace Vt1_1 := Aside0.mk (Vt1_1.out.below hb)
    replace L := Aside0.mk (L.out.trans (hb.mono L.out.size))
    clear hb hk hr0_ hr1_
    refine hK.out _ _ (⟨G28.out.cell 0 _ rfl, G28.out.cell 1 _ rfl, G28.out.cell 2 _ rfl, G28.out.cell 3 _ rfl, G28.out.cell 4 _ rfl, G28.out.cell 5 _ rfl, G30.out.cell 0 _ rfl, G30.out.cell 1 _ rfl, G30.out.cell 2 _ rfl, G30.out.cell 3 _ rfl, G30.out.cell 4 _ rfl, G30.out.cell 5 _ rfl⟩) (fun hHeld => ?_)
    clear hK K
    refine nr_ ?_
    refine pu_ #[true, true, true, true, true, true, false, false, true, false, false] 5 27 (by kernel_rfl) ?_
    refine pu_ #[true, true, true, true, true, true, true, false, true, false, false] 6 33 (by kernel_rfl) ?_
    refine pu_ #[true, true, true, true, true, true, true, true, true, false, false] 7 34 (by kernel_rfl) ?_
    exact norm_ (by first | (simp only [putAll, Act.put, List.setIfInBounds_toArray, List.set_cons_zero, List.set_cons_succ]; done) | (simp only [putAll, Act.put, List.setIfInBounds_toArray, List.set_cons_zero, List.set_cons_succ]; rfl)) (hJ ((.slice At0_0 l0_1.length ct0_0), (.slice At0_1 l0_4.length ct0_1), (.slice At1_0 l1_1.length ct1_0), (.slice At1_1 l1_4.length ct1_1), (.slice Au0_0 r2.length cu0_0), (.slice Au0_1 r5.length cu0_1), y0) _ ⟨hHeld, G28.out, G30.out, L.out, Uu0_0.out, Uu0_1.out, By0.out, Ey0.out, DG28_y0.out, DG30_y0.out⟩)
end Go.Proofs.YtghhphndbbefjaaDoor
