/- A float32 made a float64; DyadicOfNarrow of both sides walked. -/
import Derived.Test.YtdbdhgimokaooaaDoorG32
import Derived.Laws.FloatArith
import Derived.Test.YtdbdhgimokaooaaDoorG9
import Derived.Test.YtdbdhgimokaooaaDoorG27
import Derived.BigRegion
import Derived.Test.YtdbdhgimokaooaaDoorPurC
namespace Go.Proofs.YtdbdhgimokaooaaDoor
open Go Ieee Go.RowKit Go.Proofs.YtdbdhgimokaooaaDoor.Fl Go.Proofs.YtdbdhgimokaooaaDoor.Fx Go.Proofs.YtdbdhgimokaooaaDoor.X Go.Proofs.YtdbdhgimokaooaaDoor.Pur Go.Proofs.YtdbdhgimokaooaaDoorW.PrintWords Go.Proofs.YtdbdhgimokaooaaDoorW.PrintLast Go.Proofs.YtdbdhgimokaooaaDoorW.PrintMore Go.Proofs.YtdbdhgimokaooaaDoor.Math Go.Proofs.YtdbdhgimokaooaaDoor.Big
set_option linter.unusedVariables false
set_option linter.unusedSimpArgs false
theorem s_sw : single.signWeight = 2147483648 := by decide
theorem s_bn : single.binade = 8388608 := by decide
theorem s_ir : single.infRung = 2139095040 := by decide
theorem s_lp : single.leastPlace = -149 := by decide
theorem single_read {b : Nat} {s : Bool} {m : Nat} {p : Int} (h : single.read b = .number s m p) : m < 2 ^ 24 ∧ -149 ≤ p ∧ p ≤ 104 := by
 have e4 : (2 : Nat) ^ 24 = 16777216 := by decide
 unfold Format.read at h
 simp only [s_sw, s_bn, s_ir, s_lp] at h
 rw [e4]
 generalize b % 2147483648 = r at h
 split at h
 ·injection h with _ h1 h2
  omega
 ·split at h
  ·injection h with _ h1 h2
   omega
  ·split at h <;> cases h
def cvo (x : Nat) : Option Nat := floatToFloatBits .f32 x .f64
theorem wide_fits {x : Nat} {s : Bool} {m : Nat} {p : Int} (h : single.read x = .number s m p) : (double.read (double.write (.number s m p))).isInfinity = false := by
 obtain ⟨h1, h2, h3⟩ := single_read h
 show (double.read (double.nearest s m p)).isInfinity = false
 by_cases hm : m = 0
 ·subst hm
  have : double.nearest s 0 p = double.word s 0 := by unfold Format.nearest; rw [if_pos rfl]
  rw [this, read_low s (by omega)]
  rfl
 ·have hl : m.log2 < 24 := (Nat.log2_lt hm).2 h1
  rw [(read_nearest s hm (Nat.lt_trans h1 (by decide)) (by omega) (by omega)).1]
  rfl
theorem cvo_none {x : Nat} (h : cvo x = none) : ∃ s f, single.read x = .nan s f := by
 unfold cvo floatToFloatBits at h
 rw [if_neg (by decide)] at h
 split at h
 ·rename_i s f e
  exact ⟨s, f, e⟩
 ·cases h
 ·rename_i s m p e
  rw [if_neg (by rw [show (FloatKind.f64.decode (FloatKind.f64.encode (.number s m p))).isInfinity = false from wide_fits e]; decide)] at h
  cases h
theorem cvo_lt {x r : Nat} (h : cvo x = some r) : r < 2 ^ 64 := by
 unfold cvo floatToFloatBits at h
 rw [if_neg (by decide)] at h
 split at h
 ·cases h
 ·cases h
  exact double.write_lt _
 ·split at h
  ·cases h
  ·cases h
   exact double.write_lt _
def nanc (x : Nat) (w : World) : Nat := (Question.nanConv .f64 x).cut (w.tape w.drawn (Question.nanConv .f64 x))
def cvb (x : Nat) (w : World) : Nat := (cvo x).getD (nanc x w)
def cvn (x : Nat) : Nat := if (cvo x).isSome then 0 else 1
theorem nanc_spec (x : Nat) (w : World) : nanc x w < 2 ^ 64 ∧ isFin (nanc x w) = false := by
 have key : ∃ a b, nanc x w = a * 9223372036854775808 + 9218868437227405312 + 1 + b ∧ a < 2 ∧ b < 4503599627370495 :=
  ⟨w.tape w.drawn (Question.nanConv .f64 x) % 2, w.tape w.drawn (Question.nanConv .f64 x) / 2 % (2 ^ 52 - 1), rfl, Nat.mod_lt _ (by omega), Nat.mod_lt _ (by decide)⟩
 obtain ⟨a, b, e, ha, hb⟩ := key
 rw [e]
 refine ⟨by omega, ?_⟩
 rw [Bool.eq_false_iff]
 intro h
 have := (isFin_iff _).1 h
 omega
theorem run_cv (x : Nat) (w : World) : (convert 48 44 (.float .f32 x)).run Tryd.prog w = .ok (.float .f64 (cvb x w)) (w.drewN (cvn x)) := by
 unfold cvb cvn
 cases h : cvo x with
 | some r =>
  simp only [Option.getD_some, Option.isSome_some, if_true]
  exact run_convert_float_float w 48 44 .f32 .f64 x r (by rw [Tryd.underlying48]; rfl) Tryd.underlying44 h
 | none =>
  obtain ⟨s, f, e⟩ := cvo_none h
  have e' : FloatKind.f32.decode x = .nan s f := e
  simp only [Option.getD_none, Option.isSome_none]
  simp [convert, run_underlying Tryd.underlying48, run_underlying Tryd.underlying44, Conv.floatToFloat, e', Question.forced, nanc]
  rfl
def dyN (x : Nat) : Int × List Int × Int × Int := match cvo x with | some r => dyO r | none => (0, [], 0, 1)
theorem cvb_lt (x : Nat) (w : World) : cvb x w < 2 ^ 64 := by
 unfold cvb
 cases h : cvo x with
 | some r => exact cvo_lt h
 | none => exact (nanc_spec x w).1
theorem dyN_eq (x : Nat) (w : World) : dyO (cvb x w) = dyN x := by
 unfold cvb dyN
 cases h : cvo x with
 | some r => rfl
 | none =>
  show dyO (nanc x w) = _
  unfold dyO
  rw [(nanc_spec x w).2]
  rfl
def impl_DyadicOfNarrow.f (a0 : Nat) : Option (Int × List Int × Int × Int) := if a0 < 4294967296 then some (dyN a0) else none
def spec_DyadicOfNarrow.f (k : Nat) (a0 : Nat) : Option (Int × List Int × Int × Int) := if a0 < 4294967296 then some (dyN a0) else none
set_option maxRecDepth 100000 in
theorem impl_DyadicOfNarrow.calls (a0 : Nat) (r1 : Int) (r2 : List Int) (r3 r4 : Int) (w : World) (hT : Tab w) (h : impl_DyadicOfNarrow.f a0 = some (r1, r2, r3, r4)) :
  Calls Tryd.prog 28 #[.float .f32 a0] w fun e w' => ∃ v1_ : Value, e = .returned (.tuple #[.agg #[.int .i64 r1, v1_, .int .i64 r3], .int .i64 r4]) ∧ Kd.R (Kd.int .i64) 2 w' w.heap.size (fun _ => True) v1_ r2 ∧ Below w.heap.size w w' := by
 unfold impl_DyadicOfNarrow.f at h
 split at h
 case isFalse => cases h
 rename_i hl
 injection h with h
 have R0 := Aside0.mk (ResD.next (Below.refl w.heap.size w))
 have HT := Aside0.mk hT
 have HN := Aside0.mk h
 clear hT h
 have hc := run_cv a0
 go_enter Tryd.func28, Tryd.ntmps28
 go_wp2_with (simp only [hc])
 have R1 := Aside0.mk (R0.out.below (pw_below_drewN (Below.refl _ _) (cvn a0)))
 refine (impl_DyadicOf.calls _ r1 r2 r3 r4 _ (HT.out.below R1.out.lo) (by unfold impl_DyadicOf.f; rw [if_pos (cvb_lt _ _), dyN_eq, HN.out])).mono ?_
 rintro e w2 ⟨v1, rfl, hr, hb⟩
 have R2 := Aside0.mk (R1.out.below hb)
 obtain ⟨A1, c1, rfl⟩ := Kd.R_slice hr
 have V1 := Aside0.mk (RO.of (w := w) hr R1.out.lo.size)
 obtain ⟨q0, q1, q2, q3, q4, q5⟩ := R2.out.cells
 clear hb hr
 go_wp2_with fail
 refine bodyPost_ret (results_ct rfl _ _ w.heap.size 28 #[.int .i64 r1, .slice A1 r2.length c1, .int .i64 r3] (0, 0) _ rfl (R2.out.put _ _ _) Tryd.underlying28 rfl (by kernel_rfl)) rfl ?_
 exact ⟨_, rfl, V1.out.fin R2.out.box (by decide) _ _ _, R2.out.low _ _ _⟩
set_option maxRecDepth 100000 in
theorem spec_DyadicOfNarrow.calls (k : Nat) (a0 : Nat) (r1 : Int) (r2 : List Int) (r3 r4 : Int) (w : World) (h : spec_DyadicOfNarrow.f k a0 = some (r1, r2, r3, r4)) :
  Calls Tryd.prog 27 #[.float .f32 a0] w fun e w' => ∃ v1_ : Value, e = .returned (.tuple #[.agg #[.int .i64 r1, v1_, .int .i64 r3], .int .i64 r4]) ∧ Kd.R (Kd.int .i64) 2 w' w.heap.size (fun _ => True) v1_ r2 ∧ Below w.heap.size w w' := by
 unfold spec_DyadicOfNarrow.f at h
 split at h
 case isFalse => cases h
 rename_i hl
 injection h with h
 have R0 := Aside0.mk (ResD.next (Below.refl w.heap.size w))
 have HN := Aside0.mk h
 clear h
 have hc := run_cv a0
 go_enter Tryd.func27, Tryd.ntmps27
 go_wp2_with (simp only [hc])
 have R1 := Aside0.mk (R0.out.below (pw_below_drewN (Below.refl _ _) (cvn a0)))
 refine (spec_DyadicOf.calls 0 _ r1 r2 r3 r4 _ (by unfold spec_DyadicOf.f; rw [if_pos (cvb_lt _ _), dyN_eq, HN.out])).mono ?_
 rintro e w2 ⟨v1, rfl, hr, hb⟩
 have R2 := Aside0.mk (R1.out.below hb)
 obtain ⟨A1, c1, rfl⟩ := Kd.R_slice hr
 have V1 := Aside0.mk (RO.of (w := w) hr R1.out.lo.size)
 clear hb hr
 go_upto_region 2 with fail
 obtain ⟨w3, g, e1, e2, hB, hb⟩ := new_box _ #[.int .i64 r1, .slice A1 r2.length c1, .int .i64 r3] 28
 rw [← e1]; try rw [← e2]
 have G := Aside0.mk hB
 have R3 := Aside0.mk (R2.out.below hb)
 replace V1 := Aside0.mk (V1.out.below hb)
 clear hB hb e1 e2
 obtain ⟨q0, q1, q2, q3, q4, q5⟩ := R3.out.cells
 have p0 := G.out.cell 0 _ rfl
 have p1 := G.out.cell 1 _ rfl
 have p2 := G.out.cell 2 _ rfl
 go_wp2_with fail
 refine bodyPost_ret (results_ct rfl _ _ w.heap.size 28 #[.int .i64 r1, .slice A1 r2.length c1, .int .i64 r3] (0, 0) _ rfl (R3.out.put _ _ _) Tryd.underlying28 rfl (by kernel_rfl)) rfl ?_
 exact ⟨_, rfl, V1.out.fin R3.out.box (by decide) _ _ _, R3.out.low _ _ _⟩
end Go.Proofs.YtdbdhgimokaooaaDoor
namespace Go.Proofs.YtdbdhgimokaooaaDoor
open Go.RowKit Go.Proofs.YtdbdhgimokaooaaDoorW.PrintWords Go.Proofs.YtdbdhgimokaooaaDoorW.PrintLast Go.Proofs.YtdbdhgimokaooaaDoorW.PrintMore Go.Proofs.YtdbdhgimokaooaaDoor.Math Go.Proofs.YtdbdhgimokaooaaDoor.Big Go.Proofs.YtdbdhgimokaooaaDoor.X Go.Proofs.YtdbdhgimokaooaaDoor.Sq
set_option linter.unusedVariables false
set_option linter.unusedSimpArgs false
structure KnownDyadicOfNarrow (a0 : Nat) (r1 : Int) (r2 : List Int) (r3 : Int) (r4 : Int) (n1 : Int) (m20 : List Int) : Prop where
 f0 : ∃ k, spec_DyadicOfNarrow.f k a0 = some (r1, r2, r3, r4)
 f1 : impl_DyadicOfNarrow.f a0 = some (r1, r2, r3, r4)
 f2 : ∃ k, laws_eqDyadic.f k r1 r2 r3 r1 r2 r3 = some true
 f3 : ∃ k, laws_markDyadic.f k r1 r2 r3 1 = some (n1, m20)
 f4 : 0 ≤ n1
 f5 : m20.length = r2.length
 f6 : ∃ k, laws_heldDyadic.f k r1 m20 r3 1 = some n1
set_option maxRecDepth 100000 in
set_option maxHeartbeats 8000000 in
theorem walk_DyadicOfNarrow (a0 : Nat) (r1 : Int) (r2 : List Int) (r3 : Int) (r4 : Int) (n1 : Int) (m20 : List Int)  (w : World)  (hT : Tab w)  (hk : KnownDyadicOfNarrow a0 r1 r2 r3 r4 n1 m20) :
  Calls Tryd.prog 7 #[.float .f32 a0] w fun x w' => x = .returned (.bool true) ∧ Below w.heap.size w w' := by
 have HT := am_ hT; clear hT
 go_enter Tryd.func7, Tryd.ntmps7
 have KF := am_ hk; clear hk; have L := am_ (Below.refl w.heap.size w)
 go_wp2_with fail
 obtain ⟨k, hk⟩ := KF.out.f0
 refine (spec_DyadicOfNarrow.calls k a0 r1 r2 r3 r4 _  hk).mono ?_
 rintro x w1 ⟨v0_, rfl, hr0_, hb⟩
 obtain ⟨A1, c2, rfl⟩ := Kd.R_slice hr0_
 have V3 := am_ (RO.of (w := w) hr0_ L.out.size)
 replace L := am_ (L.out.trans (hb.mono L.out.size))
 clear hb hk hr0_
 go_upto_region 2 with fail
 obtain ⟨w1, g4, e1, e2, hB, hb⟩ := new_box _ #[.int .i64 r1, .slice A1 r2.length c2, .int .i64 r3] 28
 rw [← e1]; try rw [← e2]
 have G5 := am_ hB
 replace V3 := am_ (V3.out.below hb)
 replace L := am_ (L.out.trans (hb.mono L.out.size))
 clear hB hb e1 e2
 go_wp2_with fail
 refine (impl_DyadicOfNarrow.calls a0 r1 r2 r3 r4 _  (HT.out.below L.out) KF.out.f1).mono ?_
 rintro x w1 ⟨v0_, rfl, hr0_, hb⟩
 obtain ⟨A6, c7, rfl⟩ := Kd.R_slice hr0_
 have V8 := am_ (RO.of (w := w) hr0_ L.out.size)
 have N_V3_V8 := am_ (NeRow.of V3.out.row hr0_)
 replace V3 := am_ (V3.out.below hb)
 replace G5 := am_ (G5.out.below hb)
 replace L := am_ (L.out.trans (hb.mono L.out.size))
 clear hb hr0_
 go_upto_region 3 with fail
 obtain ⟨w1, g9, e1, e2, hB, hb⟩ := new_box _ #[.int .i64 r1, .slice A6 r2.length c7, .int .i64 r3] 28
 rw [← e1]; try rw [← e2]
 have G10 := am_ hB
 replace V3 := am_ (V3.out.below hb)
 replace V8 := am_ (V8.out.below hb)
 replace G5 := am_ (G5.out.below hb)
 replace L := am_ (L.out.trans (hb.mono L.out.size))
 clear hB hb e1 e2
 have p11 := G10.out.cell 0 _ rfl
 have p12 := G10.out.cell 1 _ rfl
 have p13 := G10.out.cell 2 _ rfl
 have p14 := G5.out.cell 0 _ rfl
 have p15 := G5.out.cell 1 _ rfl
 have p16 := G5.out.cell 2 _ rfl
 go_wp2_with fail
 obtain ⟨k, hk⟩ := KF.out.f2
 refine (laws_eqDyadic.calls k r1 A6 c7 r2 r3 r1 A1 c2 r2 r3 true _ (V8.out.c) (V8.out.le) (V3.out.c) (V3.out.le) hk).mono ?_
 rintro x w1 ⟨rfl, hb⟩
 clear p11 p12 p13 p14 p15 p16
 replace V3 := am_ (V3.out.below hb)
 replace V8 := am_ (V8.out.below hb)
 replace G5 := am_ (G5.out.below hb)
 replace G10 := am_ (G10.out.below hb)
 replace L := am_ (L.out.trans (hb.mono L.out.size))
 clear hb hk
 have p17 := G10.out.cell 0 _ rfl
 have p18 := G10.out.cell 1 _ rfl
 have p19 := G10.out.cell 2 _ rfl
 go_wp2_with fail
 obtain ⟨k, hk⟩ := KF.out.f3
 refine (laws_markDyadic.calls k r1 (fun q => some q = (.slice A6 r2.length c7 : Value).ownBlock) (.slice A6 r2.length c7) r2 r3 1 n1 m20 w _ L.out V8.out.row hk).mono ?_
 rintro x w1 ⟨rfl, hr0_, hb, hkp⟩
 clear p17 p18 p19
 replace V3 := am_ (V3.out.kept hkp N_V3_V8.out)
 replace G5 := am_ (G5.out.kept V8.out (by decide) hkp)
 replace G10 := am_ (G10.out.kept V8.out (by decide) hkp)
 replace V8 := am_ (RO.of (w := w) hr0_ (Nat.le_refl _))
 replace L := am_ hb
 clear hb hkp hk hr0_
 have hn1 := KF.out.f4
 have p21 := G10.out.cell 0 _ rfl
 have p22 := G10.out.cell 1 _ rfl
 have p23 := G10.out.cell 2 _ rfl
 go_wp2_with fail
 obtain ⟨k, hk⟩ := KF.out.f6
 have V8_ := V8.out; rw [← KF.out.f5] at V8_
 have hcon := laws_heldDyadic.calls k r1 A6 c7 m20 r3 1 n1 _ V8_.c V8_.le hk
 rw [KF.out.f5] at hcon
 refine (hcon).mono ?_
 rintro x w1 ⟨rfl, hb⟩
 clear p21 p22 p23
 replace V3 := am_ (V3.out.below hb)
 replace V8 := am_ (V8.out.below hb)
 replace G5 := am_ (G5.out.below hb)
 replace G10 := am_ (G10.out.below hb)
 replace L := am_ (L.out.trans (hb.mono L.out.size))
 clear hb hk
 clear hcon V8_
 go_wp2_with fail
 refine (impl_DyadicOfNarrow.calls a0 r1 r2 r3 r4 _  (HT.out.below L.out) KF.out.f1).mono ?_
 rintro x w1 ⟨v0_, rfl, hr0_, hb⟩
 obtain ⟨A24, c25, rfl⟩ := Kd.R_slice hr0_
 have V26 := am_ (RO.of (w := w) hr0_ L.out.size)
 have N_V3_V26 := am_ (NeRow.of V3.out.row hr0_)
 have N_V8_V26 := am_ (NeRow.of V8.out.row hr0_)
 replace V3 := am_ (V3.out.below hb)
 replace V8 := am_ (V8.out.below hb)
 replace G5 := am_ (G5.out.below hb)
 replace G10 := am_ (G10.out.below hb)
 replace L := am_ (L.out.trans (hb.mono L.out.size))
 clear hb hr0_
 go_upto_region 14 with fail
 obtain ⟨w1, g27, e1, e2, hB, hb⟩ := new_box _ #[.int .i64 r1, .slice A24 r2.length c25, .int .i64 r3] 28
 rw [← e1]; try rw [← e2]
 have G28 := am_ hB
 replace V3 := am_ (V3.out.below hb)
 replace V8 := am_ (V8.out.below hb)
 replace V26 := am_ (V26.out.below hb)
 replace G5 := am_ (G5.out.below hb)
 replace G10 := am_ (G10.out.below hb)
 replace L := am_ (L.out.trans (hb.mono L.out.size))
 clear hB hb e1 e2
 have p29 := G28.out.cell 0 _ rfl
 have p30 := G28.out.cell 1 _ rfl
 have p31 := G28.out.cell 2 _ rfl
 have p32 := G5.out.cell 0 _ rfl
 have p33 := G5.out.cell 1 _ rfl
 have p34 := G5.out.cell 2 _ rfl
 go_wp2_with fail
 obtain ⟨k, hk⟩ := KF.out.f2
 refine (laws_eqDyadic.calls k r1 A24 c25 r2 r3 r1 A1 c2 r2 r3 true _ (V26.out.c) (V26.out.le) (V3.out.c) (V3.out.le) hk).mono ?_
 rintro x w1 ⟨rfl, hb⟩
 clear p29 p30 p31 p32 p33 p34
 replace V3 := am_ (V3.out.below hb)
 replace V8 := am_ (V8.out.below hb)
 replace V26 := am_ (V26.out.below hb)
 replace G5 := am_ (G5.out.below hb)
 replace G10 := am_ (G10.out.below hb)
 replace G28 := am_ (G28.out.below hb)
 replace L := am_ (L.out.trans (hb.mono L.out.size))
 clear hb hk
 clear G28 G5
 clear V26 V3
 have p35 := G10.out.cell 0 _ rfl
 have p36 := G10.out.cell 1 _ rfl
 have p37 := G10.out.cell 2 _ rfl
 go_wp2_with fail
 obtain ⟨k, hk⟩ := KF.out.f6
 have V8_ := V8.out; rw [← KF.out.f5] at V8_
 have hcon := laws_heldDyadic.calls k r1 A6 c7 m20 r3 1 n1 _ V8_.c V8_.le hk
 rw [KF.out.f5] at hcon
 refine (hcon).mono ?_
 rintro x w1 ⟨rfl, hb⟩
 clear p35 p36 p37
 replace V8 := am_ (V8.out.below hb)
 replace G10 := am_ (G10.out.below hb)
 replace L := am_ (L.out.trans (hb.mono L.out.size))
 clear hb hk
 clear hcon V8_
 go_wp2
 go_ret
 exact ⟨rfl, L.out⟩
end Go.Proofs.YtdbdhgimokaooaaDoor
namespace Go.Proofs.YtdbdhgimokaooaaDoor.Pur
open Go.RowKit Go.Proofs.YtdbdhgimokaooaaDoor Go.Proofs.YtdbdhgimokaooaaDoor.Big Go.Proofs.YtdbdhgimokaooaaDoor.X Go.Proofs.YtdbdhgimokaooaaDoorW.PrintWords Go.Proofs.YtdbdhgimokaooaaDoorW.PrintLast Go.Proofs.YtdbdhgimokaooaaDoor.Math
set_option linter.unusedVariables false
set_option linter.unusedSimpArgs false
theorem ev_one {α : Type} {F : Nat → Option α} {r : α} (h : Ev F r) : ∃ k, F k = some r := let ⟨K, hK⟩ := h; ⟨K, hK K (Nat.le_refl K)⟩
theorem dyN_length (x : Nat) : (dyN x).2.1.length ≤ 200 := by
 unfold dyN
 split
 ·unfold dyO
  split
  ·exact dyfit_length _ _
  ·simp
 ·simp
theorem callsDyadicOfNarrow (x : Nat) (w : World) (hx : x < 2 ^ 32) (hT : Tab w) :
  Calls Tryd.prog 7 #[.float .f32 x] w fun e w' => e = .returned (.bool true) ∧ Below w.heap.size w w' := by
 obtain ⟨r1, r2, r3, r4, hR⟩ : ∃ r1 r2 r3 r4, dyN x = (r1, r2, r3, r4) := ⟨_, _, _, _, rfl⟩
 have hq := dyN_length x
 rw [hR] at hq
 simp only at hq
 have hl : x < 4294967296 := hx
 refine walk_DyadicOfNarrow x r1 r2 r3 r4 (1 + r2.length) (marks 1 r2.length) w hT ?_
 exact
  {f0 := ⟨0, by unfold spec_DyadicOfNarrow.f; rw [if_pos hl, hR]⟩
   f1 := by unfold impl_DyadicOfNarrow.f; rw [if_pos hl, hR]
   f2 := ev_one (eqDyadic _ _ _ (by omega))
   f3 := ev_one (markDyadic _ _ _ 1 (by omega) (by omega) (by omega))
   f4 := by omega
   f5 := marks_length _ _
   f6 := ev_one (heldDyadic _ _ _ 1 (by omega) (by omega) (by omega)) }
end Go.Proofs.YtdbdhgimokaooaaDoor.Pur
