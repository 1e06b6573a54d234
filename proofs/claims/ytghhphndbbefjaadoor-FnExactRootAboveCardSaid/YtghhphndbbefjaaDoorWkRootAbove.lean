/- The law FnExactRootAbove walked, with its answers known: it answers true. -/
import Derived.Test.YtghhphndbbefjaaDoorLawD
import Derived.Test.YtghhphndbbefjaaDoorDy9
import Derived.Test.YtghhphndbbefjaaDoorX9
import Derived.Test.YtghhphndbbefjaaDoorG15
import Derived.BigRegion
namespace Go.Proofs.YtghhphndbbefjaaDoor
open Go.RowKit Go.Proofs.YtghhphndbbefjaaDoorW.PrintWords Go.Proofs.YtghhphndbbefjaaDoorW.PrintLast Go.Proofs.YtghhphndbbefjaaDoorW.PrintMore Go.Proofs.YtghhphndbbefjaaDoor.Math Go.Proofs.YtghhphndbbefjaaDoor.Big Go.Proofs.YtghhphndbbefjaaDoor.X Go.Proofs.YtghhphndbbefjaaDoor.Sq
set_option linter.unusedVariables false
set_option linter.unusedSimpArgs false
structure KnownRootAbove (s0_0 : Int) (l0_1 : List Int) (s0_2 : Int) (a1 : Int) (r1 : Int) (r2 : List Int) (r3 : Int) (r4 : Int) (n1 : Int) (m50 : List Int) (n2 : Int) (m60 : List Int) : Prop where
 f0 : ∃ k, laws_toDyadic.f k s0_0 l0_1 s0_2 = some (s0_0, l0_1, s0_2)
 f1 : ∃ k, spec_RootAbove.f k s0_0 l0_1 s0_2 a1 = some (r1, r2, r3, r4)
 f2 : impl_RootAbove.f s0_0 l0_1 s0_2 a1 = some (r1, r2, r3, r4)
 f3 : ∃ k, laws_eqDyadic.f k r1 r2 r3 r1 r2 r3 = some true
 f4 : ∃ k, laws_eqDyadic.f k s0_0 l0_1 s0_2 s0_0 l0_1 s0_2 = some true
 f5 : ∃ k, laws_markDyadic.f k s0_0 l0_1 s0_2 1 = some (n1, m50)
 f6 : 0 ≤ n1
 f7 : m50.length = l0_1.length
 f8 : ∃ k, laws_markDyadic.f k r1 r2 r3 1 = some (n2, m60)
 f9 : 0 ≤ n2
 f10 : m60.length = r2.length
 f11 : ∃ k, laws_heldDyadic.f k r1 m60 r3 1 = some n2
set_option maxRecDepth 100000 in
set_option maxHeartbeats 8000000 in
theorem walk_RootAbove (s0_0 : Int) (A0_1 : Option Addr) (c0_1 : Nat) (l0_1 : List Int) (s0_2 : Int) (a1 : Int) (r1 : Int) (r2 : List Int) (r3 : Int) (r4 : Int) (n1 : Int) (m50 : List Int) (n2 : Int) (m60 : List Int) (z0 : Int) (w : World) (hr0_1 : Kd.C (Kd.int .i64) w A0_1 l0_1.length l0_1) (hc0_1 : l0_1.length ≤ c0_1) (hT : Tab w) (hz0 : laws_szDyadic.f s0_0 l0_1 s0_2 1048576 = some z0) (hk : 0 ≤ z0 → KnownRootAbove s0_0 l0_1 s0_2 a1 r1 r2 r3 r4 n1 m50 n2 m60) :
  Calls Tryd.prog 10 #[.agg #[.int .i64 s0_0, .slice A0_1 l0_1.length c0_1, .int .i64 s0_2], .int .i64 a1] w fun x w' => x = .returned (.bool true) ∧ Below w.heap.size w w' := by
 have HR0_1 := Aside0.mk hr0_1; have HC0_1 := Aside0.mk hc0_1; clear hr0_1 hc0_1
 have HT := Aside0.mk hT; clear hT
 have HZ0 := Aside0.mk hz0; clear hz0
 by_cases hs : z0 < 0
 ·skip
  go_enter Tryd.func10, Tryd.ntmps10
  go_upto_region 1 with fail
  obtain ⟨w1, g1, e1, e2, hB, hb⟩ := new_box w #[.int .i64 s0_0, .slice A0_1 l0_1.length c0_1, .int .i64 s0_2] 40
  rw [← e1]; try rw [← e2]
  have G2 := Aside0.mk hB
  have L := Aside0.mk hb
  clear hB hb e1 e2
  have p3 := G2.out.cell 0 _ rfl
  have p4 := G2.out.cell 1 _ rfl
  have p5 := G2.out.cell 2 _ rfl
  go_wp2_with fail
  refine (laws_szDyadic.calls s0_0 A0_1 c0_1 l0_1 s0_2 1048576 z0 _ (Kd.C_below HR0_1.out L.out) (HC0_1.out) HZ0.out).mono ?_
  rintro x w1 ⟨rfl, hb⟩
  clear p3 p4 p5
  replace G2 := Aside0.mk (G2.out.below hb)
  replace L := Aside0.mk (L.out.trans (hb.mono L.out.size))
  clear hb
  go_wp2
  go_ret
  exact ⟨rfl, L.out⟩
 ·have KF := Aside0.mk (hk (by omega)); have hs' : 0 ≤ z0 := by omega
  clear hk
  go_enter Tryd.func10, Tryd.ntmps10
  go_upto_region 1 with fail
  obtain ⟨w1, g6, e1, e2, hB, hb⟩ := new_box w #[.int .i64 s0_0, .slice A0_1 l0_1.length c0_1, .int .i64 s0_2] 40
  rw [← e1]; try rw [← e2]
  have G7 := Aside0.mk hB
  have L := Aside0.mk hb
  clear hB hb e1 e2
  have p8 := G7.out.cell 0 _ rfl
  have p9 := G7.out.cell 1 _ rfl
  have p10 := G7.out.cell 2 _ rfl
  go_wp2_with fail
  refine (laws_szDyadic.calls s0_0 A0_1 c0_1 l0_1 s0_2 1048576 z0 _ (Kd.C_below HR0_1.out L.out) (HC0_1.out) HZ0.out).mono ?_
  rintro x w1 ⟨rfl, hb⟩
  clear p8 p9 p10
  replace G7 := Aside0.mk (G7.out.below hb)
  replace L := Aside0.mk (L.out.trans (hb.mono L.out.size))
  clear hb
  have p11 := G7.out.cell 0 _ rfl
  have p12 := G7.out.cell 1 _ rfl
  have p13 := G7.out.cell 2 _ rfl
  go_wp2_with fail
  obtain ⟨k, hk⟩ := KF.out.f0
  refine (laws_toDyadic.calls k s0_0 A0_1 c0_1 l0_1 s0_2 s0_0 l0_1 s0_2 _ (Kd.C_below HR0_1.out L.out) (HC0_1.out) hk).mono ?_
  rintro x w1 ⟨v0_, rfl, hr0_, hb⟩
  clear p11 p12 p13
  obtain ⟨A14, c15, rfl⟩ := Kd.R_slice hr0_
  have V16 := Aside0.mk (RO.of (w := w) hr0_ L.out.size)
  replace G7 := Aside0.mk (G7.out.below hb)
  replace L := Aside0.mk (L.out.trans (hb.mono L.out.size))
  clear hb hk hr0_
  go_wp2_with fail
  obtain ⟨k, hk⟩ := KF.out.f1
  refine (spec_RootAbove.calls k s0_0 A14 c15 l0_1 s0_2 a1 r1 r2 r3 r4 _ (V16.out.c) (V16.out.le) hk).mono ?_
  rintro x w1 ⟨v0_, rfl, hr0_, hb⟩
  obtain ⟨A17, c18, rfl⟩ := Kd.R_slice hr0_
  have V19 := Aside0.mk (RO.of (w := w) hr0_ L.out.size)
  replace V16 := Aside0.mk (V16.out.below hb)
  replace G7 := Aside0.mk (G7.out.below hb)
  replace L := Aside0.mk (L.out.trans (hb.mono L.out.size))
  clear hb hk hr0_
  clear V16
  go_upto_region 6 with fail
  obtain ⟨w1, g20, e1, e2, hB, hb⟩ := new_box _ #[.int .i64 r1, .slice A17 r2.length c18, .int .i64 r3] 45
  rw [← e1]; try rw [← e2]
  have G21 := Aside0.mk hB
  replace V19 := Aside0.mk (V19.out.below hb)
  replace G7 := Aside0.mk (G7.out.below hb)
  replace L := Aside0.mk (L.out.trans (hb.mono L.out.size))
  clear hB hb e1 e2
  have p22 := G7.out.cell 0 _ rfl
  have p23 := G7.out.cell 1 _ rfl
  have p24 := G7.out.cell 2 _ rfl
  go_wp2_with fail
  obtain ⟨k, hk⟩ := KF.out.f0
  refine (laws_toDyadic.calls k s0_0 A0_1 c0_1 l0_1 s0_2 s0_0 l0_1 s0_2 _ (Kd.C_below HR0_1.out L.out) (HC0_1.out) hk).mono ?_
  rintro x w1 ⟨v0_, rfl, hr0_, hb⟩
  clear p22 p23 p24
  obtain ⟨A25, c26, rfl⟩ := Kd.R_slice hr0_
  have V27 := Aside0.mk (RO.of (w := w) hr0_ L.out.size)
  have N_V19_V27 := Aside0.mk (NeRow.of V19.out.row hr0_)
  replace V19 := Aside0.mk (V19.out.below hb)
  replace G7 := Aside0.mk (G7.out.below hb)
  replace G21 := Aside0.mk (G21.out.below hb)
  replace L := Aside0.mk (L.out.trans (hb.mono L.out.size))
  clear hb hk hr0_
  go_upto_region 7 with fail
  obtain ⟨w1, g28, e1, e2, hB, hb⟩ := new_box _ #[.int .i64 s0_0, .slice A25 l0_1.length c26, .int .i64 s0_2] 45
  rw [← e1]; try rw [← e2]
  have G29 := Aside0.mk hB
  replace V19 := Aside0.mk (V19.out.below hb)
  replace V27 := Aside0.mk (V27.out.below hb)
  replace G7 := Aside0.mk (G7.out.below hb)
  replace G21 := Aside0.mk (G21.out.below hb)
  replace L := Aside0.mk (L.out.trans (hb.mono L.out.size))
  clear hB hb e1 e2
  have p30 := G29.out.cell 0 _ rfl
  have p31 := G29.out.cell 1 _ rfl
  have p32 := G29.out.cell 2 _ rfl
  go_wp2_with fail
  refine (impl_RootAbove.calls s0_0 A25 c26 l0_1 s0_2 a1 r1 r2 r3 r4 _ (V27.out.c) (V27.out.le) (HT.out.below L.out) KF.out.f2).mono ?_
  rintro x w1 ⟨v0_, rfl, hr0_, hb⟩
  clear p30 p31 p32
  obtain ⟨A33, c34, rfl⟩ := Kd.R_slice hr0_
  have V35 := Aside0.mk (RO.of (w := w) hr0_ L.out.size)
  have N_V19_V35 := Aside0.mk (NeRow.of V19.out.row hr0_)
  have N_V27_V35 := Aside0.mk (NeRow.of V27.out.row hr0_)
  replace V19 := Aside0.mk (V19.out.below hb)
  replace V27 := Aside0.mk (V27.out.below hb)
  replace G7 := Aside0.mk (G7.out.below hb)
  replace G21 := Aside0.mk (G21.out.below hb)
  replace G29 := Aside0.mk (G29.out.below hb)
  replace L := Aside0.mk (L.out.trans (hb.mono L.out.size))
  clear hb hr0_
  go_upto_region 8 with fail
  obtain ⟨w1, g36, e1, e2, hB, hb⟩ := new_box _ #[.int .i64 r1, .slice A33 r2.length c34, .int .i64 r3] 45
  rw [← e1]; try rw [← e2]
  have G37 := Aside0.mk hB
  replace V19 := Aside0.mk (V19.out.below hb)
  replace V27 := Aside0.mk (V27.out.below hb)
  replace V35 := Aside0.mk (V35.out.below hb)
  replace G7 := Aside0.mk (G7.out.below hb)
  replace G21 := Aside0.mk (G21.out.below hb)
  replace G29 := Aside0.mk (G29.out.below hb)
  replace L := Aside0.mk (L.out.trans (hb.mono L.out.size))
  clear hB hb e1 e2
  have p38 := G37.out.cell 0 _ rfl
  have p39 := G37.out.cell 1 _ rfl
  have p40 := G37.out.cell 2 _ rfl
  have p41 := G21.out.cell 0 _ rfl
  have p42 := G21.out.cell 1 _ rfl
  have p43 := G21.out.cell 2 _ rfl
  go_wp2_with fail
  obtain ⟨k, hk⟩ := KF.out.f3
  refine (laws_eqDyadic.calls k r1 A33 c34 r2 r3 r1 A17 c18 r2 r3 true _ (V35.out.c) (V35.out.le) (V19.out.c) (V19.out.le) hk).mono ?_
  rintro x w1 ⟨rfl, hb⟩
  clear p38 p39 p40 p41 p42 p43
  replace V19 := Aside0.mk (V19.out.below hb)
  replace V27 := Aside0.mk (V27.out.below hb)
  replace V35 := Aside0.mk (V35.out.below hb)
  replace G7 := Aside0.mk (G7.out.below hb)
  replace G21 := Aside0.mk (G21.out.below hb)
  replace G29 := Aside0.mk (G29.out.below hb)
  replace G37 := Aside0.mk (G37.out.below hb)
  replace L := Aside0.mk (L.out.trans (hb.mono L.out.size))
  clear hb hk
  go_upto_region 10 with fail
  refine start_ (n := 5) (S := fun w' => w'.cell? ⟨g28, 0, none⟩ = some (.int .i64 s0_0) ∧ w'.cell? ⟨g28, 1, none⟩ = some (.slice A25 l0_1.length c26) ∧ w'.cell? ⟨g28, 2, none⟩ = some (.int .i64 s0_2) ∧ w'.cell? ⟨g6, 0, none⟩ = some (.int .i64 s0_0) ∧ w'.cell? ⟨g6, 1, none⟩ = some (.slice A0_1 l0_1.length c0_1) ∧ w'.cell? ⟨g6, 2, none⟩ = some (.int .i64 s0_2)) (ds := []) #[false, false, false, false, false] (by kernel_rfl) rfl rfl ⟨G29.out.cell 0 _ rfl, G29.out.cell 1 _ rfl, G29.out.cell 2 _ rfl, G7.out.cell 0 _ rfl, G7.out.cell 1 _ rfl, G7.out.cell 2 _ rfl⟩ (fun hHeld => ?_)
  have Dw2 := Aside0.mk ((Below.refl w1.heap.size w1).drew)
  generalize w1.drew = w2 at hHeld Dw2 ⊢
  refine tk_ #[true, false, false, false, false] 0 45 (by kernel_rfl) hHeld ?_
  refine tk_ #[true, true, false, false, false] 1 46 (by kernel_rfl) hHeld ?_
  refine one_ (i := 2) (N := some 47) #[true, true, true, false, false] rfl rfl (by kernel_rfl) (by decide) (fun K hK => ?_)
  replace V19 := Aside0.mk (V19.out.below Dw2.out)
  replace V27 := Aside0.mk (V27.out.below Dw2.out)
  replace V35 := Aside0.mk (V35.out.below Dw2.out)
  replace G7 := Aside0.mk (G7.out.below Dw2.out)
  replace G21 := Aside0.mk (G21.out.below Dw2.out)
  replace G29 := Aside0.mk (G29.out.below Dw2.out)
  replace G37 := Aside0.mk (G37.out.below Dw2.out)
  replace L := Aside0.mk (L.out.trans (Dw2.out.mono L.out.size))
  obtain ⟨k, hk⟩ := KF.out.f0
  refine goes_ Tryd.func40 (by kernel_rfl) rfl #[.agg #[.int .i64 s0_0, .slice A0_1 l0_1.length c0_1, .int .i64 s0_2]] (by rfl) rfl rfl ma_ ?_
  with_reducible refine (laws_toDyadic.calls k s0_0 A0_1 c0_1 l0_1 s0_2 s0_0 l0_1 s0_2 _ (Kd.C_below HR0_1.out L.out) (HC0_1.out) hk).mono ?_
  rintro x w1 ⟨v0_, rfl, hr0_, hb⟩
  refine ⟨_, rfl, ?_⟩
  obtain ⟨A44, c45, rfl⟩ := Kd.R_slice hr0_
  have V46 := Aside0.mk (RO.of (w := w) hr0_ L.out.size)
  have N_V19_V46 := Aside0.mk (NeRow.of V19.out.row hr0_)
  have N_V27_V46 := Aside0.mk (NeRow.of V27.out.row hr0_)
  have N_V35_V46 := Aside0.mk (NeRow.of V35.out.row hr0_)
  replace V19 := Aside0.mk (V19.out.below hb)
  replace V27 := Aside0.mk (V27.out.below hb)
  replace V35 := Aside0.mk (V35.out.below hb)
  replace G7 := Aside0.mk (G7.out.below hb)
  replace G21 := Aside0.mk (G21.out.below hb)
  replace G29 := Aside0.mk (G29.out.below hb)
  replace G37 := Aside0.mk (G37.out.below hb)
  replace L := Aside0.mk (L.out.trans (hb.mono L.out.size))
  clear hb hk hr0_
  refine hK.out _ _ ⟨G29.out.cell 0 _ rfl, G29.out.cell 1 _ rfl, G29.out.cell 2 _ rfl, G7.out.cell 0 _ rfl, G7.out.cell 1 _ rfl, G7.out.cell 2 _ rfl⟩ (fun hHeld => ?_)
  clear hK K
  refine nr_ ?_
  refine one_ (i := 3) (N := some 48) #[true, true, true, true, false] rfl rfl (by kernel_rfl) (by decide) (fun K hK => ?_)
  obtain ⟨k, hk⟩ := KF.out.f4
  refine goes_ Tryd.func33 (by kernel_rfl) rfl #[.agg #[.int .i64 s0_0, .slice A25 l0_1.length c26, .int .i64 s0_2], .agg #[.int .i64 s0_0, .slice A44 l0_1.length c45, .int .i64 s0_2]] (by rfl) rfl rfl ma_ ?_
  with_reducible refine (laws_eqDyadic.calls k s0_0 A25 c26 l0_1 s0_2 s0_0 A44 c45 l0_1 s0_2 true _ (V27.out.c) (V27.out.le) (V46.out.c) (V46.out.le) hk).mono ?_
  rintro x w1 ⟨rfl, hb⟩
  refine ⟨_, rfl, ?_⟩
  replace V19 := Aside0.mk (V19.out.below hb)
  replace V27 := Aside0.mk (V27.out.below hb)
  replace V35 := Aside0.mk (V35.out.below hb)
  replace V46 := Aside0.mk (V46.out.below hb)
  replace G7 := Aside0.mk (G7.out.below hb)
  replace G21 := Aside0.mk (G21.out.below hb)
  replace G29 := Aside0.mk (G29.out.below hb)
  replace G37 := Aside0.mk (G37.out.below hb)
  replace L := Aside0.mk (L.out.trans (hb.mono L.out.size))
  clear hb hk
  refine hK.out _ _ ⟨G29.out.cell 0 _ rfl, G29.out.cell 1 _ rfl, G29.out.cell 2 _ rfl, G7.out.cell 0 _ rfl, G7.out.cell 1 _ rfl, G7.out.cell 2 _ rfl⟩ (fun hHeld => ?_)
  clear hK K
  refine nr_ ?_
  refine pu_ #[true, true, true, true, true] 4 49 (by kernel_rfl) ?_
  refine done_ (by kernel_rfl) ?_
  clear V46
  go_upto_region 13 with fail
  have p47 := G29.out.cell 0 _ rfl
  have p48 := G29.out.cell 1 _ rfl
  have p49 := G29.out.cell 2 _ rfl
  go_wp2_with fail
  obtain ⟨k, hk⟩ := KF.out.f5
  refine (laws_markDyadic.calls k s0_0 (fun q => some q = (.slice A25 l0_1.length c26 : Value).ownBlock) (.slice A25 l0_1.length c26) l0_1 s0_2 1 n1 m50 w _ L.out V27.out.row hk).mono ?_
  rintro x w1 ⟨rfl, hr0_, hb, hkp⟩
  clear p47 p48 p49
  replace V19 := Aside0.mk (V19.out.kept hkp N_V19_V27.out)
  replace V35 := Aside0.mk (V35.out.kept hkp N_V27_V35.out.symm)
  replace G7 := Aside0.mk (G7.out.kept V27.out (by decide) hkp)
  replace G21 := Aside0.mk (G21.out.kept V27.out (by decide) hkp)
  replace G29 := Aside0.mk (G29.out.kept V27.out (by decide) hkp)
  replace G37 := Aside0.mk (G37.out.kept V27.out (by decide) hkp)
  replace V27 := Aside0.mk (RO.of (w := w) hr0_ (Nat.le_refl _))
  rw [← KF.out.f7] at V27
  replace L := Aside0.mk hb
  clear hb hkp hk hr0_
  have hn1 := KF.out.f6
  clear G29
  clear V27
  have p51 := G37.out.cell 0 _ rfl
  have p52 := G37.out.cell 1 _ rfl
  have p53 := G37.out.cell 2 _ rfl
  have p54 := G21.out.cell 0 _ rfl
  have p55 := G21.out.cell 1 _ rfl
  have p56 := G21.out.cell 2 _ rfl
  go_wp2_with fail
  obtain ⟨k, hk⟩ := KF.out.f3
  refine (laws_eqDyadic.calls k r1 A33 c34 r2 r3 r1 A17 c18 r2 r3 true _ (V35.out.c) (V35.out.le) (V19.out.c) (V19.out.le) hk).mono ?_
  rintro x w1 ⟨rfl, hb⟩
  clear p51 p52 p53 p54 p55 p56
  replace V19 := Aside0.mk (V19.out.below hb)
  replace V35 := Aside0.mk (V35.out.below hb)
  replace G7 := Aside0.mk (G7.out.below hb)
  replace G21 := Aside0.mk (G21.out.below hb)
  replace G37 := Aside0.mk (G37.out.below hb)
  replace L := Aside0.mk (L.out.trans (hb.mono L.out.size))
  clear hb hk
  have p57 := G37.out.cell 0 _ rfl
  have p58 := G37.out.cell 1 _ rfl
  have p59 := G37.out.cell 2 _ rfl
  go_wp2_with fail
  obtain ⟨k, hk⟩ := KF.out.f8
  refine (laws_markDyadic.calls k r1 (fun q => some q = (.slice A33 r2.length c34 : Value).ownBlock) (.slice A33 r2.length c34) r2 r3 1 n2 m60 w _ L.out V35.out.row hk).mono ?_
  rintro x w1 ⟨rfl, hr0_, hb, hkp⟩
  clear p57 p58 p59
  replace V19 := Aside0.mk (V19.out.kept hkp N_V19_V35.out)
  replace G7 := Aside0.mk (G7.out.kept V35.out (by decide) hkp)
  replace G21 := Aside0.mk (G21.out.kept V35.out (by decide) hkp)
  replace G37 := Aside0.mk (G37.out.kept V35.out (by decide) hkp)
  replace V35 := Aside0.mk (RO.of (w := w) hr0_ (Nat.le_refl _))
  rw [← KF.out.f10] at V35
  replace L := Aside0.mk hb
  clear hb hkp hk hr0_
  have hn2 := KF.out.f9
  have p61 := G37.out.cell 0 _ rfl
  have p62 := G37.out.cell 1 _ rfl
  have p63 := G37.out.cell 2 _ rfl
  go_wp2_with fail
  obtain ⟨k, hk⟩ := KF.out.f11
  have hcon := laws_heldDyadic.calls k r1 A33 c34 m60 r3 1 n2 _ (V35.out.c) (V35.out.le) hk
  rw [KF.out.f10] at hcon
  refine (hcon).mono ?_
  rintro x w1 ⟨rfl, hb⟩
  clear p61 p62 p63
  replace V19 := Aside0.mk (V19.out.below hb)
  replace V35 := Aside0.mk (V35.out.below hb)
  replace G7 := Aside0.mk (G7.out.below hb)
  replace G21 := Aside0.mk (G21.out.below hb)
  replace G37 := Aside0.mk (G37.out.below hb)
  replace L := Aside0.mk (L.out.trans (hb.mono L.out.size))
  clear hb hk
  clear hcon
  have p64 := G7.out.cell 0 _ rfl
  have p65 := G7.out.cell 1 _ rfl
  have p66 := G7.out.cell 2 _ rfl
  go_wp2_with fail
  obtain ⟨k, hk⟩ := KF.out.f0
  refine (laws_toDyadic.calls k s0_0 A0_1 c0_1 l0_1 s0_2 s0_0 l0_1 s0_2 _ (Kd.C_below HR0_1.out L.out) (HC0_1.out) hk).mono ?_
  rintro x w1 ⟨v0_, rfl, hr0_, hb⟩
  clear p64 p65 p66
  obtain ⟨A67, c68, rfl⟩ := Kd.R_slice hr0_
  have V69 := Aside0.mk (RO.of (w := w) hr0_ L.out.size)
  have N_V19_V69 := Aside0.mk (NeRow.of V19.out.row hr0_)
  have N_V35_V69 := Aside0.mk (NeRow.of V35.out.row hr0_)
  replace V19 := Aside0.mk (V19.out.below hb)
  replace V35 := Aside0.mk (V35.out.below hb)
  replace G7 := Aside0.mk (G7.out.below hb)
  replace G21 := Aside0.mk (G21.out.below hb)
  replace G37 := Aside0.mk (G37.out.below hb)
  replace L := Aside0.mk (L.out.trans (hb.mono L.out.size))
  clear hb hk hr0_
  go_wp2_with fail
  refine (impl_RootAbove.calls s0_0 A67 c68 l0_1 s0_2 a1 r1 r2 r3 r4 _ (V69.out.c) (V69.out.le) (HT.out.below L.out) KF.out.f2).mono ?_
  rintro x w1 ⟨v0_, rfl, hr0_, hb⟩
  obtain ⟨A70, c71, rfl⟩ := Kd.R_slice hr0_
  have V72 := Aside0.mk (RO.of (w := w) hr0_ L.out.size)
  have N_V19_V72 := Aside0.mk (NeRow.of V19.out.row hr0_)
  have N_V35_V72 := Aside0.mk (NeRow.of V35.out.row hr0_)
  replace V19 := Aside0.mk (V19.out.below hb)
  replace V35 := Aside0.mk (V35.out.below hb)
  replace V69 := Aside0.mk (V69.out.below hb)
  replace G7 := Aside0.mk (G7.out.below hb)
  replace G21 := Aside0.mk (G21.out.below hb)
  replace G37 := Aside0.mk (G37.out.below hb)
  replace L := Aside0.mk (L.out.trans (hb.mono L.out.size))
  clear hb hr0_
  clear V69
  go_upto_region 25 with fail
  obtain ⟨w1, g73, e1, e2, hB, hb⟩ := new_box _ #[.int .i64 r1, .slice A70 r2.length c71, .int .i64 r3] 45
  rw [← e1]; try rw [← e2]
  have G74 := Aside0.mk hB
  replace V19 := Aside0.mk (V19.out.below hb)
  replace V35 := Aside0.mk (V35.out.below hb)
  replace V72 := Aside0.mk (V72.out.below hb)
  replace G7 := Aside0.mk (G7.out.below hb)
  replace G21 := Aside0.mk (G21.out.below hb)
  replace G37 := Aside0.mk (G37.out.below hb)
  replace L := Aside0.mk (L.out.trans (hb.mono L.out.size))
  clear hB hb e1 e2
  have p75 := G74.out.cell 0 _ rfl
  have p76 := G74.out.cell 1 _ rfl
  have p77 := G74.out.cell 2 _ rfl
  have p78 := G21.out.cell 0 _ rfl
  have p79 := G21.out.cell 1 _ rfl
  have p80 := G21.out.cell 2 _ rfl
  go_wp2_with fail
  obtain ⟨k, hk⟩ := KF.out.f3
  refine (laws_eqDyadic.calls k r1 A70 c71 r2 r3 r1 A17 c18 r2 r3 true _ (V72.out.c) (V72.out.le) (V19.out.c) (V19.out.le) hk).mono ?_
  rintro x w1 ⟨rfl, hb⟩
  clear p75 p76 p77 p78 p79 p80
  replace V19 := Aside0.mk (V19.out.below hb)
  replace V35 := Aside0.mk (V35.out.below hb)
  replace V72 := Aside0.mk (V72.out.below hb)
  replace G7 := Aside0.mk (G7.out.below hb)
  replace G21 := Aside0.mk (G21.out.below hb)
  replace G37 := Aside0.mk (G37.out.below hb)
  replace G74 := Aside0.mk (G74.out.below hb)
  replace L := Aside0.mk (L.out.trans (hb.mono L.out.size))
  clear hb hk
  clear G74 G21
  clear V72 V19
  have p81 := G37.out.cell 0 _ rfl
  have p82 := G37.out.cell 1 _ rfl
  have p83 := G37.out.cell 2 _ rfl
  go_wp2_with fail
  obtain ⟨k, hk⟩ := KF.out.f11
  have hcon := laws_heldDyadic.calls k r1 A33 c34 m60 r3 1 n2 _ (V35.out.c) (V35.out.le) hk
  rw [KF.out.f10] at hcon
  refine (hcon).mono ?_
  rintro x w1 ⟨rfl, hb⟩
  clear p81 p82 p83
  replace V35 := Aside0.mk (V35.out.below hb)
  replace G7 := Aside0.mk (G7.out.below hb)
  replace G37 := Aside0.mk (G37.out.below hb)
  replace L := Aside0.mk (L.out.trans (hb.mono L.out.size))
  clear hb hk
  clear hcon
  go_wp2
  go_ret
  exact ⟨rfl, L.out⟩
end Go.Proofs.YtghhphndbbefjaaDoor
