/- The law FnExactSquareOfExact walked, with its answers known: it answers true. -/
import Derived.Test.YtghhphndbbefjaaDoorLawD
import Derived.Test.YtghhphndbbefjaaDoorDyF
import Derived.Test.YtghhphndbbefjaaDoorG24
import Derived.Test.YtghhphndbbefjaaDoorG15
import Derived.BigRegion
namespace Go.Proofs.YtghhphndbbefjaaDoor
open Go.RowKit Go.Proofs.YtghhphndbbefjaaDoorW.PrintWords Go.Proofs.YtghhphndbbefjaaDoorW.PrintLast Go.Proofs.YtghhphndbbefjaaDoorW.PrintMore Go.Proofs.YtghhphndbbefjaaDoor.Math Go.Proofs.YtghhphndbbefjaaDoor.Big Go.Proofs.YtghhphndbbefjaaDoor.X Go.Proofs.YtghhphndbbefjaaDoor.Sq
set_option linter.unusedVariables false
set_option linter.unusedSimpArgs false
structure KnownSquareOfExact (s0_0 : Int) (l0_1 : List Int) (s0_2 : Int) (s0_3 : Int) (l0_4 : List Int) (s0_5 : Int) (r1 : Int) (r2 : List Int) (r3 : Int) (r4 : Int) (n1 : Int) (m77 : List Int) (m78 : List Int) (n2 : Int) (m88 : List Int) : Prop where
 f0 : ∃ k, laws_toExact.f k s0_0 l0_1 s0_2 s0_3 l0_4 s0_5 = some (s0_0, l0_1, s0_2, s0_3, l0_4, s0_5)
 f1 : ∃ k, spec_SquareOfExact.f k s0_0 l0_1 s0_2 s0_3 l0_4 s0_5 = some (r1, r2, r3, r4)
 f2 : impl_SquareOfExact.f s0_0 l0_1 s0_2 s0_3 l0_4 s0_5 = some (r1, r2, r3, r4)
 f3 : ∃ k, laws_eqDyadic.f k r1 r2 r3 r1 r2 r3 = some true
 f4 : ∃ k, laws_eqExact.f k s0_0 l0_1 s0_2 s0_3 l0_4 s0_5 s0_0 l0_1 s0_2 s0_3 l0_4 s0_5 = some true
 f5 : ∃ k, laws_markExact.f k s0_0 l0_1 s0_2 s0_3 l0_4 s0_5 1 = some (n1, m77, m78)
 f6 : 0 ≤ n1
 f7 : m77.length = l0_1.length
 f8 : m78.length = l0_4.length
 f9 : ∃ k, laws_markDyadic.f k r1 r2 r3 1 = some (n2, m88)
 f10 : 0 ≤ n2
 f11 : m88.length = r2.length
 f12 : ∃ k, laws_heldDyadic.f k r1 m88 r3 1 = some n2
set_option maxRecDepth 100000 in
set_option maxHeartbeats 8000000 in
theorem walk_SquareOfExact (s0_0 : Int) (A0_1 : Option Addr) (c0_1 : Nat) (l0_1 : List Int) (s0_2 : Int) (s0_3 : Int) (A0_4 : Option Addr) (c0_4 : Nat) (l0_4 : List Int) (s0_5 : Int) (r1 : Int) (r2 : List Int) (r3 : Int) (r4 : Int) (n1 : Int) (m77 : List Int) (m78 : List Int) (n2 : Int) (m88 : List Int) (z0 : Int) (w : World) (hr0_1 : Kd.C (Kd.int .i64) w A0_1 l0_1.length l0_1) (hc0_1 : l0_1.length ≤ c0_1) (hr0_4 : Kd.C (Kd.int .i64) w A0_4 l0_4.length l0_4) (hc0_4 : l0_4.length ≤ c0_4) (hT : Tab w) (hz0 : laws_szExact.f s0_0 l0_1 s0_2 s0_3 l0_4 s0_5 1048576 = some z0) (hk : 0 ≤ z0 → KnownSquareOfExact s0_0 l0_1 s0_2 s0_3 l0_4 s0_5 r1 r2 r3 r4 n1 m77 m78 n2 m88) :
  Calls Tryd.prog 8 #[.agg #[.int .i64 s0_0, .slice A0_1 l0_1.length c0_1, .int .i64 s0_2, .int .i64 s0_3, .slice A0_4 l0_4.length c0_4, .int .i64 s0_5]] w fun x w' => x = .returned (.bool true) ∧ Below w.heap.size w w' := by
 have HR0_1 := Aside0.mk hr0_1; have HC0_1 := Aside0.mk hc0_1; clear hr0_1 hc0_1
 have HR0_4 := Aside0.mk hr0_4; have HC0_4 := Aside0.mk hc0_4; clear hr0_4 hc0_4
 have HT := Aside0.mk hT; clear hT
 have HZ0 := Aside0.mk hz0; clear hz0
 by_cases hs : z0 < 0
 ·skip
  go_enter Tryd.func8, Tryd.ntmps8
  go_upto_region 1 with fail
  obtain ⟨w1, g1, e1, e2, hB, hb⟩ := new_box w #[.int .i64 s0_0, .slice A0_1 l0_1.length c0_1, .int .i64 s0_2, .int .i64 s0_3, .slice A0_4 l0_4.length c0_4, .int .i64 s0_5] 42
  rw [← e1]; try rw [← e2]
  have G2 := Aside0.mk hB
  have L := Aside0.mk hb
  clear hB hb e1 e2
  have p3 := G2.out.cell 0 _ rfl
  have p4 := G2.out.cell 1 _ rfl
  have p5 := G2.out.cell 2 _ rfl
  have p6 := G2.out.cell 3 _ rfl
  have p7 := G2.out.cell 4 _ rfl
  have p8 := G2.out.cell 5 _ rfl
  go_wp2_with fail
  refine (laws_szExact.calls s0_0 A0_1 c0_1 l0_1 s0_2 s0_3 A0_4 c0_4 l0_4 s0_5 1048576 z0 _ (Kd.C_below HR0_1.out L.out) (HC0_1.out) (Kd.C_below HR0_4.out L.out) (HC0_4.out) HZ0.out).mono ?_
  rintro x w1 ⟨rfl, hb⟩
  clear p3 p4 p5 p6 p7 p8
  replace G2 := Aside0.mk (G2.out.below hb)
  replace L := Aside0.mk (L.out.trans (hb.mono L.out.size))
  clear hb
  go_wp2
  go_ret
  exact ⟨rfl, L.out⟩
 ·have KF := Aside0.mk (hk (by omega)); have hs' : 0 ≤ z0 := by omega
  clear hk
  go_enter Tryd.func8, Tryd.ntmps8
  go_upto_region 1 with fail
  obtain ⟨w1, g9, e1, e2, hB, hb⟩ := new_box w #[.int .i64 s0_0, .slice A0_1 l0_1.length c0_1, .int .i64 s0_2, .int .i64 s0_3, .slice A0_4 l0_4.length c0_4, .int .i64 s0_5] 42
  rw [← e1]; try rw [← e2]
  have G10 := Aside0.mk hB
  have L := Aside0.mk hb
  clear hB hb e1 e2
  have p11 := G10.out.cell 0 _ rfl
  have p12 := G10.out.cell 1 _ rfl
  have p13 := G10.out.cell 2 _ rfl
  have p14 := G10.out.cell 3 _ rfl
  have p15 := G10.out.cell 4 _ rfl
  have p16 := G10.out.cell 5 _ rfl
  go_wp2_with fail
  refine (laws_szExact.calls s0_0 A0_1 c0_1 l0_1 s0_2 s0_3 A0_4 c0_4 l0_4 s0_5 1048576 z0 _ (Kd.C_below HR0_1.out L.out) (HC0_1.out) (Kd.C_below HR0_4.out L.out) (HC0_4.out) HZ0.out).mono ?_
  rintro x w1 ⟨rfl, hb⟩
  clear p11 p12 p13 p14 p15 p16
  replace G10 := Aside0.mk (G10.out.below hb)
  replace L := Aside0.mk (L.out.trans (hb.mono L.out.size))
  clear hb
  have p17 := G10.out.cell 0 _ rfl
  have p18 := G10.out.cell 1 _ rfl
  have p19 := G10.out.cell 2 _ rfl
  have p20 := G10.out.cell 3 _ rfl
  have p21 := G10.out.cell 4 _ rfl
  have p22 := G10.out.cell 5 _ rfl
  go_wp2_with fail
  obtain ⟨k, hk⟩ := KF.out.f0
  refine (laws_toExact.calls k s0_0 A0_1 c0_1 l0_1 s0_2 s0_3 A0_4 c0_4 l0_4 s0_5 s0_0 l0_1 s0_2 s0_3 l0_4 s0_5 _ (Kd.C_below HR0_1.out L.out) (HC0_1.out) (Kd.C_below HR0_4.out L.out) (HC0_4.out) hk).mono ?_
  rintro x w1 ⟨v0_, v1_, rfl, hr0_, hr1_, hb⟩
  clear p17 p18 p19 p20 p21 p22
  obtain ⟨A23, c24, rfl⟩ := Kd.R_slice hr0_
  obtain ⟨A26, c27, rfl⟩ := Kd.R_slice hr1_
  have V25 := Aside0.mk (RO.of (w := w) hr0_ L.out.size)
  have V28 := Aside0.mk (RO.of (w := w) hr1_ L.out.size)
  have N_V25_V28 := Aside0.mk (NeRow.two hr0_)
  replace G10 := Aside0.mk (G10.out.below hb)
  replace L := Aside0.mk (L.out.trans (hb.mono L.out.size))
  clear hb hk hr0_ hr1_
  go_wp2_with fail
  obtain ⟨k, hk⟩ := KF.out.f1
  refine (spec_SquareOfExact.calls k s0_0 A23 c24 l0_1 s0_2 s0_3 A26 c27 l0_4 s0_5 r1 r2 r3 r4 _ (V25.out.c) (V25.out.le) (V28.out.c) (V28.out.le) hk).mono ?_
  rintro x w1 ⟨v0_, rfl, hr0_, hb⟩
  obtain ⟨A29, c30, rfl⟩ := Kd.R_slice hr0_
  have V31 := Aside0.mk (RO.of (w := w) hr0_ L.out.size)
  replace V25 := Aside0.mk (V25.out.below hb)
  replace V28 := Aside0.mk (V28.out.below hb)
  replace G10 := Aside0.mk (G10.out.below hb)
  replace L := Aside0.mk (L.out.trans (hb.mono L.out.size))
  clear hb hk hr0_
  clear V25 V28
  go_upto_region 6 with fail
  obtain ⟨w1, g32, e1, e2, hB, hb⟩ := new_box _ #[.int .i64 r1, .slice A29 r2.length c30, .int .i64 r3] 45
  rw [← e1]; try rw [← e2]
  have G33 := Aside0.mk hB
  replace V31 := Aside0.mk (V31.out.below hb)
  replace G10 := Aside0.mk (G10.out.below hb)
  replace L := Aside0.mk (L.out.trans (hb.mono L.out.size))
  clear hB hb e1 e2
  have p34 := G10.out.cell 0 _ rfl
  have p35 := G10.out.cell 1 _ rfl
  have p36 := G10.out.cell 2 _ rfl
  have p37 := G10.out.cell 3 _ rfl
  have p38 := G10.out.cell 4 _ rfl
  have p39 := G10.out.cell 5 _ rfl
  go_wp2_with fail
  obtain ⟨k, hk⟩ := KF.out.f0
  refine (laws_toExact.calls k s0_0 A0_1 c0_1 l0_1 s0_2 s0_3 A0_4 c0_4 l0_4 s0_5 s0_0 l0_1 s0_2 s0_3 l0_4 s0_5 _ (Kd.C_below HR0_1.out L.out) (HC0_1.out) (Kd.C_below HR0_4.out L.out) (HC0_4.out) hk).mono ?_
  rintro x w1 ⟨v0_, v1_, rfl, hr0_, hr1_, hb⟩
  clear p34 p35 p36 p37 p38 p39
  obtain ⟨A40, c41, rfl⟩ := Kd.R_slice hr0_
  obtain ⟨A43, c44, rfl⟩ := Kd.R_slice hr1_
  have V42 := Aside0.mk (RO.of (w := w) hr0_ L.out.size)
  have V45 := Aside0.mk (RO.of (w := w) hr1_ L.out.size)
  have N_V31_V42 := Aside0.mk (NeRow.of V31.out.row hr0_)
  have N_V31_V45 := Aside0.mk (NeRow.of V31.out.row hr1_)
  have N_V42_V45 := Aside0.mk (NeRow.two hr0_)
  replace V31 := Aside0.mk (V31.out.below hb)
  replace G10 := Aside0.mk (G10.out.below hb)
  replace G33 := Aside0.mk (G33.out.below hb)
  replace L := Aside0.mk (L.out.trans (hb.mono L.out.size))
  clear hb hk hr0_ hr1_
  go_upto_region 7 with fail
  obtain ⟨w1, g46, e1, e2, hB, hb⟩ := new_box _ #[.int .i64 s0_0, .slice A40 l0_1.length c41, .int .i64 s0_2, .int .i64 s0_3, .slice A43 l0_4.length c44, .int .i64 s0_5] 47
  rw [← e1]; try rw [← e2]
  have G47 := Aside0.mk hB
  replace V31 := Aside0.mk (V31.out.below hb)
  replace V42 := Aside0.mk (V42.out.below hb)
  replace V45 := Aside0.mk (V45.out.below hb)
  replace G10 := Aside0.mk (G10.out.below hb)
  replace G33 := Aside0.mk (G33.out.below hb)
  replace L := Aside0.mk (L.out.trans (hb.mono L.out.size))
  clear hB hb e1 e2
  have p48 := G47.out.cell 0 _ rfl
  have p49 := G47.out.cell 1 _ rfl
  have p50 := G47.out.cell 2 _ rfl
  have p51 := G47.out.cell 3 _ rfl
  have p52 := G47.out.cell 4 _ rfl
  have p53 := G47.out.cell 5 _ rfl
  go_wp2_with fail
  refine (impl_SquareOfExact.calls s0_0 A40 c41 l0_1 s0_2 s0_3 A43 c44 l0_4 s0_5 r1 r2 r3 r4 _ (V42.out.c) (V42.out.le) (V45.out.c) (V45.out.le) (HT.out.below L.out) KF.out.f2).mono ?_
  rintro x w1 ⟨v0_, rfl, hr0_, hb⟩
  clear p48 p49 p50 p51 p52 p53
  obtain ⟨A54, c55, rfl⟩ := Kd.R_slice hr0_
  have V56 := Aside0.mk (RO.of (w := w) hr0_ L.out.size)
  have N_V31_V56 := Aside0.mk (NeRow.of V31.out.row hr0_)
  have N_V42_V56 := Aside0.mk (NeRow.of V42.out.row hr0_)
  have N_V45_V56 := Aside0.mk (NeRow.of V45.out.row hr0_)
  replace V31 := Aside0.mk (V31.out.below hb)
  replace V42 := Aside0.mk (V42.out.below hb)
  replace V45 := Aside0.mk (V45.out.below hb)
  replace G10 := Aside0.mk (G10.out.below hb)
  replace G33 := Aside0.mk (G33.out.below hb)
  replace G47 := Aside0.mk (G47.out.below hb)
  replace L := Aside0.mk (L.out.trans (hb.mono L.out.size))
  clear hb hr0_
  go_upto_region 8 with fail
  obtain ⟨w1, g57, e1, e2, hB, hb⟩ := new_box _ #[.int .i64 r1, .slice A54 r2.length c55, .int .i64 r3] 45
  rw [← e1]; try rw [← e2]
  have G58 := Aside0.mk hB
  replace V31 := Aside0.mk (V31.out.below hb)
  replace V42 := Aside0.mk (V42.out.below hb)
  replace V45 := Aside0.mk (V45.out.below hb)
  replace V56 := Aside0.mk (V56.out.below hb)
  replace G10 := Aside0.mk (G10.out.below hb)
  replace G33 := Aside0.mk (G33.out.below hb)
  replace G47 := Aside0.mk (G47.out.below hb)
  replace L := Aside0.mk (L.out.trans (hb.mono L.out.size))
  clear hB hb e1 e2
  have p59 := G58.out.cell 0 _ rfl
  have p60 := G58.out.cell 1 _ rfl
  have p61 := G58.out.cell 2 _ rfl
  have p62 := G33.out.cell 0 _ rfl
  have p63 := G33.out.cell 1 _ rfl
  have p64 := G33.out.cell 2 _ rfl
  go_wp2_with fail
  obtain ⟨k, hk⟩ := KF.out.f3
  refine (laws_eqDyadic.calls k r1 A54 c55 r2 r3 r1 A29 c30 r2 r3 true _ (V56.out.c) (V56.out.le) (V31.out.c) (V31.out.le) hk).mono ?_
  rintro x w1 ⟨rfl, hb⟩
  clear p59 p60 p61 p62 p63 p64
  replace V31 := Aside0.mk (V31.out.below hb)
  replace V42 := Aside0.mk (V42.out.below hb)
  replace V45 := Aside0.mk (V45.out.below hb)
  replace V56 := Aside0.mk (V56.out.below hb)
  replace G10 := Aside0.mk (G10.out.below hb)
  replace G33 := Aside0.mk (G33.out.below hb)
  replace G47 := Aside0.mk (G47.out.below hb)
  replace G58 := Aside0.mk (G58.out.below hb)
  replace L := Aside0.mk (L.out.trans (hb.mono L.out.size))
  clear hb hk
  go_upto_region 10 with fail
  refine start_ (n := 5) (S := fun w' => w'.cell? ⟨g46, 0, none⟩ = some (.int .i64 s0_0) ∧ w'.cell? ⟨g46, 1, none⟩ = some (.slice A40 l0_1.length c41) ∧ w'.cell? ⟨g46, 2, none⟩ = some (.int .i64 s0_2) ∧ w'.cell? ⟨g46, 3, none⟩ = some (.int .i64 s0_3) ∧ w'.cell? ⟨g46, 4, none⟩ = some (.slice A43 l0_4.length c44) ∧ w'.cell? ⟨g46, 5, none⟩ = some (.int .i64 s0_5) ∧ w'.cell? ⟨g9, 0, none⟩ = some (.int .i64 s0_0) ∧ w'.cell? ⟨g9, 1, none⟩ = some (.slice A0_1 l0_1.length c0_1) ∧ w'.cell? ⟨g9, 2, none⟩ = some (.int .i64 s0_2) ∧ w'.cell? ⟨g9, 3, none⟩ = some (.int .i64 s0_3) ∧ w'.cell? ⟨g9, 4, none⟩ = some (.slice A0_4 l0_4.length c0_4) ∧ w'.cell? ⟨g9, 5, none⟩ = some (.int .i64 s0_5)) (ds := []) #[false, false, false, false, false] (by kernel_rfl) rfl rfl ⟨G47.out.cell 0 _ rfl, G47.out.cell 1 _ rfl, G47.out.cell 2 _ rfl, G47.out.cell 3 _ rfl, G47.out.cell 4 _ rfl, G47.out.cell 5 _ rfl, G10.out.cell 0 _ rfl, G10.out.cell 1 _ rfl, G10.out.cell 2 _ rfl, G10.out.cell 3 _ rfl, G10.out.cell 4 _ rfl, G10.out.cell 5 _ rfl⟩ (fun hHeld => ?_)
  have Dw2 := Aside0.mk ((Below.refl w1.heap.size w1).drew)
  generalize w1.drew = w2 at hHeld Dw2 ⊢
  refine tk_ #[true, false, false, false, false] 0 41 (by kernel_rfl) hHeld ?_
  refine tk_ #[true, true, false, false, false] 1 42 (by kernel_rfl) hHeld ?_
  refine one_ (i := 2) (N := some 43) #[true, true, true, false, false] rfl rfl (by kernel_rfl) (by decide) (fun K hK => ?_)
  replace V31 := Aside0.mk (V31.out.below Dw2.out)
  replace V42 := Aside0.mk (V42.out.below Dw2.out)
  replace V45 := Aside0.mk (V45.out.below Dw2.out)
  replace V56 := Aside0.mk (V56.out.below Dw2.out)
  replace G10 := Aside0.mk (G10.out.below Dw2.out)
  replace G33 := Aside0.mk (G33.out.below Dw2.out)
  replace G47 := Aside0.mk (G47.out.below Dw2.out)
  replace G58 := Aside0.mk (G58.out.below Dw2.out)
  replace L := Aside0.mk (L.out.trans (Dw2.out.mono L.out.size))
  obtain ⟨k, hk⟩ := KF.out.f0
  refine goes_ Tryd.func26 (by kernel_rfl) rfl #[.agg #[.int .i64 s0_0, .slice A0_1 l0_1.length c0_1, .int .i64 s0_2, .int .i64 s0_3, .slice A0_4 l0_4.length c0_4, .int .i64 s0_5]] (by rfl) rfl rfl ma_ ?_
  with_reducible refine (laws_toExact.calls k s0_0 A0_1 c0_1 l0_1 s0_2 s0_3 A0_4 c0_4 l0_4 s0_5 s0_0 l0_1 s0_2 s0_3 l0_4 s0_5 _ (Kd.C_below HR0_1.out L.out) (HC0_1.out) (Kd.C_below HR0_4.out L.out) (HC0_4.out) hk).mono ?_
  rintro x w1 ⟨v0_, v1_, rfl, hr0_, hr1_, hb⟩
  refine ⟨_, rfl, ?_⟩
  obtain ⟨A65, c66, rfl⟩ := Kd.R_slice hr0_
  obtain ⟨A68, c69, rfl⟩ := Kd.R_slice hr1_
  have V67 := Aside0.mk (RO.of (w := w) hr0_ L.out.size)
  have V70 := Aside0.mk (RO.of (w := w) hr1_ L.out.size)
  have N_V31_V67 := Aside0.mk (NeRow.of V31.out.row hr0_)
  have N_V31_V70 := Aside0.mk (NeRow.of V31.out.row hr1_)
  have N_V42_V67 := Aside0.mk (NeRow.of V42.out.row hr0_)
  have N_V42_V70 := Aside0.mk (NeRow.of V42.out.row hr1_)
  have N_V45_V67 := Aside0.mk (NeRow.of V45.out.row hr0_)
  have N_V45_V70 := Aside0.mk (NeRow.of V45.out.row hr1_)
  have N_V56_V67 := Aside0.mk (NeRow.of V56.out.row hr0_)
  have N_V56_V70 := Aside0.mk (NeRow.of V56.out.row hr1_)
  have N_V67_V70 := Aside0.mk (NeRow.two hr0_)
  replace V31 := Aside0.mk (V31.out.below hb)
  replace V42 := Aside0.mk (V42.out.below hb)
  replace V45 := Aside0.mk (V45.out.below hb)
  replace V56 := Aside0.mk (V56.out.below hb)
  replace G10 := Aside0.mk (G10.out.below hb)
  replace G33 := Aside0.mk (G33.out.below hb)
  replace G47 := Aside0.mk (G47.out.below hb)
  replace G58 := Aside0.mk (G58.out.below hb)
  replace L := Aside0.mk (L.out.trans (hb.mono L.out.size))
  clear hb hk hr0_ hr1_
  refine hK.out _ _ ⟨G47.out.cell 0 _ rfl, G47.out.cell 1 _ rfl, G47.out.cell 2 _ rfl, G47.out.cell 3 _ rfl, G47.out.cell 4 _ rfl, G47.out.cell 5 _ rfl, G10.out.cell 0 _ rfl, G10.out.cell 1 _ rfl, G10.out.cell 2 _ rfl, G10.out.cell 3 _ rfl, G10.out.cell 4 _ rfl, G10.out.cell 5 _ rfl⟩ (fun hHeld => ?_)
  clear hK K
  refine nr_ ?_
  refine one_ (i := 3) (N := some 44) #[true, true, true, true, false] rfl rfl (by kernel_rfl) (by decide) (fun K hK => ?_)
  obtain ⟨k, hk⟩ := KF.out.f4
  refine goes_ Tryd.func28 (by kernel_rfl) rfl #[.agg #[.int .i64 s0_0, .slice A40 l0_1.length c41, .int .i64 s0_2, .int .i64 s0_3, .slice A43 l0_4.length c44, .int .i64 s0_5], .agg #[.int .i64 s0_0, .slice A65 l0_1.length c66, .int .i64 s0_2, .int .i64 s0_3, .slice A68 l0_4.length c69, .int .i64 s0_5]] (by rfl) rfl rfl ma_ ?_
  with_reducible refine (laws_eqExact.calls k s0_0 A40 c41 l0_1 s0_2 s0_3 A43 c44 l0_4 s0_5 s0_0 A65 c66 l0_1 s0_2 s0_3 A68 c69 l0_4 s0_5 true _ (V42.out.c) (V42.out.le) (V45.out.c) (V45.out.le) (V67.out.c) (V67.out.le) (V70.out.c) (V70.out.le) hk).mono ?_
  rintro x w1 ⟨rfl, hb⟩
  refine ⟨_, rfl, ?_⟩
  replace V31 := Aside0.mk (V31.out.below hb)
  replace V42 := Aside0.mk (V42.out.below hb)
  replace V45 := Aside0.mk (V45.out.below hb)
  replace V56 := Aside0.mk (V56.out.below hb)
  replace V67 := Aside0.mk (V67.out.below hb)
  replace V70 := Aside0.mk (V70.out.below hb)
  replace G10 := Aside0.mk (G10.out.below hb)
  replace G33 := Aside0.mk (G33.out.below hb)
  replace G47 := Aside0.mk (G47.out.below hb)
  replace G58 := Aside0.mk (G58.out.below hb)
  replace L := Aside0.mk (L.out.trans (hb.mono L.out.size))
  clear hb hk
  refine hK.out _ _ ⟨G47.out.cell 0 _ rfl, G47.out.cell 1 _ rfl, G47.out.cell 2 _ rfl, G47.out.cell 3 _ rfl, G47.out.cell 4 _ rfl, G47.out.cell 5 _ rfl, G10.out.cell 0 _ rfl, G10.out.cell 1 _ rfl, G10.out.cell 2 _ rfl, G10.out.cell 3 _ rfl, G10.out.cell 4 _ rfl, G10.out.cell 5 _ rfl⟩ (fun hHeld => ?_)
  clear hK K
  refine nr_ ?_
  refine pu_ #[true, true, true, true, true] 4 45 (by kernel_rfl) ?_
  refine done_ (by kernel_rfl) ?_
  clear V67 V70
  go_upto_region 13 with fail
  have p71 := G47.out.cell 0 _ rfl
  have p72 := G47.out.cell 1 _ rfl
  have p73 := G47.out.cell 2 _ rfl
  have p74 := G47.out.cell 3 _ rfl
  have p75 := G47.out.cell 4 _ rfl
  have p76 := G47.out.cell 5 _ rfl
  go_wp2_with fail
  obtain ⟨k, hk⟩ := KF.out.f5
  refine (laws_markExact.calls k s0_0 (fun q => some q = (.slice A40 l0_1.length c41 : Value).ownBlock) (.slice A40 l0_1.length c41) l0_1 s0_2 s0_3 (fun q => some q = (.slice A43 l0_4.length c44 : Value).ownBlock) (.slice A43 l0_4.length c44) l0_4 s0_5 1 n1 m77 m78 w _ L.out V42.out.row N_V42_V45.out V45.out.row N_V42_V45.out.symm hk).mono ?_
  rintro x w1 ⟨rfl, hr0_, hr1_, hb, hkp⟩
  clear p71 p72 p73 p74 p75 p76
  replace V31 := Aside0.mk (V31.out.kept2 hkp N_V31_V42.out N_V31_V45.out)
  replace V56 := Aside0.mk (V56.out.kept2 hkp N_V42_V56.out.symm N_V45_V56.out.symm)
  replace G10 := Aside0.mk (G10.out.kept2 V42.out V45.out (by decide) hkp)
  replace G33 := Aside0.mk (G33.out.kept2 V42.out V45.out (by decide) hkp)
  replace G47 := Aside0.mk (G47.out.kept2 V42.out V45.out (by decide) hkp)
  replace G58 := Aside0.mk (G58.out.kept2 V42.out V45.out (by decide) hkp)
  replace V42 := Aside0.mk (RO.of (w := w) hr0_ (Nat.le_refl _))
  rw [← KF.out.f7] at V42
  replace V45 := Aside0.mk (RO.of (w := w) hr1_ (Nat.le_refl _))
  rw [← KF.out.f8] at V45
  replace L := Aside0.mk hb
  clear hb hkp hk hr0_ hr1_
  have hn1 := KF.out.f6
  clear G47
  clear V42 V45
  have p79 := G58.out.cell 0 _ rfl
  have p80 := G58.out.cell 1 _ rfl
  have p81 := G58.out.cell 2 _ rfl
  have p82 := G33.out.cell 0 _ rfl
  have p83 := G33.out.cell 1 _ rfl
  have p84 := G33.out.cell 2 _ rfl
  go_wp2_with fail
  obtain ⟨k, hk⟩ := KF.out.f3
  refine (laws_eqDyadic.calls k r1 A54 c55 r2 r3 r1 A29 c30 r2 r3 true _ (V56.out.c) (V56.out.le) (V31.out.c) (V31.out.le) hk).mono ?_
  rintro x w1 ⟨rfl, hb⟩
  clear p79 p80 p81 p82 p83 p84
  replace V31 := Aside0.mk (V31.out.below hb)
  replace V56 := Aside0.mk (V56.out.below hb)
  replace G10 := Aside0.mk (G10.out.below hb)
  replace G33 := Aside0.mk (G33.out.below hb)
  replace G58 := Aside0.mk (G58.out.below hb)
  replace L := Aside0.mk (L.out.trans (hb.mono L.out.size))
  clear hb hk
  have p85 := G58.out.cell 0 _ rfl
  have p86 := G58.out.cell 1 _ rfl
  have p87 := G58.out.cell 2 _ rfl
  go_wp2_with fail
  obtain ⟨k, hk⟩ := KF.out.f9
  refine (laws_markDyadic.calls k r1 (fun q => some q = (.slice A54 r2.length c55 : Value).ownBlock) (.slice A54 r2.length c55) r2 r3 1 n2 m88 w _ L.out V56.out.row hk).mono ?_
  rintro x w1 ⟨rfl, hr0_, hb, hkp⟩
  clear p85 p86 p87
  replace V31 := Aside0.mk (V31.out.kept hkp N_V31_V56.out)
  replace G10 := Aside0.mk (G10.out.kept V56.out (by decide) hkp)
  replace G33 := Aside0.mk (G33.out.kept V56.out (by decide) hkp)
  replace G58 := Aside0.mk (G58.out.kept V56.out (by decide) hkp)
  replace V56 := Aside0.mk (RO.of (w := w) hr0_ (Nat.le_refl _))
  rw [← KF.out.f11] at V56
  replace L := Aside0.mk hb
  clear hb hkp hk hr0_
  have hn2 := KF.out.f10
  have p89 := G58.out.cell 0 _ rfl
  have p90 := G58.out.cell 1 _ rfl
  have p91 := G58.out.cell 2 _ rfl
  go_wp2_with fail
  obtain ⟨k, hk⟩ := KF.out.f12
  have hcon := laws_heldDyadic.calls k r1 A54 c55 m88 r3 1 n2 _ (V56.out.c) (V56.out.le) hk
  rw [KF.out.f11] at hcon
  refine (hcon).mono ?_
  rintro x w1 ⟨rfl, hb⟩
  clear p89 p90 p91
  replace V31 := Aside0.mk (V31.out.below hb)
  replace V56 := Aside0.mk (V56.out.below hb)
  replace G10 := Aside0.mk (G10.out.below hb)
  replace G33 := Aside0.mk (G33.out.below hb)
  replace G58 := Aside0.mk (G58.out.below hb)
  replace L := Aside0.mk (L.out.trans (hb.mono L.out.size))
  clear hb hk
  clear hcon
  have p92 := G10.out.cell 0 _ rfl
  have p93 := G10.out.cell 1 _ rfl
  have p94 := G10.out.cell 2 _ rfl
  have p95 := G10.out.cell 3 _ rfl
  have p96 := G10.out.cell 4 _ rfl
  have p97 := G10.out.cell 5 _ rfl
  go_wp2_with fail
  obtain ⟨k, hk⟩ := KF.out.f0
  refine (laws_toExact.calls k s0_0 A0_1 c0_1 l0_1 s0_2 s0_3 A0_4 c0_4 l0_4 s0_5 s0_0 l0_1 s0_2 s0_3 l0_4 s0_5 _ (Kd.C_below HR0_1.out L.out) (HC0_1.out) (Kd.C_below HR0_4.out L.out) (HC0_4.out) hk).mono ?_
  rintro x w1 ⟨v0_, v1_, rfl, hr0_, hr1_, hb⟩
  clear p92 p93 p94 p95 p96 p97
  obtain ⟨A98, c99, rfl⟩ := Kd.R_slice hr0_
  obtain ⟨A101, c102, rfl⟩ := Kd.R_slice hr1_
  have V100 := Aside0.mk (RO.of (w := w) hr0_ L.out.size)
  have V103 := Aside0.mk (RO.of (w := w) hr1_ L.out.size)
  have N_V31_V100 := Aside0.mk (NeRow.of V31.out.row hr0_)
  have N_V31_V103 := Aside0.mk (NeRow.of V31.out.row hr1_)
  have N_V56_V100 := Aside0.mk (NeRow.of V56.out.row hr0_)
  have N_V56_V103 := Aside0.mk (NeRow.of V56.out.row hr1_)
  have N_V100_V103 := Aside0.mk (NeRow.two hr0_)
  replace V31 := Aside0.mk (V31.out.below hb)
  replace V56 := Aside0.mk (V56.out.below hb)
  replace G10 := Aside0.mk (G10.out.below hb)
  replace G33 := Aside0.mk (G33.out.below hb)
  replace G58 := Aside0.mk (G58.out.below hb)
  replace L := Aside0.mk (L.out.trans (hb.mono L.out.size))
  clear hb hk hr0_ hr1_
  go_wp2_with fail
  refine (impl_SquareOfExact.calls s0_0 A98 c99 l0_1 s0_2 s0_3 A101 c102 l0_4 s0_5 r1 r2 r3 r4 _ (V100.out.c) (V100.out.le) (V103.out.c) (V103.out.le) (HT.out.below L.out) KF.out.f2).mono ?_
  rintro x w1 ⟨v0_, rfl, hr0_, hb⟩
  obtain ⟨A104, c105, rfl⟩ := Kd.R_slice hr0_
  have V106 := Aside0.mk (RO.of (w := w) hr0_ L.out.size)
  have N_V31_V106 := Aside0.mk (NeRow.of V31.out.row hr0_)
  have N_V56_V106 := Aside0.mk (NeRow.of V56.out.row hr0_)
  replace V31 := Aside0.mk (V31.out.below hb)
  replace V56 := Aside0.mk (V56.out.below hb)
  replace V100 := Aside0.mk (V100.out.below hb)
  replace V103 := Aside0.mk (V103.out.below hb)
  replace G10 := Aside0.mk (G10.out.below hb)
  replace G33 := Aside0.mk (G33.out.below hb)
  replace G58 := Aside0.mk (G58.out.below hb)
  replace L := Aside0.mk (L.out.trans (hb.mono L.out.size))
  clear hb hr0_
  clear V100 V103
  go_upto_region 25 with fail
  obtain ⟨w1, g107, e1, e2, hB, hb⟩ := new_box _ #[.int .i64 r1, .slice A104 r2.length c105, .int .i64 r3] 45
  rw [← e1]; try rw [← e2]
  have G108 := Aside0.mk hB
  replace V31 := Aside0.mk (V31.out.below hb)
  replace V56 := Aside0.mk (V56.out.below hb)
  replace V106 := Aside0.mk (V106.out.below hb)
  replace G10 := Aside0.mk (G10.out.below hb)
  replace G33 := Aside0.mk (G33.out.below hb)
  replace G58 := Aside0.mk (G58.out.below hb)
  replace L := Aside0.mk (L.out.trans (hb.mono L.out.size))
  clear hB hb e1 e2
  have p109 := G108.out.cell 0 _ rfl
  have p110 := G108.out.cell 1 _ rfl
  have p111 := G108.out.cell 2 _ rfl
  have p112 := G33.out.cell 0 _ rfl
  have p113 := G33.out.cell 1 _ rfl
  have p114 := G33.out.cell 2 _ rfl
  go_wp2_with fail
  obtain ⟨k, hk⟩ := KF.out.f3
  refine (laws_eqDyadic.calls k r1 A104 c105 r2 r3 r1 A29 c30 r2 r3 true _ (V106.out.c) (V106.out.le) (V31.out.c) (V31.out.le) hk).mono ?_
  rintro x w1 ⟨rfl, hb⟩
  clear p109 p110 p111 p112 p113 p114
  replace V31 := Aside0.mk (V31.out.below hb)
  replace V56 := Aside0.mk (V56.out.below hb)
  replace V106 := Aside0.mk (V106.out.below hb)
  replace G10 := Aside0.mk (G10.out.below hb)
  replace G33 := Aside0.mk (G33.out.below hb)
  replace G58 := Aside0.mk (G58.out.below hb)
  replace G108 := Aside0.mk (G108.out.below hb)
  replace L := Aside0.mk (L.out.trans (hb.mono L.out.size))
  clear hb hk
  clear G108 G33
  clear V106 V31
  have p115 := G58.out.cell 0 _ rfl
  have p116 := G58.out.cell 1 _ rfl
  have p117 := G58.out.cell 2 _ rfl
  go_wp2_with fail
  obtain ⟨k, hk⟩ := KF.out.f12
  have hcon := laws_heldDyadic.calls k r1 A54 c55 m88 r3 1 n2 _ (V56.out.c) (V56.out.le) hk
  rw [KF.out.f11] at hcon
  refine (hcon).mono ?_
  rintro x w1 ⟨rfl, hb⟩
  clear p115 p116 p117
  replace V56 := Aside0.mk (V56.out.below hb)
  replace G10 := Aside0.mk (G10.out.below hb)
  replace G58 := Aside0.mk (G58.out.below hb)
  replace L := Aside0.mk (L.out.trans (hb.mono L.out.size))
  clear hb hk
  clear hcon
  go_wp2
  go_ret
  exact ⟨rfl, L.out⟩
end Go.Proofs.YtghhphndbbefjaaDoor
