/- The law FnExactDivideWholes walked, with its answers known: it answers true. -/
import Derived.Test.YtghhphndbbefjaaDoorLawD
import Derived.Test.YtghhphndbbefjaaDoorBnd10
import Derived.Test.YtghhphndbbefjaaDoorX3
import Derived.Test.YtghhphndbbefjaaDoorG15
import Derived.BigRegion
namespace Go.Proofs.YtghhphndbbefjaaDoor
open Go.RowKit Go.Proofs.YtghhphndbbefjaaDoorW.PrintWords Go.Proofs.YtghhphndbbefjaaDoorW.PrintLast Go.Proofs.YtghhphndbbefjaaDoorW.PrintMore Go.Proofs.YtghhphndbbefjaaDoor.Math Go.Proofs.YtghhphndbbefjaaDoor.Big Go.Proofs.YtghhphndbbefjaaDoor.X Go.Proofs.YtghhphndbbefjaaDoor.Sq
set_option linter.unusedVariables false
set_option linter.unusedSimpArgs false
structure KnownDivideWholes (s0_0 : Int) (l0_1 : List Int) (s1_0 : Int) (l1_1 : List Int) (r1 : Int) (r2 : List Int) (r3 : Int) (r4 : List Int) (r5 : Int) (n1 : Int) (m77 : List Int) (n2 : Int) (m80 : List Int) (n3 : Int) (m91 : List Int) (n4 : Int) (m94 : List Int) : Prop where
 f0 : ∃ k, laws_toWhole.f k s0_0 l0_1 = some (s0_0, l0_1)
 f1 : ∃ k, laws_toWhole.f k s1_0 l1_1 = some (s1_0, l1_1)
 f2 : ∃ k, spec_DivideWholes.f k s0_0 l0_1 s1_0 l1_1 = some (r1, r2, r3, r4, r5)
 f3 : impl_DivideWholes.f s0_0 l0_1 s1_0 l1_1 = some (r1, r2, r3, r4, r5)
 f4 : ∃ k, laws_eqWhole.f k r1 r2 r1 r2 = some true
 f5 : ∃ k, laws_eqWhole.f k r3 r4 r3 r4 = some true
 f6 : ∃ k, laws_eqWhole.f k s0_0 l0_1 s0_0 l0_1 = some true
 f7 : ∃ k, laws_eqWhole.f k s1_0 l1_1 s1_0 l1_1 = some true
 f8 : ∃ k, laws_markWhole.f k s0_0 l0_1 1 = some (n1, m77)
 f9 : 0 ≤ n1
 f10 : m77.length = l0_1.length
 f11 : ∃ k, laws_markWhole.f k s1_0 l1_1 n1 = some (n2, m80)
 f12 : 0 ≤ n2
 f13 : m80.length = l1_1.length
 f14 : ∃ k, laws_markWhole.f k r1 r2 1 = some (n3, m91)
 f15 : 0 ≤ n3
 f16 : m91.length = r2.length
 f17 : ∃ k, laws_markWhole.f k r3 r4 n3 = some (n4, m94)
 f18 : 0 ≤ n4
 f19 : m94.length = r4.length
 f20 : ∃ k, laws_heldWhole.f k r1 m91 1 = some n3
 f21 : ∃ k, laws_heldWhole.f k r3 m94 n3 = some n4
set_option maxRecDepth 100000 in
set_option maxHeartbeats 8000000 in
theorem walk_DivideWholes (s0_0 : Int) (A0_1 : Option Addr) (c0_1 : Nat) (l0_1 : List Int) (s1_0 : Int) (A1_1 : Option Addr) (c1_1 : Nat) (l1_1 : List Int) (r1 : Int) (r2 : List Int) (r3 : Int) (r4 : List Int) (r5 : Int) (n1 : Int) (m77 : List Int) (n2 : Int) (m80 : List Int) (n3 : Int) (m91 : List Int) (n4 : Int) (m94 : List Int) (z0 z1 : Int) (w : World) (hr0_1 : Kd.C (Kd.int .i64) w A0_1 l0_1.length l0_1) (hc0_1 : l0_1.length ≤ c0_1) (hr1_1 : Kd.C (Kd.int .i64) w A1_1 l1_1.length l1_1) (hc1_1 : l1_1.length ≤ c1_1) (hz0 : laws_szWhole.f s0_0 l0_1 1048576 = some z0) (hz1 : 0 ≤ z0 → laws_szWhole.f s1_0 l1_1 z0 = some z1) (hk : 0 ≤ z1 → KnownDivideWholes s0_0 l0_1 s1_0 l1_1 r1 r2 r3 r4 r5 n1 m77 n2 m80 n3 m91 n4 m94) :
  Calls Tryd.prog 3 #[.agg #[.int .i64 s0_0, .slice A0_1 l0_1.length c0_1], .agg #[.int .i64 s1_0, .slice A1_1 l1_1.length c1_1]] w fun x w' => x = .returned (.bool true) ∧ Below w.heap.size w w' := by
 have HR0_1 := am_ hr0_1; have HC0_1 := am_ hc0_1; clear hr0_1 hc0_1
 have HR1_1 := am_ hr1_1; have HC1_1 := am_ hc1_1; clear hr1_1 hc1_1
 have HZ0 := am_ hz0; clear hz0
 by_cases hs : z0 < 0
 ·skip
  go_enter Tryd.func3, Tryd.ntmps3
  go_upto_region 1 with fail
  obtain ⟨w1, g1, e1, e2, hB, hb⟩ := new_box w #[.int .i64 s0_0, .slice A0_1 l0_1.length c0_1] 24
  rw [← e1]; rw [← e2]
  have G2 := am_ hB
  have L := am_ hb
  have z1_ : w1.heap.size = g1 + 1 := by rw [e1, e2]; simp
  clear hB hb e1 e2
  obtain ⟨w1, g3, e1, e2, hB, hb⟩ := new_box w1 #[.int .i64 s1_0, .slice A1_1 l1_1.length c1_1] 24
  rw [← e1]; rw [← z1_]; rw [← e2]
  have G4 := am_ hB
  replace G2 := gb_ G2 hb
  replace L := lb_ L hb
  clear z1_
  clear hB hb e1 e2
  obtain ⟨p5, p6⟩ := cl2_ G2
  go_wp2_with fail
  refine (laws_szWhole.calls s0_0 A0_1 c0_1 l0_1 1048576 z0 _ (Kd.C_below HR0_1.out L.out) (HC0_1.out) HZ0.out).mono ?_
  rintro x w1 ⟨rfl, hb⟩
  clear p5 p6
  replace G2 := gb_ G2 hb
  replace G4 := gb_ G4 hb
  replace L := lb_ L hb
  clear hb
  go_wp2
  go_ret
  exact ⟨rfl, L.out⟩
 ·have HZ1 := am_ (hz1 (by omega)); have hs' : 0 ≤ z0 := by omega
  clear hz1
  by_cases ht : z1 < 0
  ·skip
   go_enter Tryd.func3, Tryd.ntmps3
   go_upto_region 1 with fail
   obtain ⟨w1, g7, e1, e2, hB, hb⟩ := new_box w #[.int .i64 s0_0, .slice A0_1 l0_1.length c0_1] 24
   rw [← e1]; rw [← e2]
   have G8 := am_ hB
   have L := am_ hb
   have z1_ : w1.heap.size = g7 + 1 := by rw [e1, e2]; simp
   clear hB hb e1 e2
   obtain ⟨w1, g9, e1, e2, hB, hb⟩ := new_box w1 #[.int .i64 s1_0, .slice A1_1 l1_1.length c1_1] 24
   rw [← e1]; rw [← z1_]; rw [← e2]
   have G10 := am_ hB
   replace G8 := gb_ G8 hb
   replace L := lb_ L hb
   clear z1_
   clear hB hb e1 e2
   obtain ⟨p11, p12⟩ := cl2_ G8
   go_wp2_with fail
   refine (laws_szWhole.calls s0_0 A0_1 c0_1 l0_1 1048576 z0 _ (Kd.C_below HR0_1.out L.out) (HC0_1.out) HZ0.out).mono ?_
   rintro x w1 ⟨rfl, hb⟩
   clear p11 p12
   replace G8 := gb_ G8 hb
   replace G10 := gb_ G10 hb
   replace L := lb_ L hb
   clear hb
   obtain ⟨p13, p14⟩ := cl2_ G10
   go_wp2_with fail
   refine (laws_szWhole.calls s1_0 A1_1 c1_1 l1_1 z0 z1 _ (Kd.C_below HR1_1.out L.out) (HC1_1.out) HZ1.out).mono ?_
   rintro x w1 ⟨rfl, hb⟩
   clear p13 p14
   replace G8 := gb_ G8 hb
   replace G10 := gb_ G10 hb
   replace L := lb_ L hb
   clear hb
   go_wp2
   go_ret
   exact ⟨rfl, L.out⟩
  ·have KF := am_ (hk (by omega)); have ht' : 0 ≤ z1 := by omega
   clear hk
   go_enter Tryd.func3, Tryd.ntmps3
   go_upto_region 1 with fail
   obtain ⟨w1, g15, e1, e2, hB, hb⟩ := new_box w #[.int .i64 s0_0, .slice A0_1 l0_1.length c0_1] 24
   rw [← e1]; rw [← e2]
   have G16 := am_ hB
   have L := am_ hb
   have z1_ : w1.heap.size = g15 + 1 := by rw [e1, e2]; simp
   clear hB hb e1 e2
   obtain ⟨w1, g17, e1, e2, hB, hb⟩ := new_box w1 #[.int .i64 s1_0, .slice A1_1 l1_1.length c1_1] 24
   rw [← e1]; rw [← z1_]; rw [← e2]
   have G18 := am_ hB
   replace G16 := gb_ G16 hb
   replace L := lb_ L hb
   clear z1_
   clear hB hb e1 e2
   obtain ⟨p19, p20⟩ := cl2_ G16
   go_wp2_with fail
   refine (laws_szWhole.calls s0_0 A0_1 c0_1 l0_1 1048576 z0 _ (Kd.C_below HR0_1.out L.out) (HC0_1.out) HZ0.out).mono ?_
   rintro x w1 ⟨rfl, hb⟩
   clear p19 p20
   replace G16 := gb_ G16 hb
   replace G18 := gb_ G18 hb
   replace L := lb_ L hb
   clear hb
   obtain ⟨p21, p22⟩ := cl2_ G18
   go_wp2_with fail
   refine (laws_szWhole.calls s1_0 A1_1 c1_1 l1_1 z0 z1 _ (Kd.C_below HR1_1.out L.out) (HC1_1.out) HZ1.out).mono ?_
   rintro x w1 ⟨rfl, hb⟩
   clear p21 p22
   replace G16 := gb_ G16 hb
   replace G18 := gb_ G18 hb
   replace L := lb_ L hb
   clear hb
   go_upto_region 8 with fail
   refine start_ (n := 14) (S := fun w' => w'.cell? ⟨g15, 0, none⟩ = some (.int .i64 s0_0) ∧ w'.cell? ⟨g15, 1, none⟩ = some (.slice A0_1 l0_1.length c0_1) ∧ w'.cell? ⟨g17, 0, none⟩ = some (.int .i64 s1_0) ∧ w'.cell? ⟨g17, 1, none⟩ = some (.slice A1_1 l1_1.length c1_1)) (ds := [11, 12]) #[false, false, false, false, false, false, false, false, false, false, false, false, false, false] (by kernel_rfl) rfl rfl (two2_ (dw_ G16) (dw_ G18)) (fun hHeld => ?_)
   have hb := (Below.refl w1.heap.size w1).drew; generalize w1.drew = w1 at hHeld hb ⊢
   replace G16 := gb_ G16 hb
   replace G18 := gb_ G18 hb
   replace L := lb_ L hb
   clear hb
   refine tk_ #[true, false, false, false, false, false, false, false, false, false, false, false, false, false] 0 31 (by kernel_rfl) hHeld ?_
   refine tk_ #[true, false, true, false, false, false, false, false, false, false, false, false, false, false] 2 33 (by kernel_rfl) hHeld ?_
   refine join_ (σ := Value × Value × Value × Value × Nat × Nat) 3 #[true, true, true, true, true, true, true, true, true, true, true, false, false, false] (fun s => [(32, .agg #[.int .i64 s0_0, s.1]), (34, .agg #[.int .i64 s1_0, s.2.1]), (35, .tuple #[.agg #[.int .i64 r1, s.2.2.1], .agg #[.int .i64 r3, s.2.2.2.1], .int .i64 r5]), (30, .tuple #[.agg #[.int .i64 r1, s.2.2.1], .agg #[.int .i64 r3, s.2.2.2.1], .int .i64 r5]), (36, .agg #[.int .i64 r1, s.2.2.1]), (37, .agg #[.int .i64 r3, s.2.2.2.1]), (38, .int .i64 r5), (6, .pointer (some ⟨s.2.2.2.2.1, 0, none⟩)), (7, .pointer (some ⟨s.2.2.2.2.2, 0, none⟩))]) (fun s w' => (w'.cell? ⟨g15, 0, none⟩ = some (.int .i64 s0_0) ∧ w'.cell? ⟨g15, 1, none⟩ = some (.slice A0_1 l0_1.length c0_1) ∧ w'.cell? ⟨g17, 0, none⟩ = some (.int .i64 s1_0) ∧ w'.cell? ⟨g17, 1, none⟩ = some (.slice A1_1 l1_1.length c1_1)) ∧ BX w' g15 #[.int .i64 s0_0, .slice A0_1 l0_1.length c0_1] 24 ∧ BX w' g17 #[.int .i64 s1_0, .slice A1_1 l1_1.length c1_1] 24 ∧ Below w.heap.size w w' ∧ RO w w' s.2.2.1 r2 ∧ RO w w' s.2.2.2.1 r4 ∧ BX w' s.2.2.2.2.1 #[.int .i64 0, .slice none 0 0] 26 ∧ w.heap.size ≤ s.2.2.2.2.1 ∧ g15 ≠ s.2.2.2.2.1 ∧ g17 ≠ s.2.2.2.2.1 ∧ BX w' s.2.2.2.2.2 #[.int .i64 0, .slice none 0 0] 26 ∧ w.heap.size ≤ s.2.2.2.2.2 ∧ g15 ≠ s.2.2.2.2.2 ∧ g17 ≠ s.2.2.2.2.2 ∧ s.2.2.2.2.1 ≠ s.2.2.2.2.2) ?cont (fun hJ => ?_)
   case cont =>
    rintro ⟨t0_0, t1_0, u0_0, u1_0, y0, y1⟩ w1 ⟨hHeld, h0_, h1_, h2_, h3_, h4_, h5_, h6_, h7_, h8_, h9_, h10_, h11_, h12_, h13_⟩
    try dsimp only at hHeld h0_ h1_ h2_ h3_ h4_ h5_ h6_ h7_ h8_ h9_ h10_ h11_ h12_ h13_
    have G16 := am_ h0_; have G18 := am_ h1_; have L := am_ h2_; have Uu0_0 := am_ h3_; have Uu1_0 := am_ h4_; have By0 := am_ h5_; have Ey0 := am_ h6_; have DG16_y0 := am_ h7_; have DG18_y0 := am_ h8_; have By1 := am_ h9_; have Ey1 := am_ h10_; have DG16_y1 := am_ h11_; have DG18_y1 := am_ h12_; have Dyy := am_ h13_
    clear h0_ h1_ h2_ h3_ h4_ h5_ h6_ h7_ h8_ h9_ h10_ h11_ h12_ h13_
    obtain ⟨A23, c24, rfl⟩ := Kd.R_slice Uu0_0.out.row
    obtain ⟨A25, c26, rfl⟩ := Kd.R_slice Uu1_0.out.row
    refine norm_ (a' := ?_) ?_ ?_
    rotate_left
    ·simp only [putAll, Act.put, List.setIfInBounds_toArray, List.set_cons_zero, List.set_cons_succ]
     rfl
    refine last_ (i := 11) (N := none) #[true, true, true, true, true, true, true, true, true, true, true, true, false, false] rfl rfl (by kernel_rfl) (by decide) (fun K hK => ?_)
    obtain ⟨q0, q1, q2, q3⟩ := ck2_ (am_ By0.out.x)
    refine skip_ (w1 := ?_) (by rfl) rfl ?_ ?_
    rotate_left
    ·go_simp
     rfl
    refine hK.out _ _ ?_
    clear hK K q0 q1 q2 q3
    obtain ⟨w1, e1, hB, hst⟩ := store2 By0.out (.int .i64 r1) (.slice A23 r2.length c24)
    rw [← e1]; clear e1
    replace G16 := am_ (G16.out.stp hst DG16_y0.out)
    replace G18 := am_ (G18.out.stp hst DG18_y0.out)
    replace Uu0_0 := am_ (Uu0_0.out.stp hst By0.out (by decide))
    replace Uu1_0 := am_ (Uu1_0.out.stp hst By0.out (by decide))
    replace By1 := am_ (By1.out.stp hst Dyy.out.symm)
    replace L := am_ (hst.low L.out Ey0.out); replace By0 := am_ hB; clear hB hst
    refine last_ (i := 12) (N := none) #[true, true, true, true, true, true, true, true, true, true, true, true, true, false] rfl rfl (by kernel_rfl) (by decide) (fun K hK => ?_)
    obtain ⟨q0, q1, q2, q3⟩ := ck2_ (am_ By1.out.x)
    refine skip_ (w1 := ?_) (by rfl) rfl ?_ ?_
    rotate_left
    ·go_simp
     rfl
    refine hK.out _ _ ?_
    clear hK K q0 q1 q2 q3
    obtain ⟨w1, e1, hB, hst⟩ := store2 By1.out (.int .i64 r3) (.slice A25 r4.length c26)
    rw [← e1]; clear e1
    replace G16 := am_ (G16.out.stp hst DG16_y1.out)
    replace G18 := am_ (G18.out.stp hst DG18_y1.out)
    replace Uu0_0 := am_ (Uu0_0.out.stp hst By1.out (by decide))
    replace Uu1_0 := am_ (Uu1_0.out.stp hst By1.out (by decide))
    replace By0 := am_ (By0.out.stp hst Dyy.out)
    replace L := am_ (hst.low L.out Ey1.out); replace By1 := am_ hB; clear hB hst
    refine pu_ #[true, true, true, true, true, true, true, true, true, true, true, true, true, true] 13 8 (by kernel_rfl) ?_
    refine done_ (by kernel_rfl) ?_
    clear hHeld Ey0 DG16_y0 DG18_y0 Ey1 DG16_y1 DG18_y1 Dyy
    obtain ⟨g28, eg⟩ : ∃ x, x = y0 := ⟨_, rfl⟩
    rw [← eg] at By0 ⊢; clear eg
    have G27 := By0; clear By0
    have V29 := Uu0_0; clear Uu0_0
    obtain ⟨g31, eg⟩ : ∃ x, x = y1 := ⟨_, rfl⟩
    rw [← eg] at By1 ⊢; clear eg
    have G30 := By1; clear By1
    have V32 := Uu1_0; clear Uu1_0
    obtain ⟨p33, p34⟩ := cl2_ G16
    go_wp2_with fail
    obtain ⟨k, hk⟩ := KF.out.f0
    refine (laws_toWhole.calls k s0_0 A0_1 c0_1 l0_1 s0_0 l0_1 _ (Kd.C_below HR0_1.out L.out) (HC0_1.out) hk).mono ?_
    rintro x w1 ⟨v0_, rfl, hr0_, hb⟩
    clear p33 p34
    obtain ⟨A35, c36, rfl⟩ := Kd.R_slice hr0_
    have V37 := am_ (RO.of (w := w) hr0_ L.out.size)
    have N_V29_V37 := no_ V29 hr0_
    have N_V32_V37 := no_ V32 hr0_
    replace V29 := vb_ V29 hb
    replace V32 := vb_ V32 hb
    replace G16 := gb_ G16 hb
    replace G18 := gb_ G18 hb
    replace G27 := gb_ G27 hb
    replace G30 := gb_ G30 hb
    replace L := lb_ L hb
    clear hb hk hr0_
    go_upto_region 10 with fail
    obtain ⟨w1, g38, e1, e2, hB, hb⟩ := new_box _ #[.int .i64 s0_0, .slice A35 l0_1.length c36] 26
    rw [← e1]; try rw [← e2]
    have G39 := am_ hB
    replace V29 := vb_ V29 hb
    replace V32 := vb_ V32 hb
    replace V37 := vb_ V37 hb
    replace G16 := gb_ G16 hb
    replace G18 := gb_ G18 hb
    replace G27 := gb_ G27 hb
    replace G30 := gb_ G30 hb
    replace L := lb_ L hb
    clear hB hb e1 e2
    obtain ⟨p40, p41⟩ := cl2_ G18
    go_wp2_with fail
    obtain ⟨k, hk⟩ := KF.out.f1
    refine (laws_toWhole.calls k s1_0 A1_1 c1_1 l1_1 s1_0 l1_1 _ (Kd.C_below HR1_1.out L.out) (HC1_1.out) hk).mono ?_
    rintro x w1 ⟨v0_, rfl, hr0_, hb⟩
    clear p40 p41
    obtain ⟨A42, c43, rfl⟩ := Kd.R_slice hr0_
    have V44 := am_ (RO.of (w := w) hr0_ L.out.size)
    have N_V29_V44 := no_ V29 hr0_
    have N_V32_V44 := no_ V32 hr0_
    have N_V37_V44 := no_ V37 hr0_
    replace V29 := vb_ V29 hb
    replace V32 := vb_ V32 hb
    replace V37 := vb_ V37 hb
    replace G16 := gb_ G16 hb
    replace G18 := gb_ G18 hb
    replace G27 := gb_ G27 hb
    replace G30 := gb_ G30 hb
    replace G39 := gb_ G39 hb
    replace L := lb_ L hb
    clear hb hk hr0_
    go_upto_region 11 with fail
    obtain ⟨w1, g45, e1, e2, hB, hb⟩ := new_box _ #[.int .i64 s1_0, .slice A42 l1_1.length c43] 26
    rw [← e1]; try rw [← e2]
    have G46 := am_ hB
    replace V29 := vb_ V29 hb
    replace V32 := vb_ V32 hb
    replace V37 := vb_ V37 hb
    replace V44 := vb_ V44 hb
    replace G16 := gb_ G16 hb
    replace G18 := gb_ G18 hb
    replace G27 := gb_ G27 hb
    replace G30 := gb_ G30 hb
    replace G39 := gb_ G39 hb
    replace L := lb_ L hb
    clear hB hb e1 e2
    obtain ⟨p47, p48⟩ := cl2_ G39
    obtain ⟨p49, p50⟩ := cl2_ G46
    go_wp2_with fail
    refine (impl_DivideWholes.calls s0_0 A35 c36 l0_1 s1_0 A42 c43 l1_1 r1 r2 r3 r4 r5 _ (V37.out.c) (V37.out.le) (V44.out.c) (V44.out.le) KF.out.f3).mono ?_
    rintro x w1 ⟨v0_, v1_, rfl, hr0_, hr1_, hb⟩
    clear p47 p48 p49 p50
    obtain ⟨A51, c52, rfl⟩ := Kd.R_slice hr0_
    obtain ⟨A54, c55, rfl⟩ := Kd.R_slice hr1_
    have V53 := am_ (RO.of (w := w) hr0_ L.out.size)
    have V56 := am_ (RO.of (w := w) hr1_ L.out.size)
    have N_V29_V53 := no_ V29 hr0_
    have N_V29_V56 := no_ V29 hr1_
    have N_V32_V53 := no_ V32 hr0_
    have N_V32_V56 := no_ V32 hr1_
    have N_V37_V53 := no_ V37 hr0_
    have N_V37_V56 := no_ V37 hr1_
    have N_V44_V53 := no_ V44 hr0_
    have N_V44_V56 := no_ V44 hr1_
    have N_V53_V56 := am_ (NeRow.two hr0_)
    replace V29 := vb_ V29 hb
    replace V32 := vb_ V32 hb
    replace V37 := vb_ V37 hb
    replace V44 := vb_ V44 hb
    replace G16 := gb_ G16 hb
    replace G18 := gb_ G18 hb
    replace G27 := gb_ G27 hb
    replace G30 := gb_ G30 hb
    replace G39 := gb_ G39 hb
    replace G46 := gb_ G46 hb
    replace L := lb_ L hb
    clear hb hr0_ hr1_
    go_upto_region 12 with fail
    obtain ⟨w1, g57, e1, e2, hB, hb⟩ := new_box _ #[.int .i64 r1, .slice A51 r2.length c52] 26
    rw [← e1]; try rw [← e2]
    have G58 := am_ hB
    have z1_ : w1.heap.size = g57 + 1 := by rw [e1, e2]; simp
    replace V29 := vb_ V29 hb
    replace V32 := vb_ V32 hb
    replace V37 := vb_ V37 hb
    replace V44 := vb_ V44 hb
    replace V53 := vb_ V53 hb
    replace V56 := vb_ V56 hb
    replace G16 := gb_ G16 hb
    replace G18 := gb_ G18 hb
    replace G27 := gb_ G27 hb
    replace G30 := gb_ G30 hb
    replace G39 := gb_ G39 hb
    replace G46 := gb_ G46 hb
    replace L := lb_ L hb
    clear hB hb e1 e2
    obtain ⟨w1, g59, e1, e2, hB, hb⟩ := new_box w1 #[.int .i64 r3, .slice A54 r4.length c55] 26
    rw [← e1]; rw [← z1_]; rw [← e2]
    have G60 := am_ hB
    replace V29 := vb_ V29 hb
    replace V32 := vb_ V32 hb
    replace V37 := vb_ V37 hb
    replace V44 := vb_ V44 hb
    replace V53 := vb_ V53 hb
    replace V56 := vb_ V56 hb
    replace G16 := gb_ G16 hb
    replace G18 := gb_ G18 hb
    replace G27 := gb_ G27 hb
    replace G30 := gb_ G30 hb
    replace G39 := gb_ G39 hb
    replace G46 := gb_ G46 hb
    replace G58 := gb_ G58 hb
    replace L := lb_ L hb
    clear z1_
    clear hB hb e1 e2
    obtain ⟨p61, p62⟩ := cl2_ G58
    obtain ⟨p63, p64⟩ := cl2_ G27
    go_wp2_with fail
    obtain ⟨k, hk⟩ := KF.out.f4
    refine (laws_eqWhole.calls k r1 A51 c52 r2 r1 A23 c24 r2 true _ (V53.out.c) (V53.out.le) (V29.out.c) (V29.out.le) hk).mono ?_
    rintro x w1 ⟨rfl, hb⟩
    clear p61 p62 p63 p64
    replace V29 := vb_ V29 hb
    replace V32 := vb_ V32 hb
    replace V37 := vb_ V37 hb
    replace V44 := vb_ V44 hb
    replace V53 := vb_ V53 hb
    replace V56 := vb_ V56 hb
    replace G16 := gb_ G16 hb
    replace G18 := gb_ G18 hb
    replace G27 := gb_ G27 hb
    replace G30 := gb_ G30 hb
    replace G39 := gb_ G39 hb
    replace G46 := gb_ G46 hb
    replace G58 := gb_ G58 hb
    replace G60 := gb_ G60 hb
    replace L := lb_ L hb
    clear hb hk
    obtain ⟨p65, p66⟩ := cl2_ G60
    obtain ⟨p67, p68⟩ := cl2_ G30
    go_wp2_with fail
    obtain ⟨k, hk⟩ := KF.out.f5
    refine (laws_eqWhole.calls k r3 A54 c55 r4 r3 A25 c26 r4 true _ (V56.out.c) (V56.out.le) (V32.out.c) (V32.out.le) hk).mono ?_
    rintro x w1 ⟨rfl, hb⟩
    clear p65 p66 p67 p68
    replace V29 := vb_ V29 hb
    replace V32 := vb_ V32 hb
    replace V37 := vb_ V37 hb
    replace V44 := vb_ V44 hb
    replace V53 := vb_ V53 hb
    replace V56 := vb_ V56 hb
    replace G16 := gb_ G16 hb
    replace G18 := gb_ G18 hb
    replace G27 := gb_ G27 hb
    replace G30 := gb_ G30 hb
    replace G39 := gb_ G39 hb
    replace G46 := gb_ G46 hb
    replace G58 := gb_ G58 hb
    replace G60 := gb_ G60 hb
    replace L := lb_ L hb
    clear hb hk
    go_upto_region 14 with fail
    refine start_ (n := 5) (S := fun w' => w'.cell? ⟨g38, 0, none⟩ = some (.int .i64 s0_0) ∧ w'.cell? ⟨g38, 1, none⟩ = some (.slice A35 l0_1.length c36) ∧ w'.cell? ⟨g15, 0, none⟩ = some (.int .i64 s0_0) ∧ w'.cell? ⟨g15, 1, none⟩ = some (.slice A0_1 l0_1.length c0_1)) (ds := []) #[false, false, false, false, false] (by kernel_rfl) rfl rfl (two2_ (dw_ G39) (dw_ G16)) (fun hHeld => ?_)
    have Dw2 := am_ ((Below.refl w1.heap.size w1).drew)
    generalize w1.drew = w2 at hHeld Dw2 ⊢
    refine tk_ #[true, false, false, false, false] 0 65 (by kernel_rfl) hHeld ?_
    refine tk_ #[true, true, false, false, false] 1 66 (by kernel_rfl) hHeld ?_
    refine one_ (i := 2) (N := some 67) #[true, true, true, false, false] rfl rfl (by kernel_rfl) (by decide) (fun K hK => ?_)
    replace V29 := am_ (V29.out.below Dw2.out)
    replace V32 := am_ (V32.out.below Dw2.out)
    replace V37 := am_ (V37.out.below Dw2.out)
    replace V44 := am_ (V44.out.below Dw2.out)
    replace V53 := am_ (V53.out.below Dw2.out)
    replace V56 := am_ (V56.out.below Dw2.out)
    replace G16 := am_ (G16.out.below Dw2.out)
    replace G18 := am_ (G18.out.below Dw2.out)
    replace G27 := am_ (G27.out.below Dw2.out)
    replace G30 := am_ (G30.out.below Dw2.out)
    replace G39 := am_ (G39.out.below Dw2.out)
    replace G46 := am_ (G46.out.below Dw2.out)
    replace G58 := am_ (G58.out.below Dw2.out)
    replace G60 := am_ (G60.out.below Dw2.out)
    replace L := am_ (L.out.trans (Dw2.out.mono L.out.size))
    obtain ⟨k, hk⟩ := KF.out.f0
    refine goes_ Tryd.func13 (by kernel_rfl) rfl #[.agg #[.int .i64 s0_0, .slice A0_1 l0_1.length c0_1]] (by rfl) rfl rfl ma_ ?_
    with_reducible refine (laws_toWhole.calls k s0_0 A0_1 c0_1 l0_1 s0_0 l0_1 _ (Kd.C_below HR0_1.out L.out) (HC0_1.out) hk).mono ?_
    rintro x w1 ⟨v0_, rfl, hr0_, hb⟩
    refine ⟨_, rfl, ?_⟩
    obtain ⟨A69, c70, rfl⟩ := Kd.R_slice hr0_
    have V71 := am_ (RO.of (w := w) hr0_ L.out.size)
    have N_V29_V71 := no_ V29 hr0_
    have N_V32_V71 := no_ V32 hr0_
    have N_V37_V71 := no_ V37 hr0_
    have N_V44_V71 := no_ V44 hr0_
    have N_V53_V71 := no_ V53 hr0_
    have N_V56_V71 := no_ V56 hr0_
    replace V29 := vb_ V29 hb
    replace V32 := vb_ V32 hb
    replace V37 := vb_ V37 hb
    replace V44 := vb_ V44 hb
    replace V53 := vb_ V53 hb
    replace V56 := vb_ V56 hb
    replace G16 := gb_ G16 hb
    replace G18 := gb_ G18 hb
    replace G27 := gb_ G27 hb
    replace G30 := gb_ G30 hb
    replace G39 := gb_ G39 hb
    replace G46 := gb_ G46 hb
    replace G58 := gb_ G58 hb
    replace G60 := gb_ G60 hb
    replace L := lb_ L hb
    clear hb hk hr0_
    refine hK.out _ _ (two2_ G39 G16) (fun hHeld => ?_)
    clear hK K
    refine nr_ ?_
    refine one_ (i := 3) (N := some 68) #[true, true, true, true, false] rfl rfl (by kernel_rfl) (by decide) (fun K hK => ?_)
    obtain ⟨k, hk⟩ := KF.out.f6
    refine goes_ Tryd.func15 (by kernel_rfl) rfl #[.agg #[.int .i64 s0_0, .slice A35 l0_1.length c36], .agg #[.int .i64 s0_0, .slice A69 l0_1.length c70]] (by rfl) rfl rfl ma_ ?_
    with_reducible refine (laws_eqWhole.calls k s0_0 A35 c36 l0_1 s0_0 A69 c70 l0_1 true _ (V37.out.c) (V37.out.le) (V71.out.c) (V71.out.le) hk).mono ?_
    rintro x w1 ⟨rfl, hb⟩
    refine ⟨_, rfl, ?_⟩
    replace V29 := vb_ V29 hb
    replace V32 := vb_ V32 hb
    replace V37 := vb_ V37 hb
    replace V44 := vb_ V44 hb
    replace V53 := vb_ V53 hb
    replace V56 := vb_ V56 hb
    replace V71 := vb_ V71 hb
    replace G16 := gb_ G16 hb
    replace G18 := gb_ G18 hb
    replace G27 := gb_ G27 hb
    replace G30 := gb_ G30 hb
    replace G39 := gb_ G39 hb
    replace G46 := gb_ G46 hb
    replace G58 := gb_ G58 hb
    replace G60 := gb_ G60 hb
    replace L := lb_ L hb
    clear hb hk
    refine hK.out _ _ (two2_ G39 G16) (fun hHeld => ?_)
    clear hK K
    refine nr_ ?_
    refine pu_ #[true, true, true, true, true] 4 69 (by kernel_rfl) ?_
    refine done_ (by kernel_rfl) ?_
    clear V71
    go_upto_region 16 with fail
    refine start_ (n := 5) (S := fun w' => w'.cell? ⟨g45, 0, none⟩ = some (.int .i64 s1_0) ∧ w'.cell? ⟨g45, 1, none⟩ = some (.slice A42 l1_1.length c43) ∧ w'.cell? ⟨g17, 0, none⟩ = some (.int .i64 s1_0) ∧ w'.cell? ⟨g17, 1, none⟩ = some (.slice A1_1 l1_1.length c1_1)) (ds := []) #[false, false, false, false, false] (by kernel_rfl) rfl rfl (two2_ (dw_ G46) (dw_ G18)) (fun hHeld => ?_)
    have Dw2 := am_ ((Below.refl w1.heap.size w1).drew)
    generalize w1.drew = w2 at hHeld Dw2 ⊢
    refine tk_ #[true, false, false, false, false] 0 70 (by kernel_rfl) hHeld ?_
    refine tk_ #[true, true, false, false, false] 1 71 (by kernel_rfl) hHeld ?_
    refine one_ (i := 2) (N := some 72) #[true, true, true, false, false] rfl rfl (by kernel_rfl) (by decide) (fun K hK => ?_)
    replace V29 := am_ (V29.out.below Dw2.out)
    replace V32 := am_ (V32.out.below Dw2.out)
    replace V37 := am_ (V37.out.below Dw2.out)
    replace V44 := am_ (V44.out.below Dw2.out)
    replace V53 := am_ (V53.out.below Dw2.out)
    replace V56 := am_ (V56.out.below Dw2.out)
    replace G16 := am_ (G16.out.below Dw2.out)
    replace G18 := am_ (G18.out.below Dw2.out)
    replace G27 := am_ (G27.out.below Dw2.out)
    replace G30 := am_ (G30.out.below Dw2.out)
    replace G39 := am_ (G39.out.below Dw2.out)
    replace G46 := am_ (G46.out.below Dw2.out)
    replace G58 := am_ (G58.out.below Dw2.out)
    replace G60 := am_ (G60.out.below Dw2.out)
    replace L := am_ (L.out.trans (Dw2.out.mono L.out.size))
    obtain ⟨k, hk⟩ := KF.out.f1
    refine goes_ Tryd.func13 (by kernel_rfl) rfl #[.agg #[.int .i64 s1_0, .slice A1_1 l1_1.length c1_1]] (by rfl) rfl rfl ma_ ?_
    with_reducible refine (laws_toWhole.calls k s1_0 A1_1 c1_1 l1_1 s1_0 l1_1 _ (Kd.C_below HR1_1.out L.out) (HC1_1.out) hk).mono ?_
    rintro x w1 ⟨v0_, rfl, hr0_, hb⟩
    refine ⟨_, rfl, ?_⟩
    obtain ⟨A72, c73, rfl⟩ := Kd.R_slice hr0_
    have V74 := am_ (RO.of (w := w) hr0_ L.out.size)
    have N_V29_V74 := no_ V29 hr0_
    have N_V32_V74 := no_ V32 hr0_
    have N_V37_V74 := no_ V37 hr0_
    have N_V44_V74 := no_ V44 hr0_
    have N_V53_V74 := no_ V53 hr0_
    have N_V56_V74 := no_ V56 hr0_
    replace V29 := vb_ V29 hb
    replace V32 := vb_ V32 hb
    replace V37 := vb_ V37 hb
    replace V44 := vb_ V44 hb
    replace V53 := vb_ V53 hb
    replace V56 := vb_ V56 hb
    replace G16 := gb_ G16 hb
    replace G18 := gb_ G18 hb
    replace G27 := gb_ G27 hb
    replace G30 := gb_ G30 hb
    replace G39 := gb_ G39 hb
    replace G46 := gb_ G46 hb
    replace G58 := gb_ G58 hb
    replace G60 := gb_ G60 hb
    replace L := lb_ L hb
    clear hb hk hr0_
    refine hK.out _ _ (two2_ G46 G18) (fun hHeld => ?_)
    clear hK K
    refine nr_ ?_
    refine one_ (i := 3) (N := some 73) #[true, true, true, true, false] rfl rfl (by kernel_rfl) (by decide) (fun K hK => ?_)
    obtain ⟨k, hk⟩ := KF.out.f7
    refine goes_ Tryd.func15 (by kernel_rfl) rfl #[.agg #[.int .i64 s1_0, .slice A42 l1_1.length c43], .agg #[.int .i64 s1_0, .slice A72 l1_1.length c73]] (by rfl) rfl rfl ma_ ?_
    with_reducible refine (laws_eqWhole.calls k s1_0 A42 c43 l1_1 s1_0 A72 c73 l1_1 true _ (V44.out.c) (V44.out.le) (V74.out.c) (V74.out.le) hk).mono ?_
    rintro x w1 ⟨rfl, hb⟩
    refine ⟨_, rfl, ?_⟩
    replace V29 := vb_ V29 hb
    replace V32 := vb_ V32 hb
    replace V37 := vb_ V37 hb
    replace V44 := vb_ V44 hb
    replace V53 := vb_ V53 hb
    replace V56 := vb_ V56 hb
    replace V74 := vb_ V74 hb
    replace G16 := gb_ G16 hb
    replace G18 := gb_ G18 hb
    replace G27 := gb_ G27 hb
    replace G30 := gb_ G30 hb
    replace G39 := gb_ G39 hb
    replace G46 := gb_ G46 hb
    replace G58 := gb_ G58 hb
    replace G60 := gb_ G60 hb
    replace L := lb_ L hb
    clear hb hk
    refine hK.out _ _ (two2_ G46 G18) (fun hHeld => ?_)
    clear hK K
    refine nr_ ?_
    refine pu_ #[true, true, true, true, true] 4 74 (by kernel_rfl) ?_
    refine done_ (by kernel_rfl) ?_
    clear V74
    go_upto_region 19 with fail
    obtain ⟨p75, p76⟩ := cl2_ G39
    go_wp2_with fail
    obtain ⟨k, hk⟩ := KF.out.f8
    refine (laws_markWhole.calls k s0_0 (fun q => some q = (.slice A35 l0_1.length c36 : Value).ownBlock) (.slice A35 l0_1.length c36) l0_1 1 n1 m77 w _ L.out V37.out.row hk).mono ?_
    rintro x w1 ⟨rfl, hr0_, hb, hkp⟩
    clear p75 p76
    replace V29 := am_ (V29.out.kept hkp N_V29_V37.out)
    replace V32 := am_ (V32.out.kept hkp N_V32_V37.out)
    replace V44 := am_ (V44.out.kept hkp N_V37_V44.out.symm)
    replace V53 := am_ (V53.out.kept hkp N_V37_V53.out.symm)
    replace V56 := am_ (V56.out.kept hkp N_V37_V56.out.symm)
    replace G16 := am_ (G16.out.kept V37.out (by decide) hkp)
    replace G18 := am_ (G18.out.kept V37.out (by decide) hkp)
    replace G27 := am_ (G27.out.kept V37.out (by decide) hkp)
    replace G30 := am_ (G30.out.kept V37.out (by decide) hkp)
    replace G39 := am_ (G39.out.kept V37.out (by decide) hkp)
    replace G46 := am_ (G46.out.kept V37.out (by decide) hkp)
    replace G58 := am_ (G58.out.kept V37.out (by decide) hkp)
    replace G60 := am_ (G60.out.kept V37.out (by decide) hkp)
    replace V37 := am_ (RO.of (w := w) hr0_ (Nat.le_refl _))
    replace L := am_ hb
    clear hb hkp hk hr0_
    have hn1 := KF.out.f9
    clear G39
    clear V37
    obtain ⟨p78, p79⟩ := cl2_ G46
    go_wp2_with fail
    obtain ⟨k, hk⟩ := KF.out.f11
    refine (laws_markWhole.calls k s1_0 (fun q => some q = (.slice A42 l1_1.length c43 : Value).ownBlock) (.slice A42 l1_1.length c43) l1_1 n1 n2 m80 w _ L.out V44.out.row hk).mono ?_
    rintro x w1 ⟨rfl, hr0_, hb, hkp⟩
    clear p78 p79
    replace V29 := am_ (V29.out.kept hkp N_V29_V44.out)
    replace V32 := am_ (V32.out.kept hkp N_V32_V44.out)
    replace V53 := am_ (V53.out.kept hkp N_V44_V53.out.symm)
    replace V56 := am_ (V56.out.kept hkp N_V44_V56.out.symm)
    replace G16 := am_ (G16.out.kept V44.out (by decide) hkp)
    replace G18 := am_ (G18.out.kept V44.out (by decide) hkp)
    replace G27 := am_ (G27.out.kept V44.out (by decide) hkp)
    replace G30 := am_ (G30.out.kept V44.out (by decide) hkp)
    replace G46 := am_ (G46.out.kept V44.out (by decide) hkp)
    replace G58 := am_ (G58.out.kept V44.out (by decide) hkp)
    replace G60 := am_ (G60.out.kept V44.out (by decide) hkp)
    replace V44 := am_ (RO.of (w := w) hr0_ (Nat.le_refl _))
    replace L := am_ hb
    clear hb hkp hk hr0_
    have hn2 := KF.out.f12
    clear G46
    clear V44
    obtain ⟨p81, p82⟩ := cl2_ G58
    obtain ⟨p83, p84⟩ := cl2_ G27
    go_wp2_with fail
    obtain ⟨k, hk⟩ := KF.out.f4
    refine (laws_eqWhole.calls k r1 A51 c52 r2 r1 A23 c24 r2 true _ (V53.out.c) (V53.out.le) (V29.out.c) (V29.out.le) hk).mono ?_
    rintro x w1 ⟨rfl, hb⟩
    clear p81 p82 p83 p84
    replace V29 := vb_ V29 hb
    replace V32 := vb_ V32 hb
    replace V53 := vb_ V53 hb
    replace V56 := vb_ V56 hb
    replace G16 := gb_ G16 hb
    replace G18 := gb_ G18 hb
    replace G27 := gb_ G27 hb
    replace G30 := gb_ G30 hb
    replace G58 := gb_ G58 hb
    replace G60 := gb_ G60 hb
    replace L := lb_ L hb
    clear hb hk
    obtain ⟨p85, p86⟩ := cl2_ G60
    obtain ⟨p87, p88⟩ := cl2_ G30
    go_wp2_with fail
    obtain ⟨k, hk⟩ := KF.out.f5
    refine (laws_eqWhole.calls k r3 A54 c55 r4 r3 A25 c26 r4 true _ (V56.out.c) (V56.out.le) (V32.out.c) (V32.out.le) hk).mono ?_
    rintro x w1 ⟨rfl, hb⟩
    clear p85 p86 p87 p88
    replace V29 := vb_ V29 hb
    replace V32 := vb_ V32 hb
    replace V53 := vb_ V53 hb
    replace V56 := vb_ V56 hb
    replace G16 := gb_ G16 hb
    replace G18 := gb_ G18 hb
    replace G27 := gb_ G27 hb
    replace G30 := gb_ G30 hb
    replace G58 := gb_ G58 hb
    replace G60 := gb_ G60 hb
    replace L := lb_ L hb
    clear hb hk
    obtain ⟨p89, p90⟩ := cl2_ G58
    go_wp2_with fail
    obtain ⟨k, hk⟩ := KF.out.f14
    refine (laws_markWhole.calls k r1 (fun q => some q = (.slice A51 r2.length c52 : Value).ownBlock) (.slice A51 r2.length c52) r2 1 n3 m91 w _ L.out V53.out.row hk).mono ?_
    rintro x w1 ⟨rfl, hr0_, hb, hkp⟩
    clear p89 p90
    replace V29 := am_ (V29.out.kept hkp N_V29_V53.out)
    replace V32 := am_ (V32.out.kept hkp N_V32_V53.out)
    replace V56 := am_ (V56.out.kept hkp N_V53_V56.out.symm)
    replace G16 := am_ (G16.out.kept V53.out (by decide) hkp)
    replace G18 := am_ (G18.out.kept V53.out (by decide) hkp)
    replace G27 := am_ (G27.out.kept V53.out (by decide) hkp)
    replace G30 := am_ (G30.out.kept V53.out (by decide) hkp)
    replace G58 := am_ (G58.out.kept V53.out (by decide) hkp)
    replace G60 := am_ (G60.out.kept V53.out (by decide) hkp)
    replace V53 := am_ (RO.of (w := w) hr0_ (Nat.le_refl _))
    replace L := am_ hb
    clear hb hkp hk hr0_
    have hn3 := KF.out.f15
    obtain ⟨p92, p93⟩ := cl2_ G60
    go_wp2_with fail
    obtain ⟨k, hk⟩ := KF.out.f17
    refine (laws_markWhole.calls k r3 (fun q => some q = (.slice A54 r4.length c55 : Value).ownBlock) (.slice A54 r4.length c55) r4 n3 n4 m94 w _ L.out V56.out.row hk).mono ?_
    rintro x w1 ⟨rfl, hr0_, hb, hkp⟩
    clear p92 p93
    replace V29 := am_ (V29.out.kept hkp N_V29_V56.out)
    replace V32 := am_ (V32.out.kept hkp N_V32_V56.out)
    replace V53 := am_ (V53.out.kept hkp N_V53_V56.out)
    replace G16 := am_ (G16.out.kept V56.out (by decide) hkp)
    replace G18 := am_ (G18.out.kept V56.out (by decide) hkp)
    replace G27 := am_ (G27.out.kept V56.out (by decide) hkp)
    replace G30 := am_ (G30.out.kept V56.out (by decide) hkp)
    replace G58 := am_ (G58.out.kept V56.out (by decide) hkp)
    replace G60 := am_ (G60.out.kept V56.out (by decide) hkp)
    replace V56 := am_ (RO.of (w := w) hr0_ (Nat.le_refl _))
    replace L := am_ hb
    clear hb hkp hk hr0_
    have hn4 := KF.out.f18
    obtain ⟨p95, p96⟩ := cl2_ G58
    go_wp2_with fail
    obtain ⟨k, hk⟩ := KF.out.f20
    have V53_ := V53.out; rw [← KF.out.f16] at V53_
    have hcon := laws_heldWhole.calls k r1 A51 c52 m91 1 n3 _ V53_.c V53_.le hk
    rw [KF.out.f16] at hcon
    refine (hcon).mono ?_
    rintro x w1 ⟨rfl, hb⟩
    clear p95 p96
    replace V29 := vb_ V29 hb
    replace V32 := vb_ V32 hb
    replace V53 := vb_ V53 hb
    replace V56 := vb_ V56 hb
    replace G16 := gb_ G16 hb
    replace G18 := gb_ G18 hb
    replace G27 := gb_ G27 hb
    replace G30 := gb_ G30 hb
    replace G58 := gb_ G58 hb
    replace G60 := gb_ G60 hb
    replace L := lb_ L hb
    clear hb hk
    clear hcon V53_
    obtain ⟨p97, p98⟩ := cl2_ G60
    go_wp2_with fail
    obtain ⟨k, hk⟩ := KF.out.f21
    have V56_ := V56.out; rw [← KF.out.f19] at V56_
    have hcon := laws_heldWhole.calls k r3 A54 c55 m94 n3 n4 _ V56_.c V56_.le hk
    rw [KF.out.f19] at hcon
    refine (hcon).mono ?_
    rintro x w1 ⟨rfl, hb⟩
    clear p97 p98
    replace V29 := vb_ V29 hb
    replace V32 := vb_ V32 hb
    replace V53 := vb_ V53 hb
    replace V56 := vb_ V56 hb
    replace G16 := gb_ G16 hb
    replace G18 := gb_ G18 hb
    replace G27 := gb_ G27 hb
    replace G30 := gb_ G30 hb
    replace G58 := gb_ G58 hb
    replace G60 := gb_ G60 hb
    replace L := lb_ L hb
    clear hb hk
    clear hcon V56_
    go_upto_region 35 with fail
    refine start_ (n := 14) (S := fun w' => w'.cell? ⟨g15, 0, none⟩ = some (.int .i64 s0_0) ∧ w'.cell? ⟨g15, 1, none⟩ = some (.slice A0_1 l0_1.length c0_1) ∧ w'.cell? ⟨g17, 0, none⟩ = some (.int .i64 s1_0) ∧ w'.cell? ⟨g17, 1, none⟩ = some (.slice A1_1 l1_1.length c1_1)) (ds := [11, 12]) #[false, false, false, false, false, false, false, false, false, false, false, false, false, false] (by kernel_rfl) rfl rfl (two2_ (dw_ G16) (dw_ G18)) (fun hHeld => ?_)
    have hb := (Below.refl w1.heap.size w1).drew; generalize w1.drew = w1 at hHeld hb ⊢
    replace V29 := vb_ V29 hb
    replace V32 := vb_ V32 hb
    replace V53 := vb_ V53 hb
    replace V56 := vb_ V56 hb
    replace G16 := gb_ G16 hb
    replace G18 := gb_ G18 hb
    replace G27 := gb_ G27 hb
    replace G30 := gb_ G30 hb
    replace G58 := gb_ G58 hb
    replace G60 := gb_ G60 hb
    replace L := lb_ L hb
    clear hb
    refine tk_ #[true, false, false, false, false, false, false, false, false, false, false, false, false, false] 0 120 (by kernel_rfl) hHeld ?_
    refine tk_ #[true, false, true, false, false, false, false, false, false, false, false, false, false, false] 2 122 (by kernel_rfl) hHeld ?_
    refine join_ (σ := Value × Value × Value × Value × Nat × Nat) 3 #[true, true, true, true, true, true, true, true, true, true, true, false, false, false] (fun s => [(121, .agg #[.int .i64 s0_0, s.1]), (123, .agg #[.int .i64 s1_0, s.2.1]), (124, .tuple #[.agg #[.int .i64 r1, s.2.2.1], .agg #[.int .i64 r3, s.2.2.2.1], .int .i64 r5]), (119, .tuple #[.agg #[.int .i64 r1, s.2.2.1], .agg #[.int .i64 r3, s.2.2.2.1], .int .i64 r5]), (125, .agg #[.int .i64 r1, s.2.2.1]), (126, .agg #[.int .i64 r3, s.2.2.2.1]), (127, .int .i64 r5), (17, .pointer (some ⟨s.2.2.2.2.1, 0, none⟩)), (18, .pointer (some ⟨s.2.2.2.2.2, 0, none⟩))]) (fun s w' => (w'.cell? ⟨g15, 0, none⟩ = some (.int .i64 s0_0) ∧ w'.cell? ⟨g15, 1, none⟩ = some (.slice A0_1 l0_1.length c0_1) ∧ w'.cell? ⟨g17, 0, none⟩ = some (.int .i64 s1_0) ∧ w'.cell? ⟨g17, 1, none⟩ = some (.slice A1_1 l1_1.length c1_1)) ∧ RO w w' (.slice A23 r2.length c24) r2 ∧ RO w w' (.slice A25 r4.length c26) r4 ∧ RO w w' (.slice A51 r2.length c52) m91 ∧ RO w w' (.slice A54 r4.length c55) m94 ∧ BX w' g15 #[.int .i64 s0_0, .slice A0_1 l0_1.length c0_1] 24 ∧ BX w' g17 #[.int .i64 s1_0, .slice A1_1 l1_1.length c1_1] 24 ∧ BX w' g28 #[.int .i64 r1, .slice A23 r2.length c24] 26 ∧ BX w' g31 #[.int .i64 r3, .slice A25 r4.length c26] 26 ∧ BX w' g57 #[.int .i64 r1, .slice A51 r2.length c52] 26 ∧ BX w' g59 #[.int .i64 r3, .slice A54 r4.length c55] 26 ∧ Below w.heap.size w w' ∧ RO w w' s.2.2.1 r2 ∧ RO w w' s.2.2.2.1 r4 ∧ BX w' s.2.2.2.2.1 #[.int .i64 0, .slice none 0 0] 26 ∧ w.heap.size ≤ s.2.2.2.2.1 ∧ g15 ≠ s.2.2.2.2.1 ∧ g17 ≠ s.2.2.2.2.1 ∧ g28 ≠ s.2.2.2.2.1 ∧ g31 ≠ s.2.2.2.2.1 ∧ g57 ≠ s.2.2.2.2.1 ∧ g59 ≠ s.2.2.2.2.1 ∧ BX w' s.2.2.2.2.2 #[.int .i64 0, .slice none 0 0] 26 ∧ w.heap.size ≤ s.2.2.2.2.2 ∧ g15 ≠ s.2.2.2.2.2 ∧ g17 ≠ s.2.2.2.2.2 ∧ g28 ≠ s.2.2.2.2.2 ∧ g31 ≠ s.2.2.2.2.2 ∧ g57 ≠ s.2.2.2.2.2 ∧ g59 ≠ s.2.2.2.2.2 ∧ s.2.2.2.2.1 ≠ s.2.2.2.2.2) ?cont (fun hJ => ?_)
    case cont =>
     rintro ⟨t0_0, t1_0, u0_0, u1_0, y0, y1⟩ w1 ⟨hHeld, h0_, h1_, h2_, h3_, h4_, h5_, h6_, h7_, h8_, h9_, h10_, h11_, h12_, h13_, h14_, h15_, h16_, h17_, h18_, h19_, h20_, h21_, h22_, h23_, h24_, h25_, h26_, h27_, h28_, h29_⟩
     try dsimp only at hHeld h0_ h1_ h2_ h3_ h4_ h5_ h6_ h7_ h8_ h9_ h10_ h11_ h12_ h13_ h14_ h15_ h16_ h17_ h18_ h19_ h20_ h21_ h22_ h23_ h24_ h25_ h26_ h27_ h28_ h29_
     have V29 := am_ h0_; have V32 := am_ h1_; have V53 := am_ h2_; have V56 := am_ h3_; have G16 := am_ h4_; have G18 := am_ h5_; have G27 := am_ h6_; have G30 := am_ h7_; have G58 := am_ h8_; have G60 := am_ h9_; have L := am_ h10_; have Uu0_0 := am_ h11_; have Uu1_0 := am_ h12_; have By0 := am_ h13_; have Ey0 := am_ h14_; have DG16_y0 := am_ h15_; have DG18_y0 := am_ h16_; have DG27_y0 := am_ h17_; have DG30_y0 := am_ h18_; have DG58_y0 := am_ h19_; have DG60_y0 := am_ h20_; have By1 := am_ h21_; have Ey1 := am_ h22_; have DG16_y1 := am_ h23_; have DG18_y1 := am_ h24_; have DG27_y1 := am_ h25_; have DG30_y1 := am_ h26_; have DG58_y1 := am_ h27_; have DG60_y1 := am_ h28_; have Dyy := am_ h29_
     clear h0_ h1_ h2_ h3_ h4_ h5_ h6_ h7_ h8_ h9_ h10_ h11_ h12_ h13_ h14_ h15_ h16_ h17_ h18_ h19_ h20_ h21_ h22_ h23_ h24_ h25_ h26_ h27_ h28_ h29_
     obtain ⟨A99, c100, rfl⟩ := Kd.R_slice Uu0_0.out.row
     obtain ⟨A101, c102, rfl⟩ := Kd.R_slice Uu1_0.out.row
     refine norm_ (a' := ?_) ?_ ?_
     rotate_left
     ·simp only [putAll, Act.put, List.setIfInBounds_toArray, List.set_cons_zero, List.set_cons_succ]
      rfl
     refine last_ (i := 11) (N := none) #[true, true, true, true, true, true, true, true, true, true, true, true, false, false] rfl rfl (by kernel_rfl) (by decide) (fun K hK => ?_)
     obtain ⟨q0, q1, q2, q3⟩ := ck2_ (am_ By0.out.x)
     refine skip_ (w1 := ?_) (by rfl) rfl ?_ ?_
     rotate_left
     ·go_simp
      rfl
     refine hK.out _ _ ?_
     clear hK K q0 q1 q2 q3
     obtain ⟨w1, e1, hB, hst⟩ := store2 By0.out (.int .i64 r1) (.slice A99 r2.length c100)
     rw [← e1]; clear e1
     replace V29 := am_ (V29.out.stp hst By0.out (by decide))
     replace V32 := am_ (V32.out.stp hst By0.out (by decide))
     replace V53 := am_ (V53.out.stp hst By0.out (by decide))
     replace V56 := am_ (V56.out.stp hst By0.out (by decide))
     replace G16 := am_ (G16.out.stp hst DG16_y0.out)
     replace G18 := am_ (G18.out.stp hst DG18_y0.out)
     replace G27 := am_ (G27.out.stp hst DG27_y0.out)
     replace G30 := am_ (G30.out.stp hst DG30_y0.out)
     replace G58 := am_ (G58.out.stp hst DG58_y0.out)
     replace G60 := am_ (G60.out.stp hst DG60_y0.out)
     replace Uu0_0 := am_ (Uu0_0.out.stp hst By0.out (by decide))
     replace Uu1_0 := am_ (Uu1_0.out.stp hst By0.out (by decide))
     replace By1 := am_ (By1.out.stp hst Dyy.out.symm)
     replace L := am_ (hst.low L.out Ey0.out); replace By0 := am_ hB; clear hB hst
     refine last_ (i := 12) (N := none) #[true, true, true, true, true, true, true, true, true, true, true, true, true, false] rfl rfl (by kernel_rfl) (by decide) (fun K hK => ?_)
     obtain ⟨q0, q1, q2, q3⟩ := ck2_ (am_ By1.out.x)
     refine skip_ (w1 := ?_) (by rfl) rfl ?_ ?_
     rotate_left
     ·go_simp
      rfl
     refine hK.out _ _ ?_
     clear hK K q0 q1 q2 q3
     obtain ⟨w1, e1, hB, hst⟩ := store2 By1.out (.int .i64 r3) (.slice A101 r4.length c102)
     rw [← e1]; clear e1
     replace V29 := am_ (V29.out.stp hst By1.out (by decide))
     replace V32 := am_ (V32.out.stp hst By1.out (by decide))
     replace V53 := am_ (V53.out.stp hst By1.out (by decide))
     replace V56 := am_ (V56.out.stp hst By1.out (by decide))
     replace G16 := am_ (G16.out.stp hst DG16_y1.out)
     replace G18 := am_ (G18.out.stp hst DG18_y1.out)
     replace G27 := am_ (G27.out.stp hst DG27_y1.out)
     replace G30 := am_ (G30.out.stp hst DG30_y1.out)
     replace G58 := am_ (G58.out.stp hst DG58_y1.out)
     replace G60 := am_ (G60.out.stp hst DG60_y1.out)
     replace Uu0_0 := am_ (Uu0_0.out.stp hst By1.out (by decide))
     replace Uu1_0 := am_ (Uu1_0.out.stp hst By1.out (by decide))
     replace By0 := am_ (By0.out.stp hst Dyy.out)
     replace L := am_ (hst.low L.out Ey1.out); replace By1 := am_ hB; clear hB hst
     refine pu_ #[true, true, true, true, true, true, true, true, true, true, true, true, true, true] 13 19 (by kernel_rfl) ?_
     refine done_ (by kernel_rfl) ?_
     clear hHeld Ey0 DG16_y0 DG18_y0 DG27_y0 DG30_y0 DG58_y0 DG60_y0 Ey1 DG16_y1 DG18_y1 DG27_y1 DG30_y1 DG58_y1 DG60_y1 Dyy
     obtain ⟨g104, eg⟩ : ∃ x, x = y0 := ⟨_, rfl⟩
     rw [← eg] at By0 ⊢; clear eg
     have G103 := By0; clear By0
     have V105 := Uu0_0; clear Uu0_0
     obtain ⟨g107, eg⟩ : ∃ x, x = y1 := ⟨_, rfl⟩
     rw [← eg] at By1 ⊢; clear eg
     have G106 := By1; clear By1
     have V108 := Uu1_0; clear Uu1_0
     obtain ⟨p109, p110⟩ := cl2_ G103
     obtain ⟨p111, p112⟩ := cl2_ G27
     go_wp2_with fail
     obtain ⟨k, hk⟩ := KF.out.f4
     refine (laws_eqWhole.calls k r1 A99 c100 r2 r1 A23 c24 r2 true _ (V105.out.c) (V105.out.le) (V29.out.c) (V29.out.le) hk).mono ?_
     rintro x w1 ⟨rfl, hb⟩
     clear p109 p110 p111 p112
     replace V29 := vb_ V29 hb
     replace V32 := vb_ V32 hb
     replace V53 := vb_ V53 hb
     replace V56 := vb_ V56 hb
     replace V105 := vb_ V105 hb
     replace V108 := vb_ V108 hb
     replace G16 := gb_ G16 hb
     replace G18 := gb_ G18 hb
     replace G27 := gb_ G27 hb
     replace G30 := gb_ G30 hb
     replace G58 := gb_ G58 hb
     replace G60 := gb_ G60 hb
     replace G103 := gb_ G103 hb
     replace G106 := gb_ G106 hb
     replace L := lb_ L hb
     clear hb hk
     obtain ⟨p113, p114⟩ := cl2_ G106
     obtain ⟨p115, p116⟩ := cl2_ G30
     go_wp2_with fail
     obtain ⟨k, hk⟩ := KF.out.f5
     refine (laws_eqWhole.calls k r3 A101 c102 r4 r3 A25 c26 r4 true _ (V108.out.c) (V108.out.le) (V32.out.c) (V32.out.le) hk).mono ?_
     rintro x w1 ⟨rfl, hb⟩
     clear p113 p114 p115 p116
     replace V29 := vb_ V29 hb
     replace V32 := vb_ V32 hb
     replace V53 := vb_ V53 hb
     replace V56 := vb_ V56 hb
     replace V105 := vb_ V105 hb
     replace V108 := vb_ V108 hb
     replace G16 := gb_ G16 hb
     replace G18 := gb_ G18 hb
     replace G27 := gb_ G27 hb
     replace G30 := gb_ G30 hb
     replace G58 := gb_ G58 hb
     replace G60 := gb_ G60 hb
     replace G103 := gb_ G103 hb
     replace G106 := gb_ G106 hb
     replace L := lb_ L hb
     clear hb hk
     obtain ⟨p117, p118⟩ := cl2_ G58
     go_wp2_with fail
     obtain ⟨k, hk⟩ := KF.out.f20
     have V53_ := V53.out; rw [← KF.out.f16] at V53_
     have hcon := laws_heldWhole.calls k r1 A51 c52 m91 1 n3 _ V53_.c V53_.le hk
     rw [KF.out.f16] at hcon
     refine (hcon).mono ?_
     rintro x w1 ⟨rfl, hb⟩
     clear p117 p118
     replace V29 := vb_ V29 hb
     replace V32 := vb_ V32 hb
     replace V53 := vb_ V53 hb
     replace V56 := vb_ V56 hb
     replace V105 := vb_ V105 hb
     replace V108 := vb_ V108 hb
     replace G16 := gb_ G16 hb
     replace G18 := gb_ G18 hb
     replace G27 := gb_ G27 hb
     replace G30 := gb_ G30 hb
     replace G58 := gb_ G58 hb
     replace G60 := gb_ G60 hb
     replace G103 := gb_ G103 hb
     replace G106 := gb_ G106 hb
     replace L := lb_ L hb
     clear hb hk
     clear hcon V53_
     obtain ⟨p119, p120⟩ := cl2_ G60
     go_wp2_with fail
     obtain ⟨k, hk⟩ := KF.out.f21
     have V56_ := V56.out; rw [← KF.out.f19] at V56_
     have hcon := laws_heldWhole.calls k r3 A54 c55 m94 n3 n4 _ V56_.c V56_.le hk
     rw [KF.out.f19] at hcon
     refine (hcon).mono ?_
     rintro x w1 ⟨rfl, hb⟩
     clear p119 p120
     replace V29 := vb_ V29 hb
     replace V32 := vb_ V32 hb
     replace V53 := vb_ V53 hb
     replace V56 := vb_ V56 hb
     replace V105 := vb_ V105 hb
     replace V108 := vb_ V108 hb
     replace G16 := gb_ G16 hb
     replace G18 := gb_ G18 hb
     replace G27 := gb_ G27 hb
     replace G30 := gb_ G30 hb
     replace G58 := gb_ G58 hb
     replace G60 := gb_ G60 hb
     replace G103 := gb_ G103 hb
     replace G106 := gb_ G106 hb
     replace L := lb_ L hb
     clear hb hk
     clear hcon V56_
     go_wp2
     go_ret
     exact ⟨rfl, L.out⟩
    refine three_ (i := 1) (j := 9) (k := 10) (Ni := some 121) (Nj := some 17) (Nk := some 18) #[true, true, true, false, false, false, false, false, false, false, false, false, false, false] #[true, false, true, false, false, false, false, false, false, true, false, false, false, false] #[true, false, true, false, false, false, false, false, false, false, true, false, false, false] rfl rfl rfl rfl rfl rfl (by kernel_rfl) (by decide) (by decide) (by decide) (fun K hK => ?_) (fun K hK => ?_) (fun K hK => ?_)
    ·skip
     refine goes_ Tryd.func13 (by kernel_rfl) rfl #[.agg #[.int .i64 s0_0, .slice A0_1 l0_1.length c0_1]] (by rfl) rfl rfl ma_ ?_
     obtain ⟨k, hk⟩ := KF.out.f0
     with_reducible refine (laws_toWhole.calls k s0_0 A0_1 c0_1 l0_1 s0_0 l0_1 _ (Kd.C_below HR0_1.out L.out) (HC0_1.out) hk).mono ?_
     rintro x w1 ⟨v0_, rfl, hr0_, hb⟩
     refine ⟨_, rfl, ?_⟩
     obtain ⟨At0_0, ct0_0, rfl⟩ := Kd.R_slice hr0_
     have Vt0_0 := am_ (RO.of (w := w) hr0_ L.out.size)
     replace V29 := vb_ V29 hb
     replace V32 := vb_ V32 hb
     replace V53 := vb_ V53 hb
     replace V56 := vb_ V56 hb
     replace G16 := gb_ G16 hb
     replace G18 := gb_ G18 hb
     replace G27 := gb_ G27 hb
     replace G30 := gb_ G30 hb
     replace G58 := gb_ G58 hb
     replace G60 := gb_ G60 hb
     replace L := lb_ L hb
     clear hb hk hr0_
     refine hK.out _ _ ((two2_ G16 G18)) (fun hHeld => ?_)
     clear hK K
     refine nr_ ?_
     refine three_ (i := 3) (j := 9) (k := 10) (Ni := some 123) (Nj := some 17) (Nk := some 18) #[true, true, true, true, false, false, false, false, false, false, false, false, false, false] #[true, true, true, false, false, false, false, false, false, true, false, false, false, false] #[true, true, true, false, false, false, false, false, false, false, true, false, false, false] rfl rfl rfl rfl rfl rfl (by kernel_rfl) (by decide) (by decide) (by decide) (fun K hK => ?_) (fun K hK => ?_) (fun K hK => ?_)
     ·skip
      refine goes_ Tryd.func13 (by kernel_rfl) rfl #[.agg #[.int .i64 s1_0, .slice A1_1 l1_1.length c1_1]] (by rfl) rfl rfl ma_ ?_
      obtain ⟨k, hk⟩ := KF.out.f1
      with_reducible refine (laws_toWhole.calls k s1_0 A1_1 c1_1 l1_1 s1_0 l1_1 _ (Kd.C_below HR1_1.out L.out) (HC1_1.out) hk).mono ?_
      rintro x w1 ⟨v0_, rfl, hr0_, hb⟩
      refine ⟨_, rfl, ?_⟩
      obtain ⟨At1_0, ct1_0, rfl⟩ := Kd.R_slice hr0_
      have Vt1_0 := am_ (RO.of (w := w) hr0_ L.out.size)
      replace V29 := vb_ V29 hb
      replace V32 := vb_ V32 hb
      replace V53 := vb_ V53 hb
      replace V56 := vb_ V56 hb
      replace G16 := gb_ G16 hb
      replace G18 := gb_ G18 hb
      replace G27 := gb_ G27 hb
      replace G30 := gb_ G30 hb
      replace G58 := gb_ G58 hb
      replace G60 := gb_ G60 hb
      replace Vt0_0 := vb_ Vt0_0 hb
      replace L := lb_ L hb
      clear hb hk hr0_
      refine hK.out _ _ ((two2_ G16 G18)) (fun hHeld => ?_)
      clear hK K
      refine nr_ ?_
      refine three_ (i := 4) (j := 9) (k := 10) (Ni := some 124) (Nj := some 17) (Nk := some 18) #[true, true, true, true, true, false, false, false, false, false, false, false, false, false] #[true, true, true, true, false, false, false, false, false, true, false, false, false, false] #[true, true, true, true, false, false, false, false, false, false, true, false, false, false] rfl rfl rfl rfl rfl rfl (by kernel_rfl) (by decide) (by decide) (by decide) (fun K hK => ?_) (fun K hK => ?_) (fun K hK => ?_)
      ·skip
       refine goes_ Tryd.func14 (by kernel_rfl) rfl #[.agg #[.int .i64 s0_0, .slice At0_0 l0_1.length ct0_0], .agg #[.int .i64 s1_0, .slice At1_0 l1_1.length ct1_0]] (by rfl) rfl rfl ma_ ?_
       with_reducible refine (impl_DivideWholes.calls s0_0 At0_0 ct0_0 l0_1 s1_0 At1_0 ct1_0 l1_1 r1 r2 r3 r4 r5 _ (Vt0_0.out.c) (Vt0_0.out.le) (Vt1_0.out.c) (Vt1_0.out.le) KF.out.f3).mono ?_
       rintro x w1 ⟨v0_, v1_, rfl, hr0_, hr1_, hb⟩
       refine ⟨_, rfl, ?_⟩
       obtain ⟨Au0_0, cu0_0, rfl⟩ := Kd.R_slice hr0_
       obtain ⟨Au1_0, cu1_0, rfl⟩ := Kd.R_slice hr1_
       have Uu0_0 := am_ (RO.of (w := w) hr0_ L.out.size)
       have Uu1_0 := am_ (RO.of (w := w) hr1_ L.out.size)
       replace V29 := vb_ V29 hb
       replace V32 := vb_ V32 hb
       replace V53 := vb_ V53 hb
       replace V56 := vb_ V56 hb
       replace G16 := gb_ G16 hb
       replace G18 := gb_ G18 hb
       replace G27 := gb_ G27 hb
       replace G30 := gb_ G30 hb
       replace G58 := gb_ G58 hb
       replace G60 := gb_ G60 hb
       replace Vt0_0 := vb_ Vt0_0 hb
       replace Vt1_0 := vb_ Vt1_0 hb
       replace L := lb_ L hb
       clear hb hr0_ hr1_
       refine hK.out _ _ ((two2_ G16 G18)) (fun hHeld => ?_)
       clear hK K
       refine nr_ ?_
       refine pu_ #[true, true, true, true, true, true, false, false, false, false, false, false, false, false] 5 119 (by kernel_rfl) ?_
       refine pu_ #[true, true, true, true, true, true, true, false, false, false, false, false, false, false] 6 125 (by kernel_rfl) ?_
       refine pu_ #[true, true, true, true, true, true, true, true, false, false, false, false, false, false] 7 126 (by kernel_rfl) ?_
       refine pu_ #[true, true, true, true, true, true, true, true, true, false, false, false, false, false] 8 127 (by kernel_rfl) ?_
       refine two_ (i := 9) (j := 10) (Ni := some 17) (Nj := some 18) #[true, true, true, true, true, true, true, true, true, true, false, false, false, false] #[true, true, true, true, true, true, true, true, true, false, true, false, false, false] rfl rfl rfl rfl (by kernel_rfl) (by decide) (by decide) (fun K hK => ?_) (fun K hK => ?_)
       ·skip
        refine box_step ?hg (N := 17) ?hd (cs := #[.int .i64 0, .slice none 0 0]) (t := 26) ?hr ?_; (case hd => rfl); (case hg => rfl); (case hr => first | (go_simp; done) | (go_simp; rfl))
        intro y0 hg w1 hbox hb
        have By0 := by_ hbox
        have Ey0 := ey_ L hg
        have DG16_y0 := ny_ G16 hg
        have DG18_y0 := ny_ G18 hg
        have DG27_y0 := ny_ G27 hg
        have DG30_y0 := ny_ G30 hg
        have DG58_y0 := ny_ G58 hg
        have DG60_y0 := ny_ G60 hg
        replace V29 := vb_ V29 hb
        replace V32 := vb_ V32 hb
        replace V53 := vb_ V53 hb
        replace V56 := vb_ V56 hb
        replace G16 := gb_ G16 hb
        replace G18 := gb_ G18 hb
        replace G27 := gb_ G27 hb
        replace G30 := gb_ G30 hb
        replace G58 := gb_ G58 hb
        replace G60 := gb_ G60 hb
        replace Vt0_0 := vb_ Vt0_0 hb
        replace Vt1_0 := vb_ Vt1_0 hb
        replace Uu0_0 := vb_ Uu0_0 hb
        replace Uu1_0 := vb_ Uu1_0 hb
        replace L := lb_ L hb
        clear hb hg hbox
        refine hK.out _ _ ((two2_ G16 G18)) (fun hHeld => ?_)
        clear hK K
        refine nr_ ?_
        refine one_ (i := 10) (N := some 18) #[true, true, true, true, true, true, true, true, true, true, true, false, false, false] rfl rfl (by kernel_rfl) (by decide) (fun K hK => ?_)
        refine box_step ?hg (N := 18) ?hd (cs := #[.int .i64 0, .slice none 0 0]) (t := 26) ?hr ?_; (case hd => rfl); (case hg => rfl); (case hr => first | (go_simp; done) | (go_simp; rfl))
        intro y1 hg w1 hbox hb
        have By1 := by_ hbox
        have Ey1 := ey_ L hg
        have DG16_y1 := ny_ G16 hg
        have DG18_y1 := ny_ G18 hg
        have DG27_y1 := ny_ G27 hg
        have DG30_y1 := ny_ G30 hg
        have DG58_y1 := ny_ G58 hg
        have DG60_y1 := ny_ G60 hg
        have Dyy := ny_ By0 hg
        replace V29 := vb_ V29 hb
        replace V32 := vb_ V32 hb
        replace V53 := vb_ V53 hb
        replace V56 := vb_ V56 hb
        replace G16 := gb_ G16 hb
        replace G18 := gb_ G18 hb
        replace G27 := gb_ G27 hb
        replace G30 := gb_ G30 hb
        replace G58 := gb_ G58 hb
        replace G60 := gb_ G60 hb
        replace Vt0_0 := vb_ Vt0_0 hb
        replace Vt1_0 := vb_ Vt1_0 hb
        replace Uu0_0 := vb_ Uu0_0 hb
        replace Uu1_0 := vb_ Uu1_0 hb
        replace By0 := gb_ By0 hb
        replace L := lb_ L hb
        clear hb hg hbox
        refine hK.out _ _ ((two2_ G16 G18)) (fun hHeld => ?_)
        clear hK K
        refine nr_ ?_
        exact norm_ (by simp only [putAll, Act.put, List.setIfInBounds_toArray, List.set_cons_zero, List.set_cons_succ] <;> rfl) (hJ ((.slice At0_0 l0_1.length ct0_0), (.slice At1_0 l1_1.length ct1_0), (.slice Au0_0 r2.length cu0_0), (.slice Au1_0 r4.length cu1_0), y0, y1) _ ⟨hHeld, V29.out, V32.out, V53.out, V56.out, G16.out, G18.out, G27.out, G30.out, G58.out, G60.out, L.out, Uu0_0.out, Uu1_0.out, By0.out, Ey0.out, DG16_y0.out, DG18_y0.out, DG27_y0.out, DG30_y0.out, DG58_y0.out, DG60_y0.out, By1.out, Ey1.out, DG16_y1.out, DG18_y1.out, DG27_y1.out, DG30_y1.out, DG58_y1.out, DG60_y1.out, Dyy.out⟩)
       ·skip
        refine box_step ?hg (N := 18) ?hd (cs := #[.int .i64 0, .slice none 0 0]) (t := 26) ?hr ?_; (case hd => rfl); (case hg => rfl); (case hr => first | (go_simp; done) | (go_simp; rfl))
        intro y1 hg w1 hbox hb
        have By1 := by_ hbox
        have Ey1 := ey_ L hg
        have DG16_y1 := ny_ G16 hg
        have DG18_y1 := ny_ G18 hg
        have DG27_y1 := ny_ G27 hg
        have DG30_y1 := ny_ G30 hg
        have DG58_y1 := ny_ G58 hg
        have DG60_y1 := ny_ G60 hg
        replace V29 := vb_ V29 hb
        replace V32 := vb_ V32 hb
        replace V53 := vb_ V53 hb
        replace V56 := vb_ V56 hb
        replace G16 := gb_ G16 hb
        replace G18 := gb_ G18 hb
        replace G27 := gb_ G27 hb
        replace G30 := gb_ G30 hb
        replace G58 := gb_ G58 hb
        replace G60 := gb_ G60 hb
        replace Vt0_0 := vb_ Vt0_0 hb
        replace Vt1_0 := vb_ Vt1_0 hb
        replace Uu0_0 := vb_ Uu0_0 hb
        replace Uu1_0 := vb_ Uu1_0 hb
        replace L := lb_ L hb
        clear hb hg hbox
        refine hK.out _ _ ((two2_ G16 G18)) (fun hHeld => ?_)
        clear hK K
        refine nr_ ?_
        refine one_ (i := 9) (N := some 17) #[true, true, true, true, true, true, true, true, true, true, true, false, false, false] rfl rfl (by kernel_rfl) (by decide) (fun K hK => ?_)
        refine box_step ?hg (N := 17) ?hd (cs := #[.int .i64 0, .slice none 0 0]) (t := 26) ?hr ?_; (case hd => rfl); (case hg => rfl); (case hr => first | (go_simp; done) | (go_simp; rfl))
        intro y0 hg w1 hbox hb
        have By0 := by_ hbox
        have Ey0 := ey_ L hg
        have DG16_y0 := ny_ G16 hg
        have DG18_y0 := ny_ G18 hg
        have DG27_y0 := ny_ G27 hg
        have DG30_y0 := ny_ G30 hg
        have DG58_y0 := ny_ G58 hg
        have DG60_y0 := ny_ G60 hg
        have Dyy := am_ (show y0 ≠ y1 from by rw [hg]; exact Nat.ne_of_gt (blk_lt By1.out.x))
        replace V29 := vb_ V29 hb
        replace V32 := vb_ V32 hb
        replace V53 := vb_ V53 hb
        replace V56 := vb_ V56 hb
        replace G16 := gb_ G16 hb
        replace G18 := gb_ G18 hb
        replace G27 := gb_ G27 hb
        replace G30 := gb_ G30 hb
        replace G58 := gb_ G58 hb
        replace G60 := gb_ G60 hb
        replace Vt0_0 := vb_ Vt0_0 hb
        replace Vt1_0 := vb_ Vt1_0 hb
        replace Uu0_0 := vb_ Uu0_0 hb
        replace Uu1_0 := vb_ Uu1_0 hb
        replace By1 := gb_ By1 hb
        replace L := lb_ L hb
        clear hb hg hbox
        refine hK.out _ _ ((two2_ G16 G18)) (fun hHeld => ?_)
        clear hK K
        refine nr_ ?_
        exact norm_ (by simp only [putAll, Act.put, List.setIfInBounds_toArray, List.set_cons_zero, List.set_cons_succ] <;> rfl) (hJ ((.slice At0_0 l0_1.length ct0_0), (.slice At1_0 l1_1.length ct1_0), (.slice Au0_0 r2.length cu0_0), (.slice Au1_0 r4.length cu1_0), y0, y1) _ ⟨hHeld, V29.out, V32.out, V53.out, V56.out, G16.out, G18.out, G27.out, G30.out, G58.out, G60.out, L.out, Uu0_0.out, Uu1_0.out, By0.out, Ey0.out, DG16_y0.out, DG18_y0.out, DG27_y0.out, DG30_y0.out, DG58_y0.out, DG60_y0.out, By1.out, Ey1.out, DG16_y1.out, DG18_y1.out, DG27_y1.out, DG30_y1.out, DG58_y1.out, DG60_y1.out, Dyy.out⟩)
      ·skip
       refine box_step ?hg (N := 17) ?hd (cs := #[.int .i64 0, .slice none 0 0]) (t := 26) ?hr ?_; (case hd => rfl); (case hg => rfl); (case hr => first | (go_simp; done) | (go_simp; rfl))
       intro y0 hg w1 hbox hb
       have By0 := by_ hbox
       have Ey0 := ey_ L hg
       have DG16_y0 := ny_ G16 hg
       have DG18_y0 := ny_ G18 hg
       have DG27_y0 := ny_ G27 hg
       have DG30_y0 := ny_ G30 hg
       have DG58_y0 := ny_ G58 hg
       have DG60_y0 := ny_ G60 hg
       replace V29 := vb_ V29 hb
       replace V32 := vb_ V32 hb
       replace V53 := vb_ V53 hb
       replace V56 := vb_ V56 hb
       replace G16 := gb_ G16 hb
       replace G18 := gb_ G18 hb
       replace G27 := gb_ G27 hb
       replace G30 := gb_ G30 hb
       replace G58 := gb_ G58 hb
       replace G60 := gb_ G60 hb
       replace Vt0_0 := vb_ Vt0_0 hb
       replace Vt1_0 := vb_ Vt1_0 hb
       replace L := lb_ L hb
       clear hb hg hbox
       refine hK.out _ _ ((two2_ G16 G18)) (fun hHeld => ?_)
       clear hK K
       refine nr_ ?_
       refine two_ (i := 4) (j := 10) (Ni := some 124) (Nj := some 18) #[true, true, true, true, true, false, false, false, false, true, false, false, false, false] #[true, true, true, true, false, false, false, false, false, true, true, false, false, false] rfl rfl rfl rfl (by kernel_rfl) (by decide) (by decide) (fun K hK => ?_) (fun K hK => ?_)
       ·skip
        refine goes_ Tryd.func14 (by kernel_rfl) rfl #[.agg #[.int .i64 s0_0, .slice At0_0 l0_1.length ct0_0], .agg #[.int .i64 s1_0, .slice At1_0 l1_1.length ct1_0]] (by rfl) rfl rfl ma_ ?_
        with_reducible refine (impl_DivideWholes.calls s0_0 At0_0 ct0_0 l0_1 s1_0 At1_0 ct1_0 l1_1 r1 r2 r3 r4 r5 _ (Vt0_0.out.c) (Vt0_0.out.le) (Vt1_0.out.c) (Vt1_0.out.le) KF.out.f3).mono ?_
        rintro x w1 ⟨v0_, v1_, rfl, hr0_, hr1_, hb⟩
        refine ⟨_, rfl, ?_⟩
        obtain ⟨Au0_0, cu0_0, rfl⟩ := Kd.R_slice hr0_
        obtain ⟨Au1_0, cu1_0, rfl⟩ := Kd.R_slice hr1_
        have Uu0_0 := am_ (RO.of (w := w) hr0_ L.out.size)
        have Uu1_0 := am_ (RO.of (w := w) hr1_ L.out.size)
        replace V29 := vb_ V29 hb
        replace V32 := vb_ V32 hb
        replace V53 := vb_ V53 hb
        replace V56 := vb_ V56 hb
        replace G16 := gb_ G16 hb
        replace G18 := gb_ G18 hb
        replace G27 := gb_ G27 hb
        replace G30 := gb_ G30 hb
        replace G58 := gb_ G58 hb
        replace G60 := gb_ G60 hb
        replace Vt0_0 := vb_ Vt0_0 hb
        replace Vt1_0 := vb_ Vt1_0 hb
        replace By0 := gb_ By0 hb
        replace L := lb_ L hb
        clear hb hr0_ hr1_
        refine hK.out _ _ ((two2_ G16 G18)) (fun hHeld => ?_)
        clear hK K
        refine nr_ ?_
        refine pu_ #[true, true, true, true, true, true, false, false, false, true, false, false, false, false] 5 119 (by kernel_rfl) ?_
        refine pu_ #[true, true, true, true, true, true, true, false, false, true, false, false, false, false] 6 125 (by kernel_rfl) ?_
        refine pu_ #[true, true, true, true, true, true, true, true, false, true, false, false, false, false] 7 126 (by kernel_rfl) ?_
        refine pu_ #[true, true, true, true, true, true, true, true, true, true, false, false, false, false] 8 127 (by kernel_rfl) ?_
        refine one_ (i := 10) (N := some 18) #[true, true, true, true, true, true, true, true, true, true, true, false, false, false] rfl rfl (by kernel_rfl) (by decide) (fun K hK => ?_)
        refine box_step ?hg (N := 18) ?hd (cs := #[.int .i64 0, .slice none 0 0]) (t := 26) ?hr ?_; (case hd => rfl); (case hg => rfl); (case hr => first | (go_simp; done) | (go_simp; rfl))
        intro y1 hg w1 hbox hb
        have By1 := by_ hbox
        have Ey1 := ey_ L hg
        have DG16_y1 := ny_ G16 hg
        have DG18_y1 := ny_ G18 hg
        have DG27_y1 := ny_ G27 hg
        have DG30_y1 := ny_ G30 hg
        have DG58_y1 := ny_ G58 hg
        have DG60_y1 := ny_ G60 hg
        have Dyy := ny_ By0 hg
        replace V29 := vb_ V29 hb
        replace V32 := vb_ V32 hb
        replace V53 := vb_ V53 hb
        replace V56 := vb_ V56 hb
        replace G16 := gb_ G16 hb
        replace G18 := gb_ G18 hb
        replace G27 := gb_ G27 hb
        replace G30 := gb_ G30 hb
        replace G58 := gb_ G58 hb
        replace G60 := gb_ G60 hb
        replace Vt0_0 := vb_ Vt0_0 hb
        replace Vt1_0 := vb_ Vt1_0 hb
        replace By0 := gb_ By0 hb
        replace Uu0_0 := vb_ Uu0_0 hb
        replace Uu1_0 := vb_ Uu1_0 hb
        replace L := lb_ L hb
        clear hb hg hbox
        refine hK.out _ _ ((two2_ G16 G18)) (fun hHeld => ?_)
        clear hK K
        refine nr_ ?_
        exact norm_ (by simp only [putAll, Act.put, List.setIfInBounds_toArray, List.set_cons_zero, List.set_cons_succ] <;> rfl) (hJ ((.slice At0_0 l0_1.length ct0_0), (.slice At1_0 l1_1.length ct1_0), (.slice Au0_0 r2.length cu0_0), (.slice Au1_0 r4.length cu1_0), y0, y1) _ ⟨hHeld, V29.out, V32.out, V53.out, V56.out, G16.out, G18.out, G27.out, G30.out, G58.out, G60.out, L.out, Uu0_0.out, Uu1_0.out, By0.out, Ey0.out, DG16_y0.out, DG18_y0.out, DG27_y0.out, DG30_y0.out, DG58_y0.out, DG60_y0.out, By1.out, Ey1.out, DG16_y1.out, DG18_y1.out, DG27_y1.out, DG30_y1.out, DG58_y1.out, DG60_y1.out, Dyy.out⟩)
       ·skip
        refine box_step ?hg (N := 18) ?hd (cs := #[.int .i64 0, .slice none 0 0]) (t := 26) ?hr ?_; (case hd => rfl); (case hg => rfl); (case hr => first | (go_simp; done) | (go_simp; rfl))
        intro y1 hg w1 hbox hb
        have By1 := by_ hbox
        have Ey1 := ey_ L hg
        have DG16_y1 := ny_ G16 hg
        have DG18_y1 := ny_ G18 hg
        have DG27_y1 := ny_ G27 hg
        have DG30_y1 := ny_ G30 hg
        have DG58_y1 := ny_ G58 hg
        have DG60_y1 := ny_ G60 hg
        have Dyy := ny_ By0 hg
        replace V29 := vb_ V29 hb
        replace V32 := vb_ V32 hb
        replace V53 := vb_ V53 hb
        replace V56 := vb_ V56 hb
        replace G16 := gb_ G16 hb
        replace G18 := gb_ G18 hb
        replace G27 := gb_ G27 hb
        replace G30 := gb_ G30 hb
        replace G58 := gb_ G58 hb
        replace G60 := gb_ G60 hb
        replace Vt0_0 := vb_ Vt0_0 hb
        replace Vt1_0 := vb_ Vt1_0 hb
        replace By0 := gb_ By0 hb
        replace L := lb_ L hb
        clear hb hg hbox
        refine hK.out _ _ ((two2_ G16 G18)) (fun hHeld => ?_)
        clear hK K
        refine nr_ ?_
        refine one_ (i := 4) (N := some 124) #[true, true, true, true, true, false, false, false, false, true, true, false, false, false] rfl rfl (by kernel_rfl) (by decide) (fun K hK => ?_)
        refine goes_ Tryd.func14 (by kernel_rfl) rfl #[.agg #[.int .i64 s0_0, .slice At0_0 l0_1.length ct0_0], .agg #[.int .i64 s1_0, .slice At1_0 l1_1.length ct1_0]] (by rfl) rfl rfl ma_ ?_
        with_reducible refine (impl_DivideWholes.calls s0_0 At0_0 ct0_0 l0_1 s1_0 At1_0 ct1_0 l1_1 r1 r2 r3 r4 r5 _ (Vt0_0.out.c) (Vt0_0.out.le) (Vt1_0.out.c) (Vt1_0.out.le) KF.out.f3).mono ?_
        rintro x w1 ⟨v0_, v1_, rfl, hr0_, hr1_, hb⟩
        refine ⟨_, rfl, ?_⟩
        obtain ⟨Au0_0, cu0_0, rfl⟩ := Kd.R_slice hr0_
        obtain ⟨Au1_0, cu1_0, rfl⟩ := Kd.R_slice hr1_
        have Uu0_0 := am_ (RO.of (w := w) hr0_ L.out.size)
        have Uu1_0 := am_ (RO.of (w := w) hr1_ L.out.size)
        replace V29 := vb_ V29 hb
        replace V32 := vb_ V32 hb
        replace V53 := vb_ V53 hb
        replace V56 := vb_ V56 hb
        replace G16 := gb_ G16 hb
        replace G18 := gb_ G18 hb
        replace G27 := gb_ G27 hb
        replace G30 := gb_ G30 hb
        replace G58 := gb_ G58 hb
        replace G60 := gb_ G60 hb
        replace Vt0_0 := vb_ Vt0_0 hb
        replace Vt1_0 := vb_ Vt1_0 hb
        replace By0 := gb_ By0 hb
        replace By1 := gb_ By1 hb
        replace L := lb_ L hb
        clear hb hr0_ hr1_
        refine hK.out _ _ ((two2_ G16 G18)) (fun hHeld => ?_)
        clear hK K
        refine nr_ ?_
        refine pu_ #[true, true, true, true, true, true, false, false, false, true, true, false, false, false] 5 119 (by kernel_rfl) ?_
        refine pu_ #[true, true, true, true, true, true, true, false, false, true, true, false, false, false] 6 125 (by kernel_rfl) ?_
        refine pu_ #[true, true, true, true, true, true, true, true, false, true, true, false, false, false] 7 126 (by kernel_rfl) ?_
        refine pu_ #[true, true, true, true, true, true, true, true, true, true, true, false, false, false] 8 127 (by kernel_rfl) ?_
        exact norm_ (by simp only [putAll, Act.put, List.setIfInBounds_toArray, List.set_cons_zero, List.set_cons_succ] <;> rfl) (hJ ((.slice At0_0 l0_1.length ct0_0), (.slice At1_0 l1_1.length ct1_0), (.slice Au0_0 r2.length cu0_0), (.slice Au1_0 r4.length cu1_0), y0, y1) _ ⟨hHeld, V29.out, V32.out, V53.out, V56.out, G16.out, G18.out, G27.out, G30.out, G58.out, G60.out, L.out, Uu0_0.out, Uu1_0.out, By0.out, Ey0.out, DG16_y0.out, DG18_y0.out, DG27_y0.out, DG30_y0.out, DG58_y0.out, DG60_y0.out, By1.out, Ey1.out, DG16_y1.out, DG18_y1.out, DG27_y1.out, DG30_y1.out, DG58_y1.out, DG60_y1.out, Dyy.out⟩)
      ·skip
       refine box_step ?hg (N := 18) ?hd (cs := #[.int .i64 0, .slice none 0 0]) (t := 26) ?hr ?_; (case hd => rfl); (case hg => rfl); (case hr => first | (go_simp; done) | (go_simp; rfl))
       intro y1 hg w1 hbox hb
       have By1 := by_ hbox
       have Ey1 := ey_ L hg
       have DG16_y1 := ny_ G16 hg
       have DG18_y1 := ny_ G18 hg
       have DG27_y1 := ny_ G27 hg
       have DG30_y1 := ny_ G30 hg
       have DG58_y1 := ny_ G58 hg
       have DG60_y1 := ny_ G60 hg
       replace V29 := vb_ V29 hb
       replace V32 := vb_ V32 hb
       replace V53 := vb_ V53 hb
       replace V56 := vb_ V56 hb
       replace G16 := gb_ G16 hb
       replace G18 := gb_ G18 hb
       replace G27 := gb_ G27 hb
       replace G30 := gb_ G30 hb
       replace G58 := gb_ G58 hb
       replace G60 := gb_ G60 hb
       replace Vt0_0 := vb_ Vt0_0 hb
       replace Vt1_0 := vb_ Vt1_0 hb
       replace L := lb_ L hb
       clear hb hg hbox
       refine hK.out _ _ ((two2_ G16 G18)) (fun hHeld => ?_)
       clear hK K
       refine nr_ ?_
       refine two_ (i := 4) (j := 9) (Ni := some 124) (Nj := some 17) #[true, true, true, true, true, false, false, false, false, false, true, false, false, false] #[true, true, true, true, false, false, false, false, false, true, true, false, false, false] rfl rfl rfl rfl (by kernel_rfl) (by decide) (by decide) (fun K hK => ?_) (fun K hK => ?_)
       ·skip
        refine goes_ Tryd.func14 (by kernel_rfl) rfl #[.agg #[.int .i64 s0_0, .slice At0_0 l0_1.length ct0_0], .agg #[.int .i64 s1_0, .slice At1_0 l1_1.length ct1_0]] (by rfl) rfl rfl ma_ ?_
        with_reducible refine (impl_DivideWholes.calls s0_0 At0_0 ct0_0 l0_1 s1_0 At1_0 ct1_0 l1_1 r1 r2 r3 r4 r5 _ (Vt0_0.out.c) (Vt0_0.out.le) (Vt1_0.out.c) (Vt1_0.out.le) KF.out.f3).mono ?_
        rintro x w1 ⟨v0_, v1_, rfl, hr0_, hr1_, hb⟩
        refine ⟨_, rfl, ?_⟩
        obtain ⟨Au0_0, cu0_0, rfl⟩ := Kd.R_slice hr0_
        obtain ⟨Au1_0, cu1_0, rfl⟩ := Kd.R_slice hr1_
        have Uu0_0 := am_ (RO.of (w := w) hr0_ L.out.size)
        have Uu1_0 := am_ (RO.of (w := w) hr1_ L.out.size)
        replace V29 := vb_ V29 hb
        replace V32 := vb_ V32 hb
        replace V53 := vb_ V53 hb
        replace V56 := vb_ V56 hb
        replace G16 := gb_ G16 hb
        replace G18 := gb_ G18 hb
        replace G27 := gb_ G27 hb
        replace G30 := gb_ G30 hb
        replace G58 := gb_ G58 hb
        replace G60 := gb_ G60 hb
        replace Vt0_0 := vb_ Vt0_0 hb
        replace Vt1_0 := vb_ Vt1_0 hb
        replace By1 := gb_ By1 hb
        replace L := lb_ L hb
        clear hb hr0_ hr1_
        refine hK.out _ _ ((two2_ G16 G18)) (fun hHeld => ?_)
        clear hK K
        refine nr_ ?_
        refine pu_ #[true, true, true, true, true, true, false, false, false, false, true, false, false, false] 5 119 (by kernel_rfl) ?_
        refine pu_ #[true, true, true, true, true, true, true, false, false, false, true, false, false, false] 6 125 (by kernel_rfl) ?_
        refine pu_ #[true, true, true, true, true, true, true, true, false, false, true, false, false, false] 7 126 (by kernel_rfl) ?_
        refine pu_ #[true, true, true, true, true, true, true, true, true, false, true, false, false, false] 8 127 (by kernel_rfl) ?_
        refine one_ (i := 9) (N := some 17) #[true, true, true, true, true, true, true, true, true, true, true, false, false, false] rfl rfl (by kernel_rfl) (by decide) (fun K hK => ?_)
        refine box_step ?hg (N := 17) ?hd (cs := #[.int .i64 0, .slice none 0 0]) (t := 26) ?hr ?_; (case hd => rfl); (case hg => rfl); (case hr => first | (go_simp; done) | (go_simp; rfl))
        intro y0 hg w1 hbox hb
        have By0 := by_ hbox
        have Ey0 := ey_ L hg
        have DG16_y0 := ny_ G16 hg
        have DG18_y0 := ny_ G18 hg
        have DG27_y0 := ny_ G27 hg
        have DG30_y0 := ny_ G30 hg
        have DG58_y0 := ny_ G58 hg
        have DG60_y0 := ny_ G60 hg
        have Dyy := am_ (show y0 ≠ y1 from by rw [hg]; exact Nat.ne_of_gt (blk_lt By1.out.x))
        replace V29 := vb_ V29 hb
        replace V32 := vb_ V32 hb
        replace V53 := vb_ V53 hb
        replace V56 := vb_ V56 hb
        replace G16 := gb_ G16 hb
        replace G18 := gb_ G18 hb
        replace G27 := gb_ G27 hb
        replace G30 := gb_ G30 hb
        replace G58 := gb_ G58 hb
        replace G60 := gb_ G60 hb
        replace Vt0_0 := vb_ Vt0_0 hb
        replace Vt1_0 := vb_ Vt1_0 hb
        replace By1 := gb_ By1 hb
        replace Uu0_0 := vb_ Uu0_0 hb
        replace Uu1_0 := vb_ Uu1_0 hb
        replace L := lb_ L hb
        clear hb hg hbox
        refine hK.out _ _ ((two2_ G16 G18)) (fun hHeld => ?_)
        clear hK K
        refine nr_ ?_
        exact norm_ (by simp only [putAll, Act.put, List.setIfInBounds_toArray, List.set_cons_zero, List.set_cons_succ] <;> rfl) (hJ ((.slice At0_0 l0_1.length ct0_0), (.slice At1_0 l1_1.length ct1_0), (.slice Au0_0 r2.length cu0_0), (.slice Au1_0 r4.length cu1_0), y0, y1) _ ⟨hHeld, V29.out, V32.out, V53.out, V56.out, G16.out, G18.out, G27.out, G30.out, G58.out, G60.out, L.out, Uu0_0.out, Uu1_0.out, By0.out, Ey0.out, DG16_y0.out, DG18_y0.out, DG27_y0.out, DG30_y0.out, DG58_y0.out, DG60_y0.out, By1.out, Ey1.out, DG16_y1.out, DG18_y1.out, DG27_y1.out, DG30_y1.out, DG58_y1.out, DG60_y1.out, Dyy.out⟩)
       ·skip
        refine box_step ?hg (N := 17) ?hd (cs := #[.int .i64 0, .slice none 0 0]) (t := 26) ?hr ?_; (case hd => rfl); (case hg => rfl); (case hr => first | (go_simp; done) | (go_simp; rfl))
        intro y0 hg w1 hbox hb
        have By0 := by_ hbox
        have Ey0 := ey_ L hg
        have DG16_y0 := ny_ G16 hg
        have DG18_y0 := ny_ G18 hg
        have DG27_y0 := ny_ G27 hg
        have DG30_y0 := ny_ G30 hg
        have DG58_y0 := ny_ G58 hg
        have DG60_y0 := ny_ G60 hg
        have Dyy := am_ (show y0 ≠ y1 from by rw [hg]; exact Nat.ne_of_gt (blk_lt By1.out.x))
        replace V29 := vb_ V29 hb
        replace V32 := vb_ V32 hb
        replace V53 := vb_ V53 hb
        replace V56 := vb_ V56 hb
        replace G16 := gb_ G16 hb
        replace G18 := gb_ G18 hb
        replace G27 := gb_ G27 hb
        replace G30 := gb_ G30 hb
        replace G58 := gb_ G58 hb
        replace G60 := gb_ G60 hb
        replace Vt0_0 := vb_ Vt0_0 hb
        replace Vt1_0 := vb_ Vt1_0 hb
        replace By1 := gb_ By1 hb
        replace L := lb_ L hb
        clear hb hg hbox
        refine hK.out _ _ ((two2_ G16 G18)) (fun hHeld => ?_)
        clear hK K
        refine nr_ ?_
        refine one_ (i := 4) (N := some 124) #[true, true, true, true, true, false, false, false, false, true, true, false, false, false] rfl rfl (by kernel_rfl) (by decide) (fun K hK => ?_)
        refine goes_ Tryd.func14 (by kernel_rfl) rfl #[.agg #[.int .i64 s0_0, .slice At0_0 l0_1.length ct0_0], .agg #[.int .i64 s1_0, .slice At1_0 l1_1.length ct1_0]] (by rfl) rfl rfl ma_ ?_
        with_reducible refine (impl_DivideWholes.calls s0_0 At0_0 ct0_0 l0_1 s1_0 At1_0 ct1_0 l1_1 r1 r2 r3 r4 r5 _ (Vt0_0.out.c) (Vt0_0.out.le) (Vt1_0.out.c) (Vt1_0.out.le) KF.out.f3).mono ?_
        rintro x w1 ⟨v0_, v1_, rfl, hr0_, hr1_, hb⟩
        refine ⟨_, rfl, ?_⟩
        obtain ⟨Au0_0, cu0_0, rfl⟩ := Kd.R_slice hr0_
        obtain ⟨Au1_0, cu1_0, rfl⟩ := Kd.R_slice hr1_
        have Uu0_0 := am_ (RO.of (w := w) hr0_ L.out.size)
        have Uu1_0 := am_ (RO.of (w := w) hr1_ L.out.size)
        replace V29 := vb_ V29 hb
        replace V32 := vb_ V32 hb
        replace V53 := vb_ V53 hb
        replace V56 := vb_ V56 hb
        replace G16 := gb_ G16 hb
        replace G18 := gb_ G18 hb
        replace G27 := gb_ G27 hb
        replace G30 := gb_ G30 hb
        replace G58 := gb_ G58 hb
        replace G60 := gb_ G60 hb
        replace Vt0_0 := vb_ Vt0_0 hb
        replace Vt1_0 := vb_ Vt1_0 hb
        replace By1 := gb_ By1 hb
        replace By0 := gb_ By0 hb
        replace L := lb_ L hb
        clear hb hr0_ hr1_
        refine hK.out _ _ ((two2_ G16 G18)) (fun hHeld => ?_)
        clear hK K
        refine nr_ ?_
        refine pu_ #[true, true, true, true, true, true, false, false, false, true, true, false, false, false] 5 119 (by kernel_rfl) ?_
        refine pu_ #[true, true, true, true, true, true, true, false, false, true, true, false, false, false] 6 125 (by kernel_rfl) ?_
        refine pu_ #[true, true, true, true, true, true, true, true, false, true, true, false, false, false] 7 126 (by kernel_rfl) ?_
        refine pu_ #[true, true, true, true, true, true, true, true, true, true, true, false, false, false] 8 127 (by kernel_rfl) ?_
        exact norm_ (by simp only [putAll, Act.put, List.setIfInBounds_toArray, List.set_cons_zero, List.set_cons_succ] <;> rfl) (hJ ((.slice At0_0 l0_1.length ct0_0), (.slice At1_0 l1_1.length ct1_0), (.slice Au0_0 r2.length cu0_0), (.slice Au1_0 r4.length cu1_0), y0, y1) _ ⟨hHeld, V29.out, V32.out, V53.out, V56.out, G16.out, G18.out, G27.out, G30.out, G58.out, G60.out, L.out, Uu0_0.out, Uu1_0.out, By0.out, Ey0.out, DG16_y0.out, DG18_y0.out, DG27_y0.out, DG30_y0.out, DG58_y0.out, DG60_y0.out, By1.out, Ey1.out, DG16_y1.out, DG18_y1.out, DG27_y1.out, DG30_y1.out, DG58_y1.out, DG60_y1.out, Dyy.out⟩)
     ·skip
      refine box_step ?hg (N := 17) ?hd (cs := #[.int .i64 0, .slice none 0 0]) (t := 26) ?hr ?_; (case hd => rfl); (case hg => rfl); (case hr => first | (go_simp; done) | (go_simp; rfl))
      intro y0 hg w1 hbox hb
      have By0 := by_ hbox
      have Ey0 := ey_ L hg
      have DG16_y0 := ny_ G16 hg
      have DG18_y0 := ny_ G18 hg
      have DG27_y0 := ny_ G27 hg
      have DG30_y0 := ny_ G30 hg
      have DG58_y0 := ny_ G58 hg
      have DG60_y0 := ny_ G60 hg
      replace V29 := vb_ V29 hb
      replace V32 := vb_ V32 hb
      replace V53 := vb_ V53 hb
      replace V56 := vb_ V56 hb
      replace G16 := gb_ G16 hb
      replace G18 := gb_ G18 hb
      replace G27 := gb_ G27 hb
      replace G30 := gb_ G30 hb
      replace G58 := gb_ G58 hb
      replace G60 := gb_ G60 hb
      replace Vt0_0 := vb_ Vt0_0 hb
      replace L := lb_ L hb
      clear hb hg hbox
      refine hK.out _ _ ((two2_ G16 G18)) (fun hHeld => ?_)
      clear hK K
      refine nr_ ?_
      refine two_ (i := 3) (j := 10) (Ni := some 123) (Nj := some 18) #[true, true, true, true, false, false, false, false, false, true, false, false, false, false] #[true, true, true, false, false, false, false, false, false, true, true, false, false, false] rfl rfl rfl rfl (by kernel_rfl) (by decide) (by decide) (fun K hK => ?_) (fun K hK => ?_)
      ·skip
       refine goes_ Tryd.func13 (by kernel_rfl) rfl #[.agg #[.int .i64 s1_0, .slice A1_1 l1_1.length c1_1]] (by rfl) rfl rfl ma_ ?_
       obtain ⟨k, hk⟩ := KF.out.f1
       with_reducible refine (laws_toWhole.calls k s1_0 A1_1 c1_1 l1_1 s1_0 l1_1 _ (Kd.C_below HR1_1.out L.out) (HC1_1.out) hk).mono ?_
       rintro x w1 ⟨v0_, rfl, hr0_, hb⟩
       refine ⟨_, rfl, ?_⟩
       obtain ⟨At1_0, ct1_0, rfl⟩ := Kd.R_slice hr0_
       have Vt1_0 := am_ (RO.of (w := w) hr0_ L.out.size)
       replace V29 := vb_ V29 hb
       replace V32 := vb_ V32 hb
       replace V53 := vb_ V53 hb
       replace V56 := vb_ V56 hb
       replace G16 := gb_ G16 hb
       replace G18 := gb_ G18 hb
       replace G27 := gb_ G27 hb
       replace G30 := gb_ G30 hb
       replace G58 := gb_ G58 hb
       replace G60 := gb_ G60 hb
       replace Vt0_0 := vb_ Vt0_0 hb
       replace By0 := gb_ By0 hb
       replace L := lb_ L hb
       clear hb hk hr0_
       refine hK.out _ _ ((two2_ G16 G18)) (fun hHeld => ?_)
       clear hK K
       refine nr_ ?_
       refine two_ (i := 4) (j := 10) (Ni := some 124) (Nj := some 18) #[true, true, true, true, true, false, false, false, false, true, false, false, false, false] #[true, true, true, true, false, false, false, false, false, true, true, false, false, false] rfl rfl rfl rfl (by kernel_rfl) (by decide) (by decide) (fun K hK => ?_) (fun K hK => ?_)
       ·skip
        refine goes_ Tryd.func14 (by kernel_rfl) rfl #[.agg #[.int .i64 s0_0, .slice At0_0 l0_1.length ct0_0], .agg #[.int .i64 s1_0, .slice At1_0 l1_1.length ct1_0]] (by rfl) rfl rfl ma_ ?_
        with_reducible refine (impl_DivideWholes.calls s0_0 At0_0 ct0_0 l0_1 s1_0 At1_0 ct1_0 l1_1 r1 r2 r3 r4 r5 _ (Vt0_0.out.c) (Vt0_0.out.le) (Vt1_0.out.c) (Vt1_0.out.le) KF.out.f3).mono ?_
        rintro x w1 ⟨v0_, v1_, rfl, hr0_, hr1_, hb⟩
        refine ⟨_, rfl, ?_⟩
        obtain ⟨Au0_0, cu0_0, rfl⟩ := Kd.R_slice hr0_
        obtain ⟨Au1_0, cu1_0, rfl⟩ := Kd.R_slice hr1_
        have Uu0_0 := am_ (RO.of (w := w) hr0_ L.out.size)
        have Uu1_0 := am_ (RO.of (w := w) hr1_ L.out.size)
        replace V29 := vb_ V29 hb
        replace V32 := vb_ V32 hb
        replace V53 := vb_ V53 hb
        replace V56 := vb_ V56 hb
        replace G16 := gb_ G16 hb
        replace G18 := gb_ G18 hb
        replace G27 := gb_ G27 hb
        replace G30 := gb_ G30 hb
        replace G58 := gb_ G58 hb
        replace G60 := gb_ G60 hb
        replace Vt0_0 := vb_ Vt0_0 hb
        replace By0 := gb_ By0 hb
        replace Vt1_0 := vb_ Vt1_0 hb
        replace L := lb_ L hb
        clear hb hr0_ hr1_
        refine hK.out _ _ ((two2_ G16 G18)) (fun hHeld => ?_)
        clear hK K
        refine nr_ ?_
        refine pu_ #[true, true, true, true, true, true, false, false, false, true, false, false, false, false] 5 119 (by kernel_rfl) ?_
        refine pu_ #[true, true, true, true, true, true, true, false, false, true, false, false, false, false] 6 125 (by kernel_rfl) ?_
        refine pu_ #[true, true, true, true, true, true, true, true, false, true, false, false, false, false] 7 126 (by kernel_rfl) ?_
        refine pu_ #[true, true, true, true, true, true, true, true, true, true, false, false, false, false] 8 127 (by kernel_rfl) ?_
        refine one_ (i := 10) (N := some 18) #[true, true, true, true, true, true, true, true, true, true, true, false, false, false] rfl rfl (by kernel_rfl) (by decide) (fun K hK => ?_)
        refine box_step ?hg (N := 18) ?hd (cs := #[.int .i64 0, .slice none 0 0]) (t := 26) ?hr ?_; (case hd => rfl); (case hg => rfl); (case hr => first | (go_simp; done) | (go_simp; rfl))
        intro y1 hg w1 hbox hb
        have By1 := by_ hbox
        have Ey1 := ey_ L hg
        have DG16_y1 := ny_ G16 hg
        have DG18_y1 := ny_ G18 hg
        have DG27_y1 := ny_ G27 hg
        have DG30_y1 := ny_ G30 hg
        have DG58_y1 := ny_ G58 hg
        have DG60_y1 := ny_ G60 hg
        have Dyy := ny_ By0 hg
        replace V29 := vb_ V29 hb
        replace V32 := vb_ V32 hb
        replace V53 := vb_ V53 hb
        replace V56 := vb_ V56 hb
        replace G16 := gb_ G16 hb
        replace G18 := gb_ G18 hb
        replace G27 := gb_ G27 hb
        replace G30 := gb_ G30 hb
        replace G58 := gb_ G58 hb
        replace G60 := gb_ G60 hb
        replace Vt0_0 := vb_ Vt0_0 hb
        replace By0 := gb_ By0 hb
        replace Vt1_0 := vb_ Vt1_0 hb
        replace Uu0_0 := vb_ Uu0_0 hb
        replace Uu1_0 := vb_ Uu1_0 hb
        replace L := lb_ L hb
        clear hb hg hbox
        refine hK.out _ _ ((two2_ G16 G18)) (fun hHeld => ?_)
        clear hK K
        refine nr_ ?_
        exact norm_ (by simp only [putAll, Act.put, List.setIfInBounds_toArray, List.set_cons_zero, List.set_cons_succ] <;> rfl) (hJ ((.slice At0_0 l0_1.length ct0_0), (.slice At1_0 l1_1.length ct1_0), (.slice Au0_0 r2.length cu0_0), (.slice Au1_0 r4.length cu1_0), y0, y1) _ ⟨hHeld, V29.out, V32.out, V53.out, V56.out, G16.out, G18.out, G27.out, G30.out, G58.out, G60.out, L.out, Uu0_0.out, Uu1_0.out, By0.out, Ey0.out, DG16_y0.out, DG18_y0.out, DG27_y0.out, DG30_y0.out, DG58_y0.out, DG60_y0.out, By1.out, Ey1.out, DG16_y1.out, DG18_y1.out, DG27_y1.out, DG30_y1.out, DG58_y1.out, DG60_y1.out, Dyy.out⟩)
       ·skip
        refine box_step ?hg (N := 18) ?hd (cs := #[.int .i64 0, .slice none 0 0]) (t := 26) ?hr ?_; (case hd => rfl); (case hg => rfl); (case hr => first | (go_simp; done) | (go_simp; rfl))
        intro y1 hg w1 hbox hb
        have By1 := by_ hbox
        have Ey1 := ey_ L hg
        have DG16_y1 := ny_ G16 hg
        have DG18_y1 := ny_ G18 hg
        have DG27_y1 := ny_ G27 hg
        have DG30_y1 := ny_ G30 hg
        have DG58_y1 := ny_ G58 hg
        have DG60_y1 := ny_ G60 hg
        have Dyy := ny_ By0 hg
        replace V29 := vb_ V29 hb
        replace V32 := vb_ V32 hb
        replace V53 := vb_ V53 hb
        replace V56 := vb_ V56 hb
        replace G16 := gb_ G16 hb
        replace G18 := gb_ G18 hb
        replace G27 := gb_ G27 hb
        replace G30 := gb_ G30 hb
        replace G58 := gb_ G58 hb
        replace G60 := gb_ G60 hb
        replace Vt0_0 := vb_ Vt0_0 hb
        replace By0 := gb_ By0 hb
        replace Vt1_0 := vb_ Vt1_0 hb
        replace L := lb_ L hb
        clear hb hg hbox
        refine hK.out _ _ ((two2_ G16 G18)) (fun hHeld => ?_)
        clear hK K
        refine nr_ ?_
        refine one_ (i := 4) (N := some 124) #[true, true, true, true, true, false, false, false, false, true, true, false, false, false] rfl rfl (by kernel_rfl) (by decide) (fun K hK => ?_)
        refine goes_ Tryd.func14 (by kernel_rfl) rfl #[.agg #[.int .i64 s0_0, .slice At0_0 l0_1.length ct0_0], .agg #[.int .i64 s1_0, .slice At1_0 l1_1.length ct1_0]] (by rfl) rfl rfl ma_ ?_
        with_reducible refine (impl_DivideWholes.calls s0_0 At0_0 ct0_0 l0_1 s1_0 At1_0 ct1_0 l1_1 r1 r2 r3 r4 r5 _ (Vt0_0.out.c) (Vt0_0.out.le) (Vt1_0.out.c) (Vt1_0.out.le) KF.out.f3).mono ?_
        rintro x w1 ⟨v0_, v1_, rfl, hr0_, hr1_, hb⟩
        refine ⟨_, rfl, ?_⟩
        obtain ⟨Au0_0, cu0_0, rfl⟩ := Kd.R_slice hr0_
        obtain ⟨Au1_0, cu1_0, rfl⟩ := Kd.R_slice hr1_
        have Uu0_0 := am_ (RO.of (w := w) hr0_ L.out.size)
        have Uu1_0 := am_ (RO.of (w := w) hr1_ L.out.size)
        replace V29 := vb_ V29 hb
        replace V32 := vb_ V32 hb
        replace V53 := vb_ V53 hb
        replace V56 := vb_ V56 hb
        replace G16 := gb_ G16 hb
        replace G18 := gb_ G18 hb
        replace G27 := gb_ G27 hb
        replace G30 := gb_ G30 hb
        replace G58 := gb_ G58 hb
        replace G60 := gb_ G60 hb
        replace Vt0_0 := vb_ Vt0_0 hb
        replace By0 := gb_ By0 hb
        replace Vt1_0 := vb_ Vt1_0 hb
        replace By1 := gb_ By1 hb
        replace L := lb_ L hb
        clear hb hr0_ hr1_
        refine hK.out _ _ ((two2_ G16 G18)) (fun hHeld => ?_)
        clear hK K
        refine nr_ ?_
        refine pu_ #[true, true, true, true, true, true, false, false, false, true, true, false, false, false] 5 119 (by kernel_rfl) ?_
        refine pu_ #[true, true, true, true, true, true, true, false, false, true, true, false, false, false] 6 125 (by kernel_rfl) ?_
        refine pu_ #[true, true, true, true, true, true, true, true, false, true, true, false, false, false] 7 126 (by kernel_rfl) ?_
        refine pu_ #[true, true, true, true, true, true, true, true, true, true, true, false, false, false] 8 127 (by kernel_rfl) ?_
        exact norm_ (by simp only [putAll, Act.put, List.setIfInBounds_toArray, List.set_cons_zero, List.set_cons_succ] <;> rfl) (hJ ((.slice At0_0 l0_1.length ct0_0), (.slice At1_0 l1_1.length ct1_0), (.slice Au0_0 r2.length cu0_0), (.slice Au1_0 r4.length cu1_0), y0, y1) _ ⟨hHeld, V29.out, V32.out, V53.out, V56.out, G16.out, G18.out, G27.out, G30.out, G58.out, G60.out, L.out, Uu0_0.out, Uu1_0.out, By0.out, Ey0.out, DG16_y0.out, DG18_y0.out, DG27_y0.out, DG30_y0.out, DG58_y0.out, DG60_y0.out, By1.out, Ey1.out, DG16_y1.out, DG18_y1.out, DG27_y1.out, DG30_y1.out, DG58_y1.out, DG60_y1.out, Dyy.out⟩)
      ·skip
       refine box_step ?hg (N := 18) ?hd (cs := #[.int .i64 0, .slice none 0 0]) (t := 26) ?hr ?_; (case hd => rfl); (case hg => rfl); (case hr => first | (go_simp; done) | (go_simp; rfl))
       intro y1 hg w1 hbox hb
       have By1 := by_ hbox
       have Ey1 := ey_ L hg
       have DG16_y1 := ny_ G16 hg
       have DG18_y1 := ny_ G18 hg
       have DG27_y1 := ny_ G27 hg
       have DG30_y1 := ny_ G30 hg
       have DG58_y1 := ny_ G58 hg
       have DG60_y1 := ny_ G60 hg
       have Dyy := ny_ By0 hg
       replace V29 := vb_ V29 hb
       replace V32 := vb_ V32 hb
       replace V53 := vb_ V53 hb
       replace V56 := vb_ V56 hb
       replace G16 := gb_ G16 hb
       replace G18 := gb_ G18 hb
       replace G27 := gb_ G27 hb
       replace G30 := gb_ G30 hb
       replace G58 := gb_ G58 hb
       replace G60 := gb_ G60 hb
       replace Vt0_0 := vb_ Vt0_0 hb
       replace By0 := gb_ By0 hb
       replace L := lb_ L hb
       clear hb hg hbox
       refine hK.out _ _ ((two2_ G16 G18)) (fun hHeld => ?_)
       clear hK K
       refine nr_ ?_
       refine one_ (i := 3) (N := some 123) #[true, true, true, true, false, false, false, false, false, true, true, false, false, false] rfl rfl (by kernel_rfl) (by decide) (fun K hK => ?_)
       refine goes_ Tryd.func13 (by kernel_rfl) rfl #[.agg #[.int .i64 s1_0, .slice A1_1 l1_1.length c1_1]] (by rfl) rfl rfl ma_ ?_
       obtain ⟨k, hk⟩ := KF.out.f1
       with_reducible refine (laws_toWhole.calls k s1_0 A1_1 c1_1 l1_1 s1_0 l1_1 _ (Kd.C_below HR1_1.out L.out) (HC1_1.out) hk).mono ?_
       rintro x w1 ⟨v0_, rfl, hr0_, hb⟩
       refine ⟨_, rfl, ?_⟩
       obtain ⟨At1_0, ct1_0, rfl⟩ := Kd.R_slice hr0_
       have Vt1_0 := am_ (RO.of (w := w) hr0_ L.out.size)
       replace V29 := vb_ V29 hb
       replace V32 := vb_ V32 hb
       replace V53 := vb_ V53 hb
       replace V56 := vb_ V56 hb
       replace G16 := gb_ G16 hb
       replace G18 := gb_ G18 hb
       replace G27 := gb_ G27 hb
       replace G30 := gb_ G30 hb
       replace G58 := gb_ G58 hb
       replace G60 := gb_ G60 hb
       replace Vt0_0 := vb_ Vt0_0 hb
       replace By0 := gb_ By0 hb
       replace By1 := gb_ By1 hb
       replace L := lb_ L hb
       clear hb hk hr0_
       refine hK.out _ _ ((two2_ G16 G18)) (fun hHeld => ?_)
       clear hK K
       refine nr_ ?_
       refine one_ (i := 4) (N := some 124) #[true, true, true, true, true, false, false, false, false, true, true, false, false, false] rfl rfl (by kernel_rfl) (by decide) (fun K hK => ?_)
       refine goes_ Tryd.func14 (by kernel_rfl) rfl #[.agg #[.int .i64 s0_0, .slice At0_0 l0_1.length ct0_0], .agg #[.int .i64 s1_0, .slice At1_0 l1_1.length ct1_0]] (by rfl) rfl rfl ma_ ?_
       with_reducible refine (impl_DivideWholes.calls s0_0 At0_0 ct0_0 l0_1 s1_0 At1_0 ct1_0 l1_1 r1 r2 r3 r4 r5 _ (Vt0_0.out.c) (Vt0_0.out.le) (Vt1_0.out.c) (Vt1_0.out.le) KF.out.f3).mono ?_
       rintro x w1 ⟨v0_, v1_, rfl, hr0_, hr1_, hb⟩
       refine ⟨_, rfl, ?_⟩
       obtain ⟨Au0_0, cu0_0, rfl⟩ := Kd.R_slice hr0_
       obtain ⟨Au1_0, cu1_0, rfl⟩ := Kd.R_slice hr1_
       have Uu0_0 := am_ (RO.of (w := w) hr0_ L.out.size)
       have Uu1_0 := am_ (RO.of (w := w) hr1_ L.out.size)
       replace V29 := vb_ V29 hb
       replace V32 := vb_ V32 hb
       replace V53 := vb_ V53 hb
       replace V56 := vb_ V56 hb
       replace G16 := gb_ G16 hb
       replace G18 := gb_ G18 hb
       replace G27 := gb_ G27 hb
       replace G30 := gb_ G30 hb
       replace G58 := gb_ G58 hb
       replace G60 := gb_ G60 hb
       replace Vt0_0 := vb_ Vt0_0 hb
       replace By0 := gb_ By0 hb
       replace By1 := gb_ By1 hb
       replace Vt1_0 := vb_ Vt1_0 hb
       replace L := lb_ L hb
       clear hb hr0_ hr1_
       refine hK.out _ _ ((two2_ G16 G18)) (fun hHeld => ?_)
       clear hK K
       refine nr_ ?_
       refine pu_ #[true, true, true, true, true, true, false, false, false, true, true, false, false, false] 5 119 (by kernel_rfl) ?_
       refine pu_ #[true, true, true, true, true, true, true, false, false, true, true, false, false, false] 6 125 (by kernel_rfl) ?_
       refine pu_ #[true, true, true, true, true, true, true, true, false, true, true, false, false, false] 7 126 (by kernel_rfl) ?_
       refine pu_ #[true, true, true, true, true, true, true, true, true, true, true, false, false, false] 8 127 (by kernel_rfl) ?_
       exact norm_ (by simp only [putAll, Act.put, List.setIfInBounds_toArray, List.set_cons_zero, List.set_cons_succ] <;> rfl) (hJ ((.slice At0_0 l0_1.length ct0_0), (.slice At1_0 l1_1.length ct1_0), (.slice Au0_0 r2.length cu0_0), (.slice Au1_0 r4.length cu1_0), y0, y1) _ ⟨hHeld, V29.out, V32.out, V53.out, V56.out, G16.out, G18.out, G27.out, G30.out, G58.out, G60.out, L.out, Uu0_0.out, Uu1_0.out, By0.out, Ey0.out, DG16_y0.out, DG18_y0.out, DG27_y0.out, DG30_y0.out, DG58_y0.out, DG60_y0.out, By1.out, Ey1.out, DG16_y1.out, DG18_y1.out, DG27_y1.out, DG30_y1.out, DG58_y1.out, DG60_y1.out, Dyy.out⟩)
     ·skip
      refine box_step ?hg (N := 18) ?hd (cs := #[.int .i64 0, .slice none 0 0]) (t := 26) ?hr ?_; (case hd => rfl); (case hg => rfl); (case hr => first | (go_simp; done) | (go_simp; rfl))
      intro y1 hg w1 hbox hb
      have By1 := by_ hbox
      have Ey1 := ey_ L hg
      have DG16_y1 := ny_ G16 hg
      have DG18_y1 := ny_ G18 hg
      have DG27_y1 := ny_ G27 hg
      have DG30_y1 := ny_ G30 hg
      have DG58_y1 := ny_ G58 hg
      have DG60_y1 := ny_ G60 hg
      replace V29 := vb_ V29 hb
      replace V32 := vb_ V32 hb
      replace V53 := vb_ V53 hb
      replace V56 := vb_ V56 hb
      replace G16 := gb_ G16 hb
      replace G18 := gb_ G18 hb
      replace G27 := gb_ G27 hb
      replace G30 := gb_ G30 hb
      replace G58 := gb_ G58 hb
      replace G60 := gb_ G60 hb
      replace Vt0_0 := vb_ Vt0_0 hb
      replace L := lb_ L hb
      clear hb hg hbox
      refine hK.out _ _ ((two2_ G16 G18)) (fun hHeld => ?_)
      clear hK K
      refine nr_ ?_
      refine two_ (i := 3) (j := 9) (Ni := some 123) (Nj := some 17) #[true, true, true, true, false, false, false, false, false, false, true, false, false, false] #[true, true, true, false, false, false, false, false, false, true, true, false, false, false] rfl rfl rfl rfl (by kernel_rfl) (by decide) (by decide) (fun K hK => ?_) (fun K hK => ?_)
      ·skip
       refine goes_ Tryd.func13 (by kernel_rfl) rfl #[.agg #[.int .i64 s1_0, .slice A1_1 l1_1.length c1_1]] (by rfl) rfl rfl ma_ ?_
       obtain ⟨k, hk⟩ := KF.out.f1
       with_reducible refine (laws_toWhole.calls k s1_0 A1_1 c1_1 l1_1 s1_0 l1_1 _ (Kd.C_below HR1_1.out L.out) (HC1_1.out) hk).mono ?_
       rintro x w1 ⟨v0_, rfl, hr0_, hb⟩
       refine ⟨_, rfl, ?_⟩
       obtain ⟨At1_0, ct1_0, rfl⟩ := Kd.R_slice hr0_
       have Vt1_0 := am_ (RO.of (w := w) hr0_ L.out.size)
       replace V29 := vb_ V29 hb
       replace V32 := vb_ V32 hb
       replace V53 := vb_ V53 hb
       replace V56 := vb_ V56 hb
       replace G16 := gb_ G16 hb
       replace G18 := gb_ G18 hb
       replace G27 := gb_ G27 hb
       replace G30 := gb_ G30 hb
       replace G58 := gb_ G58 hb
       replace G60 := gb_ G60 hb
       replace Vt0_0 := vb_ Vt0_0 hb
       replace By1 := gb_ By1 hb
       replace L := lb_ L hb
       clear hb hk hr0_
       refine hK.out _ _ ((two2_ G16 G18)) (fun hHeld => ?_)
       clear hK K
       refine nr_ ?_
       refine two_ (i := 4) (j := 9) (Ni := some 124) (Nj := some 17) #[true, true, true, true, true, false, false, false, false, false, true, false, false, false] #[true, true, true, true, false, false, false, false, false, true, true, false, false, false] rfl rfl rfl rfl (by kernel_rfl) (by decide) (by decide) (fun K hK => ?_) (fun K hK => ?_)
       ·skip
        refine goes_ Tryd.func14 (by kernel_rfl) rfl #[.agg #[.int .i64 s0_0, .slice At0_0 l0_1.length ct0_0], .agg #[.int .i64 s1_0, .slice At1_0 l1_1.length ct1_0]] (by rfl) rfl rfl ma_ ?_
        with_reducible refine (impl_DivideWholes.calls s0_0 At0_0 ct0_0 l0_1 s1_0 At1_0 ct1_0 l1_1 r1 r2 r3 r4 r5 _ (Vt0_0.out.c) (Vt0_0.out.le) (Vt1_0.out.c) (Vt1_0.out.le) KF.out.f3).mono ?_
        rintro x w1 ⟨v0_, v1_, rfl, hr0_, hr1_, hb⟩
        refine ⟨_, rfl, ?_⟩
        obtain ⟨Au0_0, cu0_0, rfl⟩ := Kd.R_slice hr0_
        obtain ⟨Au1_0, cu1_0, rfl⟩ := Kd.R_slice hr1_
        have Uu0_0 := am_ (RO.of (w := w) hr0_ L.out.size)
        have Uu1_0 := am_ (RO.of (w := w) hr1_ L.out.size)
        replace V29 := vb_ V29 hb
        replace V32 := vb_ V32 hb
        replace V53 := vb_ V53 hb
        replace V56 := vb_ V56 hb
        replace G16 := gb_ G16 hb
        replace G18 := gb_ G18 hb
        replace G27 := gb_ G27 hb
        replace G30 := gb_ G30 hb
        replace G58 := gb_ G58 hb
        replace G60 := gb_ G60 hb
        replace Vt0_0 := vb_ Vt0_0 hb
        replace By1 := gb_ By1 hb
        replace Vt1_0 := vb_ Vt1_0 hb
        replace L := lb_ L hb
        clear hb hr0_ hr1_
        refine hK.out _ _ ((two2_ G16 G18)) (fun hHeld => ?_)
        clear hK K
        refine nr_ ?_
        refine pu_ #[true, true, true, true, true, true, false, false, false, false, true, false, false, false] 5 119 (by kernel_rfl) ?_
        refine pu_ #[true, true, true, true, true, true, true, false, false, false, true, false, false, false] 6 125 (by kernel_rfl) ?_
        refine pu_ #[true, true, true, true, true, true, true, true, false, false, true, false, false, false] 7 126 (by kernel_rfl) ?_
        refine pu_ #[true, true, true, true, true, true, true, true, true, false, true, false, false, false] 8 127 (by kernel_rfl) ?_
        refine one_ (i := 9) (N := some 17) #[true, true, true, true, true, true, true, true, true, true, true, false, false, false] rfl rfl (by kernel_rfl) (by decide) (fun K hK => ?_)
        refine box_step ?hg (N := 17) ?hd (cs := #[.int .i64 0, .slice none 0 0]) (t := 26) ?hr ?_; (case hd => rfl); (case hg => rfl); (case hr => first | (go_simp; done) | (go_simp; rfl))
        intro y0 hg w1 hbox hb
        have By0 := by_ hbox
        have Ey0 := ey_ L hg
        have DG16_y0 := ny_ G16 hg
        have DG18_y0 := ny_ G18 hg
        have DG27_y0 := ny_ G27 hg
        have DG30_y0 := ny_ G30 hg
        have DG58_y0 := ny_ G58 hg
        have DG60_y0 := ny_ G60 hg
        have Dyy := am_ (show y0 ≠ y1 from by rw [hg]; exact Nat.ne_of_gt (blk_lt By1.out.x))
        replace V29 := vb_ V29 hb
        replace V32 := vb_ V32 hb
        replace V53 := vb_ V53 hb
        replace V56 := vb_ V56 hb
        replace G16 := gb_ G16 hb
        replace G18 := gb_ G18 hb
        replace G27 := gb_ G27 hb
        replace G30 := gb_ G30 hb
        replace G58 := gb_ G58 hb
        replace G60 := gb_ G60 hb
        replace Vt0_0 := vb_ Vt0_0 hb
        replace By1 := gb_ By1 hb
        replace Vt1_0 := vb_ Vt1_0 hb
        replace Uu0_0 := vb_ Uu0_0 hb
        replace Uu1_0 := vb_ Uu1_0 hb
        replace L := lb_ L hb
        clear hb hg hbox
        refine hK.out _ _ ((two2_ G16 G18)) (fun hHeld => ?_)
        clear hK K
        refine nr_ ?_
        exact norm_ (by simp only [putAll, Act.put, List.setIfInBounds_toArray, List.set_cons_zero, List.set_cons_succ] <;> rfl) (hJ ((.slice At0_0 l0_1.length ct0_0), (.slice At1_0 l1_1.length ct1_0), (.slice Au0_0 r2.length cu0_0), (.slice Au1_0 r4.length cu1_0), y0, y1) _ ⟨hHeld, V29.out, V32.out, V53.out, V56.out, G16.out, G18.out, G27.out, G30.out, G58.out, G60.out, L.out, Uu0_0.out, Uu1_0.out, By0.out, Ey0.out, DG16_y0.out, DG18_y0.out, DG27_y0.out, DG30_y0.out, DG58_y0.out, DG60_y0.out, By1.out, Ey1.out, DG16_y1.out, DG18_y1.out, DG27_y1.out, DG30_y1.out, DG58_y1.out, DG60_y1.out, Dyy.out⟩)
       ·skip
        refine box_step ?hg (N := 17) ?hd (cs := #[.int .i64 0, .slice none 0 0]) (t := 26) ?hr ?_; (case hd => rfl); (case hg => rfl); (case hr => first | (go_simp; done) | (go_simp; rfl))
        intro y0 hg w1 hbox hb
        have By0 := by_ hbox
        have Ey0 := ey_ L hg
        have DG16_y0 := ny_ G16 hg
        have DG18_y0 := ny_ G18 hg
        have DG27_y0 := ny_ G27 hg
        have DG30_y0 := ny_ G30 hg
        have DG58_y0 := ny_ G58 hg
        have DG60_y0 := ny_ G60 hg
        have Dyy := am_ (show y0 ≠ y1 from by rw [hg]; exact Nat.ne_of_gt (blk_lt By1.out.x))
        replace V29 := vb_ V29 hb
        replace V32 := vb_ V32 hb
        replace V53 := vb_ V53 hb
        replace V56 := vb_ V56 hb
        replace G16 := gb_ G16 hb
        replace G18 := gb_ G18 hb
        replace G27 := gb_ G27 hb
        replace G30 := gb_ G30 hb
        replace G58 := gb_ G58 hb
        replace G60 := gb_ G60 hb
        replace Vt0_0 := vb_ Vt0_0 hb
        replace By1 := gb_ By1 hb
        replace Vt1_0 := vb_ Vt1_0 hb
        replace L := lb_ L hb
        clear hb hg hbox
        refine hK.out _ _ ((two2_ G16 G18)) (fun hHeld => ?_)
        clear hK K
        refine nr_ ?_
        refine one_ (i := 4) (N := some 124) #[true, true, true, true, true, false, false, false, false, true, true, false, false, false] rfl rfl (by kernel_rfl) (by decide) (fun K hK => ?_)
        refine goes_ Tryd.func14 (by kernel_rfl) rfl #[.agg #[.int .i64 s0_0, .slice At0_0 l0_1.length ct0_0], .agg #[.int .i64 s1_0, .slice At1_0 l1_1.length ct1_0]] (by rfl) rfl rfl ma_ ?_
        with_reducible refine (impl_DivideWholes.calls s0_0 At0_0 ct0_0 l0_1 s1_0 At1_0 ct1_0 l1_1 r1 r2 r3 r4 r5 _ (Vt0_0.out.c) (Vt0_0.out.le) (Vt1_0.out.c) (Vt1_0.out.le) KF.out.f3).mono ?_
        rintro x w1 ⟨v0_, v1_, rfl, hr0_, hr1_, hb⟩
        refine ⟨_, rfl, ?_⟩
        obtain ⟨Au0_0, cu0_0, rfl⟩ := Kd.R_slice hr0_
        obtain ⟨Au1_0, cu1_0, rfl⟩ := Kd.R_slice hr1_
        have Uu0_0 := am_ (RO.of (w := w) hr0_ L.out.size)
        have Uu1_0 := am_ (RO.of (w := w) hr1_ L.out.size)
        replace V29 := vb_ V29 hb
        replace V32 := vb_ V32 hb
        replace V53 := vb_ V53 hb
        replace V56 := vb_ V56 hb
        replace G16 := gb_ G16 hb
        replace G18 := gb_ G18 hb
        replace G27 := gb_ G27 hb
        replace G30 := gb_ G30 hb
        replace G58 := gb_ G58 hb
        replace G60 := gb_ G60 hb
        replace Vt0_0 := vb_ Vt0_0 hb
        replace By1 := gb_ By1 hb
        replace Vt1_0 := vb_ Vt1_0 hb
        replace By0 := gb_ By0 hb
        replace L := lb_ L hb
        clear hb hr0_ hr1_
        refine hK.out _ _ ((two2_ G16 G18)) (fun hHeld => ?_)
        clear hK K
        refine nr_ ?_
        refine pu_ #[true, true, true, true, true, true, false, false, false, true, true, false, false, false] 5 119 (by kernel_rfl) ?_
        refine pu_ #[true, true, true, true, true, true, true, false, false, true, true, false, false, false] 6 125 (by kernel_rfl) ?_
        refine pu_ #[true, true, true, true, true, true, true, true, false, true, true, false, false, false] 7 126 (by kernel_rfl) ?_
        refine pu_ #[true, true, true, true, true, true, true, true, true, true, true, false, false, false] 8 127 (by kernel_rfl) ?_
        exact norm_ (by simp only [putAll, Act.put, List.setIfInBounds_toArray, List.set_cons_zero, List.set_cons_succ] <;> rfl) (hJ ((.slice At0_0 l0_1.length ct0_0), (.slice At1_0 l1_1.length ct1_0), (.slice Au0_0 r2.length cu0_0), (.slice Au1_0 r4.length cu1_0), y0, y1) _ ⟨hHeld, V29.out, V32.out, V53.out, V56.out, G16.out, G18.out, G27.out, G30.out, G58.out, G60.out, L.out, Uu0_0.out, Uu1_0.out, By0.out, Ey0.out, DG16_y0.out, DG18_y0.out, DG27_y0.out, DG30_y0.out, DG58_y0.out, DG60_y0.out, By1.out, Ey1.out, DG16_y1.out, DG18_y1.out, DG27_y1.out, DG30_y1.out, DG58_y1.out, DG60_y1.out, Dyy.out⟩)
      ·skip
       refine box_step ?hg (N := 17) ?hd (cs := #[.int .i64 0, .slice none 0 0]) (t := 26) ?hr ?_; (case hd => rfl); (case hg => rfl); (case hr => first | (go_simp; done) | (go_simp; rfl))
       intro y0 hg w1 hbox hb
       have By0 := by_ hbox
       have Ey0 := ey_ L hg
       have DG16_y0 := ny_ G16 hg
       have DG18_y0 := ny_ G18 hg
       have DG27_y0 := ny_ G27 hg
       have DG30_y0 := ny_ G30 hg
       have DG58_y0 := ny_ G58 hg
       have DG60_y0 := ny_ G60 hg
       have Dyy := am_ (show y0 ≠ y1 from by rw [hg]; exact Nat.ne_of_gt (blk_lt By1.out.x))
       replace V29 := vb_ V29 hb
       replace V32 := vb_ V32 hb
       replace V53 := vb_ V53 hb
       replace V56 := vb_ V56 hb
       replace G16 := gb_ G16 hb
       replace G18 := gb_ G18 hb
       replace G27 := gb_ G27 hb
       replace G30 := gb_ G30 hb
       replace G58 := gb_ G58 hb
       replace G60 := gb_ G60 hb
       replace Vt0_0 := vb_ Vt0_0 hb
       replace By1 := gb_ By1 hb
       replace L := lb_ L hb
       clear hb hg hbox
       refine hK.out _ _ ((two2_ G16 G18)) (fun hHeld => ?_)
       clear hK K
       refine nr_ ?_
       refine one_ (i := 3) (N := some 123) #[true, true, true, true, false, false, false, false, false, true, true, false, false, false] rfl rfl (by kernel_rfl) (by decide) (fun K hK => ?_)
       refine goes_ Tryd.func13 (by kernel_rfl) rfl #[.agg #[.int .i64 s1_0, .slice A1_1 l1_1.length c1_1]] (by rfl) rfl rfl ma_ ?_
       obtain ⟨k, hk⟩ := KF.out.f1
       with_reducible refine (laws_toWhole.calls k s1_0 A1_1 c1_1 l1_1 s1_0 l1_1 _ (Kd.C_below HR1_1.out L.out) (HC1_1.out) hk).mono ?_
       rintro x w1 ⟨v0_, rfl, hr0_, hb⟩
       refine ⟨_, rfl, ?_⟩
       obtain ⟨At1_0, ct1_0, rfl⟩ := Kd.R_slice hr0_
       have Vt1_0 := am_ (RO.of (w := w) hr0_ L.out.size)
       replace V29 := vb_ V29 hb
       replace V32 := vb_ V32 hb
       replace V53 := vb_ V53 hb
       replace V56 := vb_ V56 hb
       replace G16 := gb_ G16 hb
       replace G18 := gb_ G18 hb
       replace G27 := gb_ G27 hb
       replace G30 := gb_ G30 hb
       replace G58 := gb_ G58 hb
       replace G60 := gb_ G60 hb
       replace Vt0_0 := vb_ Vt0_0 hb
       replace By1 := gb_ By1 hb
       replace By0 := gb_ By0 hb
       replace L := lb_ L hb
       clear hb hk hr0_
       refine hK.out _ _ ((two2_ G16 G18)) (fun hHeld => ?_)
       clear hK K
       refine nr_ ?_
       refine one_ (i := 4) (N := some 124) #[true, true, true, true, true, false, false, false, false, true, true, false, false, false] rfl rfl (by kernel_rfl) (by decide) (fun K hK => ?_)
       refine goes_ Tryd.func14 (by kernel_rfl) rfl #[.agg #[.int .i64 s0_0, .slice At0_0 l0_1.length ct0_0], .agg #[.int .i64 s1_0, .slice At1_0 l1_1.length ct1_0]] (by rfl) rfl rfl ma_ ?_
       with_reducible refine (impl_DivideWholes.calls s0_0 At0_0 ct0_0 l0_1 s1_0 At1_0 ct1_0 l1_1 r1 r2 r3 r4 r5 _ (Vt0_0.out.c) (Vt0_0.out.le) (Vt1_0.out.c) (Vt1_0.out.le) KF.out.f3).mono ?_
       rintro x w1 ⟨v0_, v1_, rfl, hr0_, hr1_, hb⟩
       refine ⟨_, rfl, ?_⟩
       obtain ⟨Au0_0, cu0_0, rfl⟩ := Kd.R_slice hr0_
       obtain ⟨Au1_0, cu1_0, rfl⟩ := Kd.R_slice hr1_
       have Uu0_0 := am_ (RO.of (w := w) hr0_ L.out.size)
       have Uu1_0 := am_ (RO.of (w := w) hr1_ L.out.size)
       replace V29 := vb_ V29 hb
       replace V32 := vb_ V32 hb
       replace V53 := vb_ V53 hb
       replace V56 := vb_ V56 hb
       replace G16 := gb_ G16 hb
       replace G18 := gb_ G18 hb
       replace G27 := gb_ G27 hb
       replace G30 := gb_ G30 hb
       replace G58 := gb_ G58 hb
       replace G60 := gb_ G60 hb
       replace Vt0_0 := vb_ Vt0_0 hb
       replace By1 := gb_ By1 hb
       replace By0 := gb_ By0 hb
       replace Vt1_0 := vb_ Vt1_0 hb
       replace L := lb_ L hb
       clear hb hr0_ hr1_
       refine hK.out _ _ ((two2_ G16 G18)) (fun hHeld => ?_)
       clear hK K
       refine nr_ ?_
       refine pu_ #[true, true, true, true, true, true, false, false, false, true, true, false, false, false] 5 119 (by kernel_rfl) ?_
       refine pu_ #[true, true, true, true, true, true, true, false, false, true, true, false, false, false] 6 125 (by kernel_rfl) ?_
       refine pu_ #[true, true, true, true, true, true, true, true, false, true, true, false, false, false] 7 126 (by kernel_rfl) ?_
       refine pu_ #[true, true, true, true, true, true, true, true, true, true, true, false, false, false] 8 127 (by kernel_rfl) ?_
       exact norm_ (by simp only [putAll, Act.put, List.setIfInBounds_toArray, List.set_cons_zero, List.set_cons_succ] <;> rfl) (hJ ((.slice At0_0 l0_1.length ct0_0), (.slice At1_0 l1_1.length ct1_0), (.slice Au0_0 r2.length cu0_0), (.slice Au1_0 r4.length cu1_0), y0, y1) _ ⟨hHeld, V29.out, V32.out, V53.out, V56.out, G16.out, G18.out, G27.out, G30.out, G58.out, G60.out, L.out, Uu0_0.out, Uu1_0.out, By0.out, Ey0.out, DG16_y0.out, DG18_y0.out, DG27_y0.out, DG30_y0.out, DG58_y0.out, DG60_y0.out, By1.out, Ey1.out, DG16_y1.out, DG18_y1.out, DG27_y1.out, DG30_y1.out, DG58_y1.out, DG60_y1.out, Dyy.out⟩)
    ·skip
     refine box_step ?hg (N := 17) ?hd (cs := #[.int .i64 0, .slice none 0 0]) (t := 26) ?hr ?_; (case hd => rfl); (case hg => rfl); (case hr => first | (go_simp; done) | (go_simp; rfl))
     intro y0 hg w1 hbox hb
     have By0 := by_ hbox
     have Ey0 := ey_ L hg
     have DG16_y0 := ny_ G16 hg
     have DG18_y0 := ny_ G18 hg
     have DG27_y0 := ny_ G27 hg
     have DG30_y0 := ny_ G30 hg
     have DG58_y0 := ny_ G58 hg
     have DG60_y0 := ny_ G60 hg
     replace V29 := vb_ V29 hb
     replace V32 := vb_ V32 hb
     replace V53 := vb_ V53 hb
     replace V56 := vb_ V56 hb
     replace G16 := gb_ G16 hb
     replace G18 := gb_ G18 hb
     replace G27 := gb_ G27 hb
     replace G30 := gb_ G30 hb
     replace G58 := gb_ G58 hb
     replace G60 := gb_ G60 hb
     replace L := lb_ L hb
     clear hb hg hbox
     refine hK.out _ _ ((two2_ G16 G18)) (fun hHeld => ?_)
     clear hK K
     refine nr_ ?_
     refine two_ (i := 1) (j := 10) (Ni := some 121) (Nj := some 18) #[true, true, true, false, false, false, false, false, false, true, false, false, false, false] #[true, false, true, false, false, false, false, false, false, true, true, false, false, false] rfl rfl rfl rfl (by kernel_rfl) (by decide) (by decide) (fun K hK => ?_) (fun K hK => ?_)
     ·skip
      refine goes_ Tryd.func13 (by kernel_rfl) rfl #[.agg #[.int .i64 s0_0, .slice A0_1 l0_1.length c0_1]] (by rfl) rfl rfl ma_ ?_
      obtain ⟨k, hk⟩ := KF.out.f0
      with_reducible refine (laws_toWhole.calls k s0_0 A0_1 c0_1 l0_1 s0_0 l0_1 _ (Kd.C_below HR0_1.out L.out) (HC0_1.out) hk).mono ?_
      rintro x w1 ⟨v0_, rfl, hr0_, hb⟩
      refine ⟨_, rfl, ?_⟩
      obtain ⟨At0_0, ct0_0, rfl⟩ := Kd.R_slice hr0_
      have Vt0_0 := am_ (RO.of (w := w) hr0_ L.out.size)
      replace V29 := vb_ V29 hb
      replace V32 := vb_ V32 hb
      replace V53 := vb_ V53 hb
      replace V56 := vb_ V56 hb
      replace G16 := gb_ G16 hb
      replace G18 := gb_ G18 hb
      replace G27 := gb_ G27 hb
      replace G30 := gb_ G30 hb
      replace G58 := gb_ G58 hb
      replace G60 := gb_ G60 hb
      replace By0 := gb_ By0 hb
      replace L := lb_ L hb
      clear hb hk hr0_
      refine hK.out _ _ ((two2_ G16 G18)) (fun hHeld => ?_)
      clear hK K
      refine nr_ ?_
      refine two_ (i := 3) (j := 10) (Ni := some 123) (Nj := some 18) #[true, true, true, true, false, false, false, false, false, true, false, false, false, false] #[true, true, true, false, false, false, false, false, false, true, true, false, false, false] rfl rfl rfl rfl (by kernel_rfl) (by decide) (by decide) (fun K hK => ?_) (fun K hK => ?_)
      ·skip
       refine goes_ Tryd.func13 (by kernel_rfl) rfl #[.agg #[.int .i64 s1_0, .slice A1_1 l1_1.length c1_1]] (by rfl) rfl rfl ma_ ?_
       obtain ⟨k, hk⟩ := KF.out.f1
       with_reducible refine (laws_toWhole.calls k s1_0 A1_1 c1_1 l1_1 s1_0 l1_1 _ (Kd.C_below HR1_1.out L.out) (HC1_1.out) hk).mono ?_
       rintro x w1 ⟨v0_, rfl, hr0_, hb⟩
       refine ⟨_, rfl, ?_⟩
       obtain ⟨At1_0, ct1_0, rfl⟩ := Kd.R_slice hr0_
       have Vt1_0 := am_ (RO.of (w := w) hr0_ L.out.size)
       replace V29 := vb_ V29 hb
       replace V32 := vb_ V32 hb
       replace V53 := vb_ V53 hb
       replace V56 := vb_ V56 hb
       replace G16 := gb_ G16 hb
       replace G18 := gb_ G18 hb
       replace G27 := gb_ G27 hb
       replace G30 := gb_ G30 hb
       replace G58 := gb_ G58 hb
       replace G60 := gb_ G60 hb
       replace By0 := gb_ By0 hb
       replace Vt0_0 := vb_ Vt0_0 hb
       replace L := lb_ L hb
       clear hb hk hr0_
       refine hK.out _ _ ((two2_ G16 G18)) (fun hHeld => ?_)
       clear hK K
       refine nr_ ?_
       refine two_ (i := 4) (j := 10) (Ni := some 124) (Nj := some 18) #[true, true, true, true, true, false, false, false, false, true, false, false, false, false] #[true, true, true, true, false, false, false, false, false, true, true, false, false, false] rfl rfl rfl rfl (by kernel_rfl) (by decide) (by decide) (fun K hK => ?_) (fun K hK => ?_)
       ·skip
        refine goes_ Tryd.func14 (by kernel_rfl) rfl #[.agg #[.int .i64 s0_0, .slice At0_0 l0_1.length ct0_0], .agg #[.int .i64 s1_0, .slice At1_0 l1_1.length ct1_0]] (by rfl) rfl rfl ma_ ?_
        with_reducible refine (impl_DivideWholes.calls s0_0 At0_0 ct0_0 l0_1 s1_0 At1_0 ct1_0 l1_1 r1 r2 r3 r4 r5 _ (Vt0_0.out.c) (Vt0_0.out.le) (Vt1_0.out.c) (Vt1_0.out.le) KF.out.f3).mono ?_
        rintro x w1 ⟨v0_, v1_, rfl, hr0_, hr1_, hb⟩
        refine ⟨_, rfl, ?_⟩
        obtain ⟨Au0_0, cu0_0, rfl⟩ := Kd.R_slice hr0_
        obtain ⟨Au1_0, cu1_0, rfl⟩ := Kd.R_slice hr1_
        have Uu0_0 := am_ (RO.of (w := w) hr0_ L.out.size)
        have Uu1_0 := am_ (RO.of (w := w) hr1_ L.out.size)
        replace V29 := vb_ V29 hb
        replace V32 := vb_ V32 hb
        replace V53 := vb_ V53 hb
        replace V56 := vb_ V56 hb
        replace G16 := gb_ G16 hb
        replace G18 := gb_ G18 hb
        replace G27 := gb_ G27 hb
        replace G30 := gb_ G30 hb
        replace G58 := gb_ G58 hb
        replace G60 := gb_ G60 hb
        replace By0 := gb_ By0 hb
        replace Vt0_0 := vb_ Vt0_0 hb
        replace Vt1_0 := vb_ Vt1_0 hb
        replace L := lb_ L hb
        clear hb hr0_ hr1_
        refine hK.out _ _ ((two2_ G16 G18)) (fun hHeld => ?_)
        clear hK K
        refine nr_ ?_
        refine pu_ #[true, true, true, true, true, true, false, false, false, true, false, false, false, false] 5 119 (by kernel_rfl) ?_
        refine pu_ #[true, true, true, true, true, true, true, false, false, true, false, false, false, false] 6 125 (by kernel_rfl) ?_
        refine pu_ #[true, true, true, true, true, true, true, true, false, true, false, false, false, false] 7 126 (by kernel_rfl) ?_
        refine pu_ #[true, true, true, true, true, true, true, true, true, true, false, false, false, false] 8 127 (by kernel_rfl) ?_
        refine one_ (i := 10) (N := some 18) #[true, true, true, true, true, true, true, true, true, true, true, false, false, false] rfl rfl (by kernel_rfl) (by decide) (fun K hK => ?_)
        refine box_step ?hg (N := 18) ?hd (cs := #[.int .i64 0, .slice none 0 0]) (t := 26) ?hr ?_; (case hd => rfl); (case hg => rfl); (case hr => first | (go_simp; done) | (go_simp; rfl))
        intro y1 hg w1 hbox hb
        have By1 := by_ hbox
        have Ey1 := ey_ L hg
        have DG16_y1 := ny_ G16 hg
        have DG18_y1 := ny_ G18 hg
        have DG27_y1 := ny_ G27 hg
        have DG30_y1 := ny_ G30 hg
        have DG58_y1 := ny_ G58 hg
        have DG60_y1 := ny_ G60 hg
        have Dyy := ny_ By0 hg
        replace V29 := vb_ V29 hb
        replace V32 := vb_ V32 hb
        replace V53 := vb_ V53 hb
        replace V56 := vb_ V56 hb
        replace G16 := gb_ G16 hb
        replace G18 := gb_ G18 hb
        replace G27 := gb_ G27 hb
        replace G30 := gb_ G30 hb
        replace G58 := gb_ G58 hb
        replace G60 := gb_ G60 hb
        replace By0 := gb_ By0 hb
        replace Vt0_0 := vb_ Vt0_0 hb
        replace Vt1_0 := vb_ Vt1_0 hb
        replace Uu0_0 := vb_ Uu0_0 hb
        replace Uu1_0 := vb_ Uu1_0 hb
        replace L := lb_ L hb
        clear hb hg hbox
        refine hK.out _ _ ((two2_ G16 G18)) (fun hHeld => ?_)
        clear hK K
        refine nr_ ?_
        exact norm_ (by simp only [putAll, Act.put, List.setIfInBounds_toArray, List.set_cons_zero, List.set_cons_succ] <;> rfl) (hJ ((.slice At0_0 l0_1.length ct0_0), (.slice At1_0 l1_1.length ct1_0), (.slice Au0_0 r2.length cu0_0), (.slice Au1_0 r4.length cu1_0), y0, y1) _ ⟨hHeld, V29.out, V32.out, V53.out, V56.out, G16.out, G18.out, G27.out, G30.out, G58.out, G60.out, L.out, Uu0_0.out, Uu1_0.out, By0.out, Ey0.out, DG16_y0.out, DG18_y0.out, DG27_y0.out, DG30_y0.out, DG58_y0.out, DG60_y0.out, By1.out, Ey1.out, DG16_y1.out, DG18_y1.out, DG27_y1.out, DG30_y1.out, DG58_y1.out, DG60_y1.out, Dyy.out⟩)
       ·skip
        refine box_step ?hg (N := 18) ?hd (cs := #[.int .i64 0, .slice none 0 0]) (t := 26) ?hr ?_; (case hd => rfl); (case hg => rfl); (case hr => first | (go_simp; done) | (go_simp; rfl))
        intro y1 hg w1 hbox hb
        have By1 := by_ hbox
        have Ey1 := ey_ L hg
        have DG16_y1 := ny_ G16 hg
        have DG18_y1 := ny_ G18 hg
        have DG27_y1 := ny_ G27 hg
        have DG30_y1 := ny_ G30 hg
        have DG58_y1 := ny_ G58 hg
        have DG60_y1 := ny_ G60 hg
        have Dyy := ny_ By0 hg
        replace V29 := vb_ V29 hb
        replace V32 := vb_ V32 hb
        replace V53 := vb_ V53 hb
        replace V56 := vb_ V56 hb
        replace G16 := gb_ G16 hb
        replace G18 := gb_ G18 hb
        replace G27 := gb_ G27 hb
        replace G30 := gb_ G30 hb
        replace G58 := gb_ G58 hb
        replace G60 := gb_ G60 hb
        replace By0 := gb_ By0 hb
        replace Vt0_0 := vb_ Vt0_0 hb
        replace Vt1_0 := vb_ Vt1_0 hb
        replace L := lb_ L hb
        clear hb hg hbox
        refine hK.out _ _ ((two2_ G16 G18)) (fun hHeld => ?_)
        clear hK K
        refine nr_ ?_
        refine one_ (i := 4) (N := some 124) #[true, true, true, true, true, false, false, false, false, true, true, false, false, false] rfl rfl (by kernel_rfl) (by decide) (fun K hK => ?_)
        refine goes_ Tryd.func14 (by kernel_rfl) rfl #[.agg #[.int .i64 s0_0, .slice At0_0 l0_1.length ct0_0], .agg #[.int .i64 s1_0, .slice At1_0 l1_1.length ct1_0]] (by rfl) rfl rfl ma_ ?_
        with_reducible refine (impl_DivideWholes.calls s0_0 At0_0 ct0_0 l0_1 s1_0 At1_0 ct1_0 l1_1 r1 r2 r3 r4 r5 _ (Vt0_0.out.c) (Vt0_0.out.le) (Vt1_0.out.c) (Vt1_0.out.le) KF.out.f3).mono ?_
        rintro x w1 ⟨v0_, v1_, rfl, hr0_, hr1_, hb⟩
        refine ⟨_, rfl, ?_⟩
        obtain ⟨Au0_0, cu0_0, rfl⟩ := Kd.R_slice hr0_
        obtain ⟨Au1_0, cu1_0, rfl⟩ := Kd.R_slice hr1_
        have Uu0_0 := am_ (RO.of (w := w) hr0_ L.out.size)
        have Uu1_0 := am_ (RO.of (w := w) hr1_ L.out.size)
        replace V29 := vb_ V29 hb
        replace V32 := vb_ V32 hb
        replace V53 := vb_ V53 hb
        replace V56 := vb_ V56 hb
        replace G16 := gb_ G16 hb
        replace G18 := gb_ G18 hb
        replace G27 := gb_ G27 hb
        replace G30 := gb_ G30 hb
        replace G58 := gb_ G58 hb
        replace G60 := gb_ G60 hb
        replace By0 := gb_ By0 hb
        replace Vt0_0 := vb_ Vt0_0 hb
        replace Vt1_0 := vb_ Vt1_0 hb
        replace By1 := gb_ By1 hb
        replace L := lb_ L hb
        clear hb hr0_ hr1_
        refine hK.out _ _ ((two2_ G16 G18)) (fun hHeld => ?_)
        clear hK K
        refine nr_ ?_
        refine pu_ #[true, true, true, true, true, true, false, false, false, true, true, false, false, false] 5 119 (by kernel_rfl) ?_
        refine pu_ #[true, true, true, true, true, true, true, false, false, true, true, false, false, false] 6 125 (by kernel_rfl) ?_
        refine pu_ #[true, true, true, true, true, true, true, true, false, true, true, false, false, false] 7 126 (by kernel_rfl) ?_
        refine pu_ #[true, true, true, true, true, true, true, true, true, true, true, false, false, false] 8 127 (by kernel_rfl) ?_
        exact norm_ (by simp only [putAll, Act.put, List.setIfInBounds_toArray, List.set_cons_zero, List.set_cons_succ] <;> rfl) (hJ ((.slice At0_0 l0_1.length ct0_0), (.slice At1_0 l1_1.length ct1_0), (.slice Au0_0 r2.length cu0_0), (.slice Au1_0 r4.length cu1_0), y0, y1) _ ⟨hHeld, V29.out, V32.out, V53.out, V56.out, G16.out, G18.out, G27.out, G30.out, G58.out, G60.out, L.out, Uu0_0.out, Uu1_0.out, By0.out, Ey0.out, DG16_y0.out, DG18_y0.out, DG27_y0.out, DG30_y0.out, DG58_y0.out, DG60_y0.out, By1.out, Ey1.out, DG16_y1.out, DG18_y1.out, DG27_y1.out, DG30_y1.out, DG58_y1.out, DG60_y1.out, Dyy.out⟩)
      ·skip
       refine box_step ?hg (N := 18) ?hd (cs := #[.int .i64 0, .slice none 0 0]) (t := 26) ?hr ?_; (case hd => rfl); (case hg => rfl); (case hr => first | (go_simp; done) | (go_simp; rfl))
       intro y1 hg w1 hbox hb
       have By1 := by_ hbox
       have Ey1 := ey_ L hg
       have DG16_y1 := ny_ G16 hg
       have DG18_y1 := ny_ G18 hg
       have DG27_y1 := ny_ G27 hg
       have DG30_y1 := ny_ G30 hg
       have DG58_y1 := ny_ G58 hg
       have DG60_y1 := ny_ G60 hg
       have Dyy := ny_ By0 hg
       replace V29 := vb_ V29 hb
       replace V32 := vb_ V32 hb
       replace V53 := vb_ V53 hb
       replace V56 := vb_ V56 hb
       replace G16 := gb_ G16 hb
       replace G18 := gb_ G18 hb
       replace G27 := gb_ G27 hb
       replace G30 := gb_ G30 hb
       replace G58 := gb_ G58 hb
       replace G60 := gb_ G60 hb
       replace By0 := gb_ By0 hb
       replace Vt0_0 := vb_ Vt0_0 hb
       replace L := lb_ L hb
       clear hb hg hbox
       refine hK.out _ _ ((two2_ G16 G18)) (fun hHeld => ?_)
       clear hK K
       refine nr_ ?_
       refine one_ (i := 3) (N := some 123) #[true, true, true, true, false, false, false, false, false, true, true, false, false, false] rfl rfl (by kernel_rfl) (by decide) (fun K hK => ?_)
       refine goes_ Tryd.func13 (by kernel_rfl) rfl #[.agg #[.int .i64 s1_0, .slice A1_1 l1_1.length c1_1]] (by rfl) rfl rfl ma_ ?_
       obtain ⟨k, hk⟩ := KF.out.f1
       with_reducible refine (laws_toWhole.calls k s1_0 A1_1 c1_1 l1_1 s1_0 l1_1 _ (Kd.C_below HR1_1.out L.out) (HC1_1.out) hk).mono ?_
       rintro x w1 ⟨v0_, rfl, hr0_, hb⟩
       refine ⟨_, rfl, ?_⟩
       obtain ⟨At1_0, ct1_0, rfl⟩ := Kd.R_slice hr0_
       have Vt1_0 := am_ (RO.of (w := w) hr0_ L.out.size)
       replace V29 := vb_ V29 hb
       replace V32 := vb_ V32 hb
       replace V53 := vb_ V53 hb
       replace V56 := vb_ V56 hb
       replace G16 := gb_ G16 hb
       replace G18 := gb_ G18 hb
       replace G27 := gb_ G27 hb
       replace G30 := gb_ G30 hb
       replace G58 := gb_ G58 hb
       replace G60 := gb_ G60 hb
       replace By0 := gb_ By0 hb
       replace Vt0_0 := vb_ Vt0_0 hb
       replace By1 := gb_ By1 hb
       replace L := lb_ L hb
       clear hb hk hr0_
       refine hK.out _ _ ((two2_ G16 G18)) (fun hHeld => ?_)
       clear hK K
       refine nr_ ?_
       refine one_ (i := 4) (N := some 124) #[true, true, true, true, true, false, false, false, false, true, true, false, false, false] rfl rfl (by kernel_rfl) (by decide) (fun K hK => ?_)
       refine goes_ Tryd.func14 (by kernel_rfl) rfl #[.agg #[.int .i64 s0_0, .slice At0_0 l0_1.length ct0_0], .agg #[.int .i64 s1_0, .slice At1_0 l1_1.length ct1_0]] (by rfl) rfl rfl ma_ ?_
       with_reducible refine (impl_DivideWholes.calls s0_0 At0_0 ct0_0 l0_1 s1_0 At1_0 ct1_0 l1_1 r1 r2 r3 r4 r5 _ (Vt0_0.out.c) (Vt0_0.out.le) (Vt1_0.out.c) (Vt1_0.out.le) KF.out.f3).mono ?_
       rintro x w1 ⟨v0_, v1_, rfl, hr0_, hr1_, hb⟩
       refine ⟨_, rfl, ?_⟩
       obtain ⟨Au0_0, cu0_0, rfl⟩ := Kd.R_slice hr0_
       obtain ⟨Au1_0, cu1_0, rfl⟩ := Kd.R_slice hr1_
       have Uu0_0 := am_ (RO.of (w := w) hr0_ L.out.size)
       have Uu1_0 := am_ (RO.of (w := w) hr1_ L.out.size)
       replace V29 := vb_ V29 hb
       replace V32 := vb_ V32 hb
       replace V53 := vb_ V53 hb
       replace V56 := vb_ V56 hb
       replace G16 := gb_ G16 hb
       replace G18 := gb_ G18 hb
       replace G27 := gb_ G27 hb
       replace G30 := gb_ G30 hb
       replace G58 := gb_ G58 hb
       replace G60 := gb_ G60 hb
       replace By0 := gb_ By0 hb
       replace Vt0_0 := vb_ Vt0_0 hb
       replace By1 := gb_ By1 hb
       replace Vt1_0 := vb_ Vt1_0 hb
       replace L := lb_ L hb
       clear hb hr0_ hr1_
       refine hK.out _ _ ((two2_ G16 G18)) (fun hHeld => ?_)
       clear hK K
       refine nr_ ?_
       refine pu_ #[true, true, true, true, true, true, false, false, false, true, true, false, false, false] 5 119 (by kernel_rfl) ?_
       refine pu_ #[true, true, true, true, true, true, true, false, false, true, true, false, false, false] 6 125 (by kernel_rfl) ?_
       refine pu_ #[true, true, true, true, true, true, true, true, false, true, true, false, false, false] 7 126 (by kernel_rfl) ?_
       refine pu_ #[true, true, true, true, true, true, true, true, true, true, true, false, false, false] 8 127 (by kernel_rfl) ?_
       exact norm_ (by simp only [putAll, Act.put, List.setIfInBounds_toArray, List.set_cons_zero, List.set_cons_succ] <;> rfl) (hJ ((.slice At0_0 l0_1.length ct0_0), (.slice At1_0 l1_1.length ct1_0), (.slice Au0_0 r2.length cu0_0), (.slice Au1_0 r4.length cu1_0), y0, y1) _ ⟨hHeld, V29.out, V32.out, V53.out, V56.out, G16.out, G18.out, G27.out, G30.out, G58.out, G60.out, L.out, Uu0_0.out, Uu1_0.out, By0.out, Ey0.out, DG16_y0.out, DG18_y0.out, DG27_y0.out, DG30_y0.out, DG58_y0.out, DG60_y0.out, By1.out, Ey1.out, DG16_y1.out, DG18_y1.out, DG27_y1.out, DG30_y1.out, DG58_y1.out, DG60_y1.out, Dyy.out⟩)
     ·skip
      refine box_step ?hg (N := 18) ?hd (cs := #[.int .i64 0, .slice none 0 0]) (t := 26) ?hr ?_; (case hd => rfl); (case hg => rfl); (case hr => first | (go_simp; done) | (go_simp; rfl))
      intro y1 hg w1 hbox hb
      have By1 := by_ hbox
      have Ey1 := ey_ L hg
      have DG16_y1 := ny_ G16 hg
      have DG18_y1 := ny_ G18 hg
      have DG27_y1 := ny_ G27 hg
      have DG30_y1 := ny_ G30 hg
      have DG58_y1 := ny_ G58 hg
      have DG60_y1 := ny_ G60 hg
      have Dyy := ny_ By0 hg
      replace V29 := vb_ V29 hb
      replace V32 := vb_ V32 hb
      replace V53 := vb_ V53 hb
      replace V56 := vb_ V56 hb
      replace G16 := gb_ G16 hb
      replace G18 := gb_ G18 hb
      replace G27 := gb_ G27 hb
      replace G30 := gb_ G30 hb
      replace G58 := gb_ G58 hb
      replace G60 := gb_ G60 hb
      replace By0 := gb_ By0 hb
      replace L := lb_ L hb
      clear hb hg hbox
      refine hK.out _ _ ((two2_ G16 G18)) (fun hHeld => ?_)
      clear hK K
      refine nr_ ?_
      refine one_ (i := 1) (N := some 121) #[true, true, true, false, false, false, false, false, false, true, true, false, false, false] rfl rfl (by kernel_rfl) (by decide) (fun K hK => ?_)
      refine goes_ Tryd.func13 (by kernel_rfl) rfl #[.agg #[.int .i64 s0_0, .slice A0_1 l0_1.length c0_1]] (by rfl) rfl rfl ma_ ?_
      obtain ⟨k, hk⟩ := KF.out.f0
      with_reducible refine (laws_toWhole.calls k s0_0 A0_1 c0_1 l0_1 s0_0 l0_1 _ (Kd.C_below HR0_1.out L.out) (HC0_1.out) hk).mono ?_
      rintro x w1 ⟨v0_, rfl, hr0_, hb⟩
      refine ⟨_, rfl, ?_⟩
      obtain ⟨At0_0, ct0_0, rfl⟩ := Kd.R_slice hr0_
      have Vt0_0 := am_ (RO.of (w := w) hr0_ L.out.size)
      replace V29 := vb_ V29 hb
      replace V32 := vb_ V32 hb
      replace V53 := vb_ V53 hb
      replace V56 := vb_ V56 hb
      replace G16 := gb_ G16 hb
      replace G18 := gb_ G18 hb
      replace G27 := gb_ G27 hb
      replace G30 := gb_ G30 hb
      replace G58 := gb_ G58 hb
      replace G60 := gb_ G60 hb
      replace By0 := gb_ By0 hb
      replace By1 := gb_ By1 hb
      replace L := lb_ L hb
      clear hb hk hr0_
      refine hK.out _ _ ((two2_ G16 G18)) (fun hHeld => ?_)
      clear hK K
      refine nr_ ?_
      refine one_ (i := 3) (N := some 123) #[true, true, true, true, false, false, false, false, false, true, true, false, false, false] rfl rfl (by kernel_rfl) (by decide) (fun K hK => ?_)
      refine goes_ Tryd.func13 (by kernel_rfl) rfl #[.agg #[.int .i64 s1_0, .slice A1_1 l1_1.length c1_1]] (by rfl) rfl rfl ma_ ?_
      obtain ⟨k, hk⟩ := KF.out.f1
      with_reducible refine (laws_toWhole.calls k s1_0 A1_1 c1_1 l1_1 s1_0 l1_1 _ (Kd.C_below HR1_1.out L.out) (HC1_1.out) hk).mono ?_
      rintro x w1 ⟨v0_, rfl, hr0_, hb⟩
      refine ⟨_, rfl, ?_⟩
      obtain ⟨At1_0, ct1_0, rfl⟩ := Kd.R_slice hr0_
      have Vt1_0 := am_ (RO.of (w := w) hr0_ L.out.size)
      replace V29 := vb_ V29 hb
      replace V32 := vb_ V32 hb
      replace V53 := vb_ V53 hb
      replace V56 := vb_ V56 hb
      replace G16 := gb_ G16 hb
      replace G18 := gb_ G18 hb
      replace G27 := gb_ G27 hb
      replace G30 := gb_ G30 hb
      replace G58 := gb_ G58 hb
      replace G60 := gb_ G60 hb
      replace By0 := gb_ By0 hb
      replace By1 := gb_ By1 hb
      replace Vt0_0 := vb_ Vt0_0 hb
      replace L := lb_ L hb
      clear hb hk hr0_
      refine hK.out _ _ ((two2_ G16 G18)) (fun hHeld => ?_)
      clear hK K
      refine nr_ ?_
      refine one_ (i := 4) (N := some 124) #[true, true, true, true, true, false, false, false, false, true, true, false, false, false] rfl rfl (by kernel_rfl) (by decide) (fun K hK => ?_)
      refine goes_ Tryd.func14 (by kernel_rfl) rfl #[.agg #[.int .i64 s0_0, .slice At0_0 l0_1.length ct0_0], .agg #[.int .i64 s1_0, .slice At1_0 l1_1.length ct1_0]] (by rfl) rfl rfl ma_ ?_
      with_reducible refine (impl_DivideWholes.calls s0_0 At0_0 ct0_0 l0_1 s1_0 At1_0 ct1_0 l1_1 r1 r2 r3 r4 r5 _ (Vt0_0.out.c) (Vt0_0.out.le) (Vt1_0.out.c) (Vt1_0.out.le) KF.out.f3).mono ?_
      rintro x w1 ⟨v0_, v1_, rfl, hr0_, hr1_, hb⟩
      refine ⟨_, rfl, ?_⟩
      obtain ⟨Au0_0, cu0_0, rfl⟩ := Kd.R_slice hr0_
      obtain ⟨Au1_0, cu1_0, rfl⟩ := Kd.R_slice hr1_
      have Uu0_0 := am_ (RO.of (w := w) hr0_ L.out.size)
      have Uu1_0 := am_ (RO.of (w := w) hr1_ L.out.size)
      replace V29 := vb_ V29 hb
      replace V32 := vb_ V32 hb
      replace V53 := vb_ V53 hb
      replace V56 := vb_ V56 hb
      replace G16 := gb_ G16 hb
      replace G18 := gb_ G18 hb
      replace G27 := gb_ G27 hb
      replace G30 := gb_ G30 hb
      replace G58 := gb_ G58 hb
      replace G60 := gb_ G60 hb
      replace By0 := gb_ By0 hb
      replace By1 := gb_ By1 hb
      replace Vt0_0 := vb_ Vt0_0 hb
      replace Vt1_0 := vb_ Vt1_0 hb
      replace L := lb_ L hb
      clear hb hr0_ hr1_
      refine hK.out _ _ ((two2_ G16 G18)) (fun hHeld => ?_)
      clear hK K
      refine nr_ ?_
      refine pu_ #[true, true, true, true, true, true, false, false, false, true, true, false, false, false] 5 119 (by kernel_rfl) ?_
      refine pu_ #[true, true, true, true, true, true, true, false, false, true, true, false, false, false] 6 125 (by kernel_rfl) ?_
      refine pu_ #[true, true, true, true, true, true, true, true, false, true, true, false, false, false] 7 126 (by kernel_rfl) ?_
      refine pu_ #[true, true, true, true, true, true, true, true, true, true, true, false, false, false] 8 127 (by kernel_rfl) ?_
      exact norm_ (by simp only [putAll, Act.put, List.setIfInBounds_toArray, List.set_cons_zero, List.set_cons_succ] <;> rfl) (hJ ((.slice At0_0 l0_1.length ct0_0), (.slice At1_0 l1_1.length ct1_0), (.slice Au0_0 r2.length cu0_0), (.slice Au1_0 r4.length cu1_0), y0, y1) _ ⟨hHeld, V29.out, V32.out, V53.out, V56.out, G16.out, G18.out, G27.out, G30.out, G58.out, G60.out, L.out, Uu0_0.out, Uu1_0.out, By0.out, Ey0.out, DG16_y0.out, DG18_y0.out, DG27_y0.out, DG30_y0.out, DG58_y0.out, DG60_y0.out, By1.out, Ey1.out, DG16_y1.out, DG18_y1.out, DG27_y1.out, DG30_y1.out, DG58_y1.out, DG60_y1.out, Dyy.out⟩)
    ·skip
     refine box_step ?hg (N := 18) ?hd (cs := #[.int .i64 0, .slice none 0 0]) (t := 26) ?hr ?_; (case hd => rfl); (case hg => rfl); (case hr => first | (go_simp; done) | (go_simp; rfl))
     intro y1 hg w1 hbox hb
     have By1 := by_ hbox
     have Ey1 := ey_ L hg
     have DG16_y1 := ny_ G16 hg
     have DG18_y1 := ny_ G18 hg
     have DG27_y1 := ny_ G27 hg
     have DG30_y1 := ny_ G30 hg
     have DG58_y1 := ny_ G58 hg
     have DG60_y1 := ny_ G60 hg
     replace V29 := vb_ V29 hb
     replace V32 := vb_ V32 hb
     replace V53 := vb_ V53 hb
     replace V56 := vb_ V56 hb
     replace G16 := gb_ G16 hb
     replace G18 := gb_ G18 hb
     replace G27 := gb_ G27 hb
     replace G30 := gb_ G30 hb
     replace G58 := gb_ G58 hb
     replace G60 := gb_ G60 hb
     replace L := lb_ L hb
     clear hb hg hbox
     refine hK.out _ _ ((two2_ G16 G18)) (fun hHeld => ?_)
     clear hK K
     refine nr_ ?_
     refine two_ (i := 1) (j := 9) (Ni := some 121) (Nj := some 17) #[true, true, true, false, false, false, false, false, false, false, true, false, false, false] #[true, false, true, false, false, false, false, false, false, true, true, false, false, false] rfl rfl rfl rfl (by kernel_rfl) (by decide) (by decide) (fun K hK => ?_) (fun K hK => ?_)
     ·skip
      refine goes_ Tryd.func13 (by kernel_rfl) rfl #[.agg #[.int .i64 s0_0, .slice A0_1 l0_1.length c0_1]] (by rfl) rfl rfl ma_ ?_
      obtain ⟨k, hk⟩ := KF.out.f0
      with_reducible refine (laws_toWhole.calls k s0_0 A0_1 c0_1 l0_1 s0_0 l0_1 _ (Kd.C_below HR0_1.out L.out) (HC0_1.out) hk).mono ?_
      rintro x w1 ⟨v0_, rfl, hr0_, hb⟩
      refine ⟨_, rfl, ?_⟩
      obtain ⟨At0_0, ct0_0, rfl⟩ := Kd.R_slice hr0_
      have Vt0_0 := am_ (RO.of (w := w) hr0_ L.out.size)
      replace V29 := vb_ V29 hb
      replace V32 := vb_ V32 hb
      replace V53 := vb_ V53 hb
      replace V56 := vb_ V56 hb
      replace G16 := gb_ G16 hb
      replace G18 := gb_ G18 hb
      replace G27 := gb_ G27 hb
      replace G30 := gb_ G30 hb
      replace G58 := gb_ G58 hb
      replace G60 := gb_ G60 hb
      replace By1 := gb_ By1 hb
      replace L := lb_ L hb
      clear hb hk hr0_
      refine hK.out _ _ ((two2_ G16 G18)) (fun hHeld => ?_)
      clear hK K
      refine nr_ ?_
      refine two_ (i := 3) (j := 9) (Ni := some 123) (Nj := some 17) #[true, true, true, true, false, false, false, false, false, false, true, false, false, false] #[true, true, true, false, false, false, false, false, false, true, true, false, false, false] rfl rfl rfl rfl (by kernel_rfl) (by decide) (by decide) (fun K hK => ?_) (fun K hK => ?_)
      ·skip
       refine goes_ Tryd.func13 (by kernel_rfl) rfl #[.agg #[.int .i64 s1_0, .slice A1_1 l1_1.length c1_1]] (by rfl) rfl rfl ma_ ?_
       obtain ⟨k, hk⟩ := KF.out.f1
       with_reducible refine (laws_toWhole.calls k s1_0 A1_1 c1_1 l1_1 s1_0 l1_1 _ (Kd.C_below HR1_1.out L.out) (HC1_1.out) hk).mono ?_
       rintro x w1 ⟨v0_, rfl, hr0_, hb⟩
       refine ⟨_, rfl, ?_⟩
       obtain ⟨At1_0, ct1_0, rfl⟩ := Kd.R_slice hr0_
       have Vt1_0 := am_ (RO.of (w := w) hr0_ L.out.size)
       replace V29 := vb_ V29 hb
       replace V32 := vb_ V32 hb
       replace V53 := vb_ V53 hb
       replace V56 := vb_ V56 hb
       replace G16 := gb_ G16 hb
       replace G18 := gb_ G18 hb
       replace G27 := gb_ G27 hb
       replace G30 := gb_ G30 hb
       replace G58 := gb_ G58 hb
       replace G60 := gb_ G60 hb
       replace By1 := gb_ By1 hb
       replace Vt0_0 := vb_ Vt0_0 hb
       replace L := lb_ L hb
       clear hb hk hr0_
       refine hK.out _ _ ((two2_ G16 G18)) (fun hHeld => ?_)
       clear hK K
       refine nr_ ?_
       refine two_ (i := 4) (j := 9) (Ni := some 124) (Nj := some 17) #[true, true, true, true, true, false, false, false, false, false, true, false, false, false] #[true, true, true, true, false, false, false, false, false, true, true, false, false, false] rfl rfl rfl rfl (by kernel_rfl) (by decide) (by decide) (fun K hK => ?_) (fun K hK => ?_)
       ·skip
        refine goes_ Tryd.func14 (by kernel_rfl) rfl #[.agg #[.int .i64 s0_0, .slice At0_0 l0_1.length ct0_0], .agg #[.int .i64 s1_0, .slice At1_0 l1_1.length ct1_0]] (by rfl) rfl rfl ma_ ?_
        with_reducible refine (impl_DivideWholes.calls s0_0 At0_0 ct0_0 l0_1 s1_0 At1_0 ct1_0 l1_1 r1 r2 r3 r4 r5 _ (Vt0_0.out.c) (Vt0_0.out.le) (Vt1_0.out.c) (Vt1_0.out.le) KF.out.f3).mono ?_
        rintro x w1 ⟨v0_, v1_, rfl, hr0_, hr1_, hb⟩
        refine ⟨_, rfl, ?_⟩
        obtain ⟨Au0_0, cu0_0, rfl⟩ := Kd.R_slice hr0_
        obtain ⟨Au1_0, cu1_0, rfl⟩ := Kd.R_slice hr1_
        have Uu0_0 := am_ (RO.of (w := w) hr0_ L.out.size)
        have Uu1_0 := am_ (RO.of (w := w) hr1_ L.out.size)
        replace V29 := vb_ V29 hb
        replace V32 := vb_ V32 hb
        replace V53 := vb_ V53 hb
        replace V56 := vb_ V56 hb
        replace G16 := gb_ G16 hb
        replace G18 := gb_ G18 hb
        replace G27 := gb_ G27 hb
        replace G30 := gb_ G30 hb
        replace G58 := gb_ G58 hb
        replace G60 := gb_ G60 hb
        replace By1 := gb_ By1 hb
        replace Vt0_0 := vb_ Vt0_0 hb
        replace Vt1_0 := vb_ Vt1_0 hb
        replace L := lb_ L hb
        clear hb hr0_ hr1_
        refine hK.out _ _ ((two2_ G16 G18)) (fun hHeld => ?_)
        clear hK K
        refine nr_ ?_
        refine pu_ #[true, true, true, true, true, true, false, false, false, false, true, false, false, false] 5 119 (by kernel_rfl) ?_
        refine pu_ #[true, true, true, true, true, true, true, false, false, false, true, false, false, false] 6 125 (by kernel_rfl) ?_
        refine pu_ #[true, true, true, true, true, true, true, true, false, false, true, false, false, false] 7 126 (by kernel_rfl) ?_
        refine pu_ #[true, true, true, true, true, true, true, true, true, false, true, false, false, false] 8 127 (by kernel_rfl) ?_
        refine one_ (i := 9) (N := some 17) #[true, true, true, true, true, true, true, true, true, true, true, false, false, false] rfl rfl (by kernel_rfl) (by decide) (fun K hK => ?_)
        refine box_step ?hg (N := 17) ?hd (cs := #[.int .i64 0, .slice none 0 0]) (t := 26) ?hr ?_; (case hd => rfl); (case hg => rfl); (case hr => first | (go_simp; done) | (go_simp; rfl))
        intro y0 hg w1 hbox hb
        have By0 := by_ hbox
        have Ey0 := ey_ L hg
        have DG16_y0 := ny_ G16 hg
        have DG18_y0 := ny_ G18 hg
        have DG27_y0 := ny_ G27 hg
        have DG30_y0 := ny_ G30 hg
        have DG58_y0 := ny_ G58 hg
        have DG60_y0 := ny_ G60 hg
        have Dyy := am_ (show y0 ≠ y1 from by rw [hg]; exact Nat.ne_of_gt (blk_lt By1.out.x))
        replace V29 := vb_ V29 hb
        replace V32 := vb_ V32 hb
        replace V53 := vb_ V53 hb
        replace V56 := vb_ V56 hb
        replace G16 := gb_ G16 hb
        replace G18 := gb_ G18 hb
        replace G27 := gb_ G27 hb
        replace G30 := gb_ G30 hb
        replace G58 := gb_ G58 hb
        replace G60 := gb_ G60 hb
        replace By1 := gb_ By1 hb
        replace Vt0_0 := vb_ Vt0_0 hb
        replace Vt1_0 := vb_ Vt1_0 hb
        replace Uu0_0 := vb_ Uu0_0 hb
        replace Uu1_0 := vb_ Uu1_0 hb
        replace L := lb_ L hb
        clear hb hg hbox
        refine hK.out _ _ ((two2_ G16 G18)) (fun hHeld => ?_)
        clear hK K
        refine nr_ ?_
        exact norm_ (by simp only [putAll, Act.put, List.setIfInBounds_toArray, List.set_cons_zero, List.set_cons_succ] <;> rfl) (hJ ((.slice At0_0 l0_1.length ct0_0), (.slice At1_0 l1_1.length ct1_0), (.slice Au0_0 r2.length cu0_0), (.slice Au1_0 r4.length cu1_0), y0, y1) _ ⟨hHeld, V29.out, V32.out, V53.out, V56.out, G16.out, G18.out, G27.out, G30.out, G58.out, G60.out, L.out, Uu0_0.out, Uu1_0.out, By0.out, Ey0.out, DG16_y0.out, DG18_y0.out, DG27_y0.out, DG30_y0.out, DG58_y0.out, DG60_y0.out, By1.out, Ey1.out, DG16_y1.out, DG18_y1.out, DG27_y1.out, DG30_y1.out, DG58_y1.out, DG60_y1.out, Dyy.out⟩)
       ·skip
        refine box_step ?hg (N := 17) ?hd (cs := #[.int .i64 0, .slice none 0 0]) (t := 26) ?hr ?_; (case hd => rfl); (case hg => rfl); (case hr => first | (go_simp; done) | (go_simp; rfl))
        intro y0 hg w1 hbox hb
        have By0 := by_ hbox
        have Ey0 := ey_ L hg
        have DG16_y0 := ny_ G16 hg
        have DG18_y0 := ny_ G18 hg
        have DG27_y0 := ny_ G27 hg
        have DG30_y0 := ny_ G30 hg
        have DG58_y0 := ny_ G58 hg
        have DG60_y0 := ny_ G60 hg
        have Dyy := am_ (show y0 ≠ y1 from by rw [hg]; exact Nat.ne_of_gt (blk_lt By1.out.x))
        replace V29 := vb_ V29 hb
        replace V32 := vb_ V32 hb
        replace V53 := vb_ V53 hb
        replace V56 := vb_ V56 hb
        replace G16 := gb_ G16 hb
        replace G18 := gb_ G18 hb
        replace G27 := gb_ G27 hb
        replace G30 := gb_ G30 hb
        replace G58 := gb_ G58 hb
        replace G60 := gb_ G60 hb
        replace By1 := gb_ By1 hb
        replace Vt0_0 := vb_ Vt0_0 hb
        replace Vt1_0 := vb_ Vt1_0 hb
        replace L := lb_ L hb
        clear hb hg hbox
        refine hK.out _ _ ((two2_ G16 G18)) (fun hHeld => ?_)
        clear hK K
        refine nr_ ?_
        refine one_ (i := 4) (N := some 124) #[true, true, true, true, true, false, false, false, false, true, true, false, false, false] rfl rfl (by kernel_rfl) (by decide) (fun K hK => ?_)
        refine goes_ Tryd.func14 (by kernel_rfl) rfl #[.agg #[.int .i64 s0_0, .slice At0_0 l0_1.length ct0_0], .agg #[.int .i64 s1_0, .slice At1_0 l1_1.length ct1_0]] (by rfl) rfl rfl ma_ ?_
        with_reducible refine (impl_DivideWholes.calls s0_0 At0_0 ct0_0 l0_1 s1_0 At1_0 ct1_0 l1_1 r1 r2 r3 r4 r5 _ (Vt0_0.out.c) (Vt0_0.out.le) (Vt1_0.out.c) (Vt1_0.out.le) KF.out.f3).mono ?_
        rintro x w1 ⟨v0_, v1_, rfl, hr0_, hr1_, hb⟩
        refine ⟨_, rfl, ?_⟩
        obtain ⟨Au0_0, cu0_0, rfl⟩ := Kd.R_slice hr0_
        obtain ⟨Au1_0, cu1_0, rfl⟩ := Kd.R_slice hr1_
        have Uu0_0 := am_ (RO.of (w := w) hr0_ L.out.size)
        have Uu1_0 := am_ (RO.of (w := w) hr1_ L.out.size)
        replace V29 := vb_ V29 hb
        replace V32 := vb_ V32 hb
        replace V53 := vb_ V53 hb
        replace V56 := vb_ V56 hb
        replace G16 := gb_ G16 hb
        replace G18 := gb_ G18 hb
        replace G27 := gb_ G27 hb
        replace G30 := gb_ G30 hb
        replace G58 := gb_ G58 hb
        replace G60 := gb_ G60 hb
        replace By1 := gb_ By1 hb
        replace Vt0_0 := vb_ Vt0_0 hb
        replace Vt1_0 := vb_ Vt1_0 hb
        replace By0 := gb_ By0 hb
        replace L := lb_ L hb
        clear hb hr0_ hr1_
        refine hK.out _ _ ((two2_ G16 G18)) (fun hHeld => ?_)
        clear hK K
        refine nr_ ?_
        refine pu_ #[true, true, true, true, true, true, false, false, false, true, true, false, false, false] 5 119 (by kernel_rfl) ?_
        refine pu_ #[true, true, true, true, true, true, true, false, false, true, true, false, false, false] 6 125 (by kernel_rfl) ?_
        refine pu_ #[true, true, true, true, true, true, true, true, false, true, true, false, false, false] 7 126 (by kernel_rfl) ?_
        refine pu_ #[true, true, true, true, true, true, true, true, true, true, true, false, false, false] 8 127 (by kernel_rfl) ?_
        exact norm_ (by simp only [putAll, Act.put, List.setIfInBounds_toArray, List.set_cons_zero, List.set_cons_succ] <;> rfl) (hJ ((.slice At0_0 l0_1.length ct0_0), (.slice At1_0 l1_1.length ct1_0), (.slice Au0_0 r2.length cu0_0), (.slice Au1_0 r4.length cu1_0), y0, y1) _ ⟨hHeld, V29.out, V32.out, V53.out, V56.out, G16.out, G18.out, G27.out, G30.out, G58.out, G60.out, L.out, Uu0_0.out, Uu1_0.out, By0.out, Ey0.out, DG16_y0.out, DG18_y0.out, DG27_y0.out, DG30_y0.out, DG58_y0.out, DG60_y0.out, By1.out, Ey1.out, DG16_y1.out, DG18_y1.out, DG27_y1.out, DG30_y1.out, DG58_y1.out, DG60_y1.out, Dyy.out⟩)
      ·skip
       refine box_step ?hg (N := 17) ?hd (cs := #[.int .i64 0, .slice none 0 0]) (t := 26) ?hr ?_; (case hd => rfl); (case hg => rfl); (case hr => first | (go_simp; done) | (go_simp; rfl))
       intro y0 hg w1 hbox hb
       have By0 := by_ hbox
       have Ey0 := ey_ L hg
       have DG16_y0 := ny_ G16 hg
       have DG18_y0 := ny_ G18 hg
       have DG27_y0 := ny_ G27 hg
       have DG30_y0 := ny_ G30 hg
       have DG58_y0 := ny_ G58 hg
       have DG60_y0 := ny_ G60 hg
       have Dyy := am_ (show y0 ≠ y1 from by rw [hg]; exact Nat.ne_of_gt (blk_lt By1.out.x))
       replace V29 := vb_ V29 hb
       replace V32 := vb_ V32 hb
       replace V53 := vb_ V53 hb
       replace V56 := vb_ V56 hb
       replace G16 := gb_ G16 hb
       replace G18 := gb_ G18 hb
       replace G27 := gb_ G27 hb
       replace G30 := gb_ G30 hb
       replace G58 := gb_ G58 hb
       replace G60 := gb_ G60 hb
       replace By1 := gb_ By1 hb
       replace Vt0_0 := vb_ Vt0_0 hb
       replace L := lb_ L hb
       clear hb hg hbox
       refine hK.out _ _ ((two2_ G16 G18)) (fun hHeld => ?_)
       clear hK K
       refine nr_ ?_
       refine one_ (i := 3) (N := some 123) #[true, true, true, true, false, false, false, false, false, true, true, false, false, false] rfl rfl (by kernel_rfl) (by decide) (fun K hK => ?_)
       refine goes_ Tryd.func13 (by kernel_rfl) rfl #[.agg #[.int .i64 s1_0, .slice A1_1 l1_1.length c1_1]] (by rfl) rfl rfl ma_ ?_
       obtain ⟨k, hk⟩ := KF.out.f1
       with_reducible refine (laws_toWhole.calls k s1_0 A1_1 c1_1 l1_1 s1_0 l1_1 _ (Kd.C_below HR1_1.out L.out) (HC1_1.out) hk).mono ?_
       rintro x w1 ⟨v0_, rfl, hr0_, hb⟩
       refine ⟨_, rfl, ?_⟩
       obtain ⟨At1_0, ct1_0, rfl⟩ := Kd.R_slice hr0_
       have Vt1_0 := am_ (RO.of (w := w) hr0_ L.out.size)
       replace V29 := vb_ V29 hb
       replace V32 := vb_ V32 hb
       replace V53 := vb_ V53 hb
       replace V56 := vb_ V56 hb
       replace G16 := gb_ G16 hb
       replace G18 := gb_ G18 hb
       replace G27 := gb_ G27 hb
       replace G30 := gb_ G30 hb
       replace G58 := gb_ G58 hb
       replace G60 := gb_ G60 hb
       replace By1 := gb_ By1 hb
       replace Vt0_0 := vb_ Vt0_0 hb
       replace By0 := gb_ By0 hb
       replace L := lb_ L hb
       clear hb hk hr0_
       refine hK.out _ _ ((two2_ G16 G18)) (fun hHeld => ?_)
       clear hK K
       refine nr_ ?_
       refine one_ (i := 4) (N := some 124) #[true, true, true, true, true, false, false, false, false, true, true, false, false, false] rfl rfl (by kernel_rfl) (by decide) (fun K hK => ?_)
       refine goes_ Tryd.func14 (by kernel_rfl) rfl #[.agg #[.int .i64 s0_0, .slice At0_0 l0_1.length ct0_0], .agg #[.int .i64 s1_0, .slice At1_0 l1_1.length ct1_0]] (by rfl) rfl rfl ma_ ?_
       with_reducible refine (impl_DivideWholes.calls s0_0 At0_0 ct0_0 l0_1 s1_0 At1_0 ct1_0 l1_1 r1 r2 r3 r4 r5 _ (Vt0_0.out.c) (Vt0_0.out.le) (Vt1_0.out.c) (Vt1_0.out.le) KF.out.f3).mono ?_
       rintro x w1 ⟨v0_, v1_, rfl, hr0_, hr1_, hb⟩
       refine ⟨_, rfl, ?_⟩
       obtain ⟨Au0_0, cu0_0, rfl⟩ := Kd.R_slice hr0_
       obtain ⟨Au1_0, cu1_0, rfl⟩ := Kd.R_slice hr1_
       have Uu0_0 := am_ (RO.of (w := w) hr0_ L.out.size)
       have Uu1_0 := am_ (RO.of (w := w) hr1_ L.out.size)
       replace V29 := vb_ V29 hb
       replace V32 := vb_ V32 hb
       replace V53 := vb_ V53 hb
       replace V56 := vb_ V56 hb
       replace G16 := gb_ G16 hb
       replace G18 := gb_ G18 hb
       replace G27 := gb_ G27 hb
       replace G30 := gb_ G30 hb
       replace G58 := gb_ G58 hb
       replace G60 := gb_ G60 hb
       replace By1 := gb_ By1 hb
       replace Vt0_0 := vb_ Vt0_0 hb
       replace By0 := gb_ By0 hb
       replace Vt1_0 := vb_ Vt1_0 hb
       replace L := lb_ L hb
       clear hb hr0_ hr1_
       refine hK.out _ _ ((two2_ G16 G18)) (fun hHeld => ?_)
       clear hK K
       refine nr_ ?_
       refine pu_ #[true, true, true, true, true, true, false, false, false, true, true, false, false, false] 5 119 (by kernel_rfl) ?_
       refine pu_ #[true, true, true, true, true, true, true, false, false, true, true, false, false, false] 6 125 (by kernel_rfl) ?_
       refine pu_ #[true, true, true, true, true, true, true, true, false, true, true, false, false, false] 7 126 (by kernel_rfl) ?_
       refine pu_ #[true, true, true, true, true, true, true, true, true, true, true, false, false, false] 8 127 (by kernel_rfl) ?_
       exact norm_ (by simp only [putAll, Act.put, List.setIfInBounds_toArray, List.set_cons_zero, List.set_cons_succ] <;> rfl) (hJ ((.slice At0_0 l0_1.length ct0_0), (.slice At1_0 l1_1.length ct1_0), (.slice Au0_0 r2.length cu0_0), (.slice Au1_0 r4.length cu1_0), y0, y1) _ ⟨hHeld, V29.out, V32.out, V53.out, V56.out, G16.out, G18.out, G27.out, G30.out, G58.out, G60.out, L.out, Uu0_0.out, Uu1_0.out, By0.out, Ey0.out, DG16_y0.out, DG18_y0.out, DG27_y0.out, DG30_y0.out, DG58_y0.out, DG60_y0.out, By1.out, Ey1.out, DG16_y1.out, DG18_y1.out, DG27_y1.out, DG30_y1.out, DG58_y1.out, DG60_y1.out, Dyy.out⟩)
     ·skip
      refine box_step ?hg (N := 17) ?hd (cs := #[.int .i64 0, .slice none 0 0]) (t := 26) ?hr ?_; (case hd => rfl); (case hg => rfl); (case hr => first | (go_simp; done) | (go_simp; rfl))
      intro y0 hg w1 hbox hb
      have By0 := by_ hbox
      have Ey0 := ey_ L hg
      have DG16_y0 := ny_ G16 hg
      have DG18_y0 := ny_ G18 hg
      have DG27_y0 := ny_ G27 hg
      have DG30_y0 := ny_ G30 hg
      have DG58_y0 := ny_ G58 hg
      have DG60_y0 := ny_ G60 hg
      have Dyy := am_ (show y0 ≠ y1 from by rw [hg]; exact Nat.ne_of_gt (blk_lt By1.out.x))
      replace V29 := vb_ V29 hb
      replace V32 := vb_ V32 hb
      replace V53 := vb_ V53 hb
      replace V56 := vb_ V56 hb
      replace G16 := gb_ G16 hb
      replace G18 := gb_ G18 hb
      replace G27 := gb_ G27 hb
      replace G30 := gb_ G30 hb
      replace G58 := gb_ G58 hb
      replace G60 := gb_ G60 hb
      replace By1 := gb_ By1 hb
      replace L := lb_ L hb
      clear hb hg hbox
      refine hK.out _ _ ((two2_ G16 G18)) (fun hHeld => ?_)
      clear hK K
      refine nr_ ?_
      refine one_ (i := 1) (N := some 121) #[true, true, true, false, false, false, false, false, false, true, true, false, false, false] rfl rfl (by kernel_rfl) (by decide) (fun K hK => ?_)
      refine goes_ Tryd.func13 (by kernel_rfl) rfl #[.agg #[.int .i64 s0_0, .slice A0_1 l0_1.length c0_1]] (by rfl) rfl rfl ma_ ?_
      obtain ⟨k, hk⟩ := KF.out.f0
      with_reducible refine (laws_toWhole.calls k s0_0 A0_1 c0_1 l0_1 s0_0 l0_1 _ (Kd.C_below HR0_1.out L.out) (HC0_1.out) hk).mono ?_
      rintro x w1 ⟨v0_, rfl, hr0_, hb⟩
      refine ⟨_, rfl, ?_⟩
      obtain ⟨At0_0, ct0_0, rfl⟩ := Kd.R_slice hr0_
      have Vt0_0 := am_ (RO.of (w := w) hr0_ L.out.size)
      replace V29 := vb_ V29 hb
      replace V32 := vb_ V32 hb
      replace V53 := vb_ V53 hb
      replace V56 := vb_ V56 hb
      replace G16 := gb_ G16 hb
      replace G18 := gb_ G18 hb
      replace G27 := gb_ G27 hb
      replace G30 := gb_ G30 hb
      replace G58 := gb_ G58 hb
      replace G60 := gb_ G60 hb
      replace By1 := gb_ By1 hb
      replace By0 := gb_ By0 hb
      replace L := lb_ L hb
      clear hb hk hr0_
      refine hK.out _ _ ((two2_ G16 G18)) (fun hHeld => ?_)
      clear hK K
      refine nr_ ?_
      refine one_ (i := 3) (N := some 123) #[true, true, true, true, false, false, false, false, false, true, true, false, false, false] rfl rfl (by kernel_rfl) (by decide) (fun K hK => ?_)
      refine goes_ Tryd.func13 (by kernel_rfl) rfl #[.agg #[.int .i64 s1_0, .slice A1_1 l1_1.length c1_1]] (by rfl) rfl rfl ma_ ?_
      obtain ⟨k, hk⟩ := KF.out.f1
      with_reducible refine (laws_toWhole.calls k s1_0 A1_1 c1_1 l1_1 s1_0 l1_1 _ (Kd.C_below HR1_1.out L.out) (HC1_1.out) hk).mono ?_
      rintro x w1 ⟨v0_, rfl, hr0_, hb⟩
      refine ⟨_, rfl, ?_⟩
      obtain ⟨At1_0, ct1_0, rfl⟩ := Kd.R_slice hr0_
      have Vt1_0 := am_ (RO.of (w := w) hr0_ L.out.size)
      replace V29 := vb_ V29 hb
      replace V32 := vb_ V32 hb
      replace V53 := vb_ V53 hb
      replace V56 := vb_ V56 hb
      replace G16 := gb_ G16 hb
      replace G18 := gb_ G18 hb
      replace G27 := gb_ G27 hb
      replace G30 := gb_ G30 hb
      replace G58 := gb_ G58 hb
      replace G60 := gb_ G60 hb
      replace By1 := gb_ By1 hb
      replace By0 := gb_ By0 hb
      replace Vt0_0 := vb_ Vt0_0 hb
      replace L := lb_ L hb
      clear hb hk hr0_
      refine hK.out _ _ ((two2_ G16 G18)) (fun hHeld => ?_)
      clear hK K
      refine nr_ ?_
      refine one_ (i := 4) (N := some 124) #[true, true, true, true, true, false, false, false, false, true, true, false, false, false] rfl rfl (by kernel_rfl) (by decide) (fun K hK => ?_)
      refine goes_ Tryd.func14 (by kernel_rfl) rfl #[.agg #[.int .i64 s0_0, .slice At0_0 l0_1.length ct0_0], .agg #[.int .i64 s1_0, .slice At1_0 l1_1.length ct1_0]] (by rfl) rfl rfl ma_ ?_
      with_reducible refine (impl_DivideWholes.calls s0_0 At0_0 ct0_0 l0_1 s1_0 At1_0 ct1_0 l1_1 r1 r2 r3 r4 r5 _ (Vt0_0.out.c) (Vt0_0.out.le) (Vt1_0.out.c) (Vt1_0.out.le) KF.out.f3).mono ?_
      rintro x w1 ⟨v0_, v1_, rfl, hr0_, hr1_, hb⟩
      refine ⟨_, rfl, ?_⟩
      obtain ⟨Au0_0, cu0_0, rfl⟩ := Kd.R_slice hr0_
      obtain ⟨Au1_0, cu1_0, rfl⟩ := Kd.R_slice hr1_
      have Uu0_0 := am_ (RO.of (w := w) hr0_ L.out.size)
      have Uu1_0 := am_ (RO.of (w := w) hr1_ L.out.size)
      replace V29 := vb_ V29 hb
      replace V32 := vb_ V32 hb
      replace V53 := vb_ V53 hb
      replace V56 := vb_ V56 hb
      replace G16 := gb_ G16 hb
      replace G18 := gb_ G18 hb
      replace G27 := gb_ G27 hb
      replace G30 := gb_ G30 hb
      replace G58 := gb_ G58 hb
      replace G60 := gb_ G60 hb
      replace By1 := gb_ By1 hb
      replace By0 := gb_ By0 hb
      replace Vt0_0 := vb_ Vt0_0 hb
      replace Vt1_0 := vb_ Vt1_0 hb
      replace L := lb_ L hb
      clear hb hr0_ hr1_
      refine hK.out _ _ ((two2_ G16 G18)) (fun hHeld => ?_)
      clear hK K
      refine nr_ ?_
      refine pu_ #[true, true, true, true, true, true, false, false, false, true, true, false, false, false] 5 119 (by kernel_rfl) ?_
      refine pu_ #[true, true, true, true, true, true, true, false, false, true, true, false, false, false] 6 125 (by kernel_rfl) ?_
      refine pu_ #[true, true, true, true, true, true, true, true, false, true, true, false, false, false] 7 126 (by kernel_rfl) ?_
      refine pu_ #[true, true, true, true, true, true, true, true, true, true, true, false, false, false] 8 127 (by kernel_rfl) ?_
      exact norm_ (by simp only [putAll, Act.put, List.setIfInBounds_toArray, List.set_cons_zero, List.set_cons_succ] <;> rfl) (hJ ((.slice At0_0 l0_1.length ct0_0), (.slice At1_0 l1_1.length ct1_0), (.slice Au0_0 r2.length cu0_0), (.slice Au1_0 r4.length cu1_0), y0, y1) _ ⟨hHeld, V29.out, V32.out, V53.out, V56.out, G16.out, G18.out, G27.out, G30.out, G58.out, G60.out, L.out, Uu0_0.out, Uu1_0.out, By0.out, Ey0.out, DG16_y0.out, DG18_y0.out, DG27_y0.out, DG30_y0.out, DG58_y0.out, DG60_y0.out, By1.out, Ey1.out, DG16_y1.out, DG18_y1.out, DG27_y1.out, DG30_y1.out, DG58_y1.out, DG60_y1.out, Dyy.out⟩)
   refine three_ (i := 1) (j := 9) (k := 10) (Ni := some 32) (Nj := some 6) (Nk := some 7) #[true, true, true, false, false, false, false, false, false, false, false, false, false, false] #[true, false, true, false, false, false, false, false, false, true, false, false, false, false] #[true, false, true, false, false, false, false, false, false, false, true, false, false, false] rfl rfl rfl rfl rfl rfl (by kernel_rfl) (by decide) (by decide) (by decide) (fun K hK => ?_) (fun K hK => ?_) (fun K hK => ?_)
   ·skip
    refine goes_ Tryd.func13 (by kernel_rfl) rfl #[.agg #[.int .i64 s0_0, .slice A0_1 l0_1.length c0_1]] (by rfl) rfl rfl ma_ ?_
    obtain ⟨k, hk⟩ := KF.out.f0
    with_reducible refine (laws_toWhole.calls k s0_0 A0_1 c0_1 l0_1 s0_0 l0_1 _ (Kd.C_below HR0_1.out L.out) (HC0_1.out) hk).mono ?_
    rintro x w1 ⟨v0_, rfl, hr0_, hb⟩
    refine ⟨_, rfl, ?_⟩
    obtain ⟨At0_0, ct0_0, rfl⟩ := Kd.R_slice hr0_
    have Vt0_0 := am_ (RO.of (w := w) hr0_ L.out.size)
    replace G16 := gb_ G16 hb
    replace G18 := gb_ G18 hb
    replace L := lb_ L hb
    clear hb hk hr0_
    refine hK.out _ _ ((two2_ G16 G18)) (fun hHeld => ?_)
    clear hK K
    refine nr_ ?_
    refine three_ (i := 3) (j := 9) (k := 10) (Ni := some 34) (Nj := some 6) (Nk := some 7) #[true, true, true, true, false, false, false, false, false, false, false, false, false, false] #[true, true, true, false, false, false, false, false, false, true, false, false, false, false] #[true, true, true, false, false, false, false, false, false, false, true, false, false, false] rfl rfl rfl rfl rfl rfl (by kernel_rfl) (by decide) (by decide) (by decide) (fun K hK => ?_) (fun K hK => ?_) (fun K hK => ?_)
    ·skip
     refine goes_ Tryd.func13 (by kernel_rfl) rfl #[.agg #[.int .i64 s1_0, .slice A1_1 l1_1.length c1_1]] (by rfl) rfl rfl ma_ ?_
     obtain ⟨k, hk⟩ := KF.out.f1
     with_reducible refine (laws_toWhole.calls k s1_0 A1_1 c1_1 l1_1 s1_0 l1_1 _ (Kd.C_below HR1_1.out L.out) (HC1_1.out) hk).mono ?_
     rintro x w1 ⟨v0_, rfl, hr0_, hb⟩
     refine ⟨_, rfl, ?_⟩
     obtain ⟨At1_0, ct1_0, rfl⟩ := Kd.R_slice hr0_
     have Vt1_0 := am_ (RO.of (w := w) hr0_ L.out.size)
     replace G16 := gb_ G16 hb
     replace G18 := gb_ G18 hb
     replace Vt0_0 := vb_ Vt0_0 hb
     replace L := lb_ L hb
     clear hb hk hr0_
     refine hK.out _ _ ((two2_ G16 G18)) (fun hHeld => ?_)
     clear hK K
     refine nr_ ?_
     refine three_ (i := 4) (j := 9) (k := 10) (Ni := some 35) (Nj := some 6) (Nk := some 7) #[true, true, true, true, true, false, false, false, false, false, false, false, false, false] #[true, true, true, true, false, false, false, false, false, true, false, false, false, false] #[true, true, true, true, false, false, false, false, false, false, true, false, false, false] rfl rfl rfl rfl rfl rfl (by kernel_rfl) (by decide) (by decide) (by decide) (fun K hK => ?_) (fun K hK => ?_) (fun K hK => ?_)
     ·skip
      refine goes_ Tryd.func12 (by kernel_rfl) rfl #[.agg #[.int .i64 s0_0, .slice At0_0 l0_1.length ct0_0], .agg #[.int .i64 s1_0, .slice At1_0 l1_1.length ct1_0]] (by rfl) rfl rfl ma_ ?_
      obtain ⟨k, hk⟩ := KF.out.f2
      with_reducible refine (spec_DivideWholes.calls k s0_0 At0_0 ct0_0 l0_1 s1_0 At1_0 ct1_0 l1_1 r1 r2 r3 r4 r5 _ (Vt0_0.out.c) (Vt0_0.out.le) (Vt1_0.out.c) (Vt1_0.out.le) hk).mono ?_
      rintro x w1 ⟨v0_, v1_, rfl, hr0_, hr1_, hb⟩
      refine ⟨_, rfl, ?_⟩
      obtain ⟨Au0_0, cu0_0, rfl⟩ := Kd.R_slice hr0_
      obtain ⟨Au1_0, cu1_0, rfl⟩ := Kd.R_slice hr1_
      have Uu0_0 := am_ (RO.of (w := w) hr0_ L.out.size)
      have Uu1_0 := am_ (RO.of (w := w) hr1_ L.out.size)
      replace G16 := gb_ G16 hb
      replace G18 := gb_ G18 hb
      replace Vt0_0 := vb_ Vt0_0 hb
      replace Vt1_0 := vb_ Vt1_0 hb
      replace L := lb_ L hb
      clear hb hk hr0_ hr1_
      refine hK.out _ _ ((two2_ G16 G18)) (fun hHeld => ?_)
      clear hK K
      refine nr_ ?_
      refine pu_ #[true, true, true, true, true, true, false, false, false, false, false, false, false, false] 5 30 (by kernel_rfl) ?_
      refine pu_ #[true, true, true, true, true, true, true, false, false, false, false, false, false, false] 6 36 (by kernel_rfl) ?_
      refine pu_ #[true, true, true, true, true, true, true, true, false, false, false, false, false, false] 7 37 (by kernel_rfl) ?_
      refine pu_ #[true, true, true, true, true, true, true, true, true, false, false, false, false, false] 8 38 (by kernel_rfl) ?_
      refine two_ (i := 9) (j := 10) (Ni := some 6) (Nj := some 7) #[true, true, true, true, true, true, true, true, true, true, false, false, false, false] #[true, true, true, true, true, true, true, true, true, false, true, false, false, false] rfl rfl rfl rfl (by kernel_rfl) (by decide) (by decide) (fun K hK => ?_) (fun K hK => ?_)
      ·skip
       refine box_step ?hg (N := 6) ?hd (cs := #[.int .i64 0, .slice none 0 0]) (t := 26) ?hr ?_; (case hd => rfl); (case hg => rfl); (case hr => first | (go_simp; done) | (go_simp; rfl))
       intro y0 hg w1 hbox hb
       have By0 := by_ hbox
       have Ey0 := ey_ L hg
       have DG16_y0 := ny_ G16 hg
       have DG18_y0 := ny_ G18 hg
       replace G16 := gb_ G16 hb
       replace G18 := gb_ G18 hb
       replace Vt0_0 := vb_ Vt0_0 hb
       replace Vt1_0 := vb_ Vt1_0 hb
       replace Uu0_0 := vb_ Uu0_0 hb
       replace Uu1_0 := vb_ Uu1_0 hb
       replace L := lb_ L hb
       clear hb hg hbox
       refine hK.out _ _ ((two2_ G16 G18)) (fun hHeld => ?_)
       clear hK K
       refine nr_ ?_
       refine one_ (i := 10) (N := some 7) #[true, true, true, true, true, true, true, true, true, true, true, false, false, false] rfl rfl (by kernel_rfl) (by decide) (fun K hK => ?_)
       refine box_step ?hg (N := 7) ?hd (cs := #[.int .i64 0, .slice none 0 0]) (t := 26) ?hr ?_; (case hd => rfl); (case hg => rfl); (case hr => first | (go_simp; done) | (go_simp; rfl))
       intro y1 hg w1 hbox hb
       have By1 := by_ hbox
       have Ey1 := ey_ L hg
       have DG16_y1 := ny_ G16 hg
       have DG18_y1 := ny_ G18 hg
       have Dyy := ny_ By0 hg
       replace G16 := gb_ G16 hb
       replace G18 := gb_ G18 hb
       replace Vt0_0 := vb_ Vt0_0 hb
       replace Vt1_0 := vb_ Vt1_0 hb
       replace Uu0_0 := vb_ Uu0_0 hb
       replace Uu1_0 := vb_ Uu1_0 hb
       replace By0 := gb_ By0 hb
       replace L := lb_ L hb
       clear hb hg hbox
       refine hK.out _ _ ((two2_ G16 G18)) (fun hHeld => ?_)
       clear hK K
       refine nr_ ?_
       exact norm_ (by simp only [putAll, Act.put, List.setIfInBounds_toArray, List.set_cons_zero, List.set_cons_succ] <;> rfl) (hJ ((.slice At0_0 l0_1.length ct0_0), (.slice At1_0 l1_1.length ct1_0), (.slice Au0_0 r2.length cu0_0), (.slice Au1_0 r4.length cu1_0), y0, y1) _ ⟨hHeld, G16.out, G18.out, L.out, Uu0_0.out, Uu1_0.out, By0.out, Ey0.out, DG16_y0.out, DG18_y0.out, By1.out, Ey1.out, DG16_y1.out, DG18_y1.out, Dyy.out⟩)
      ·skip
       refine box_step ?hg (N := 7) ?hd (cs := #[.int .i64 0, .slice none 0 0]) (t := 26) ?hr ?_; (case hd => rfl); (case hg => rfl); (case hr => first | (go_simp; done) | (go_simp; rfl))
       intro y1 hg w1 hbox hb
       have By1 := by_ hbox
       have Ey1 := ey_ L hg
       have DG16_y1 := ny_ G16 hg
       have DG18_y1 := ny_ G18 hg
       replace G16 := gb_ G16 hb
       replace G18 := gb_ G18 hb
       replace Vt0_0 := vb_ Vt0_0 hb
       replace Vt1_0 := vb_ Vt1_0 hb
       replace Uu0_0 := vb_ Uu0_0 hb
       replace Uu1_0 := vb_ Uu1_0 hb
       replace L := lb_ L hb
       clear hb hg hbox
       refine hK.out _ _ ((two2_ G16 G18)) (fun hHeld => ?_)
       clear hK K
       refine nr_ ?_
       refine one_ (i := 9) (N := some 6) #[true, true, true, true, true, true, true, true, true, true, true, false, false, false] rfl rfl (by kernel_rfl) (by decide) (fun K hK => ?_)
       refine box_step ?hg (N := 6) ?hd (cs := #[.int .i64 0, .slice none 0 0]) (t := 26) ?hr ?_; (case hd => rfl); (case hg => rfl); (case hr => first | (go_simp; done) | (go_simp; rfl))
       intro y0 hg w1 hbox hb
       have By0 := by_ hbox
       have Ey0 := ey_ L hg
       have DG16_y0 := ny_ G16 hg
       have DG18_y0 := ny_ G18 hg
       have Dyy := am_ (show y0 ≠ y1 from by rw [hg]; exact Nat.ne_of_gt (blk_lt By1.out.x))
       replace G16 := gb_ G16 hb
       replace G18 := gb_ G18 hb
       replace Vt0_0 := vb_ Vt0_0 hb
       replace Vt1_0 := vb_ Vt1_0 hb
       replace Uu0_0 := vb_ Uu0_0 hb
       replace Uu1_0 := vb_ Uu1_0 hb
       replace By1 := gb_ By1 hb
       replace L := lb_ L hb
       clear hb hg hbox
       refine hK.out _ _ ((two2_ G16 G18)) (fun hHeld => ?_)
       clear hK K
       refine nr_ ?_
       exact norm_ (by simp only [putAll, Act.put, List.setIfInBounds_toArray, List.set_cons_zero, List.set_cons_succ] <;> rfl) (hJ ((.slice At0_0 l0_1.length ct0_0), (.slice At1_0 l1_1.length ct1_0), (.slice Au0_0 r2.length cu0_0), (.slice Au1_0 r4.length cu1_0), y0, y1) _ ⟨hHeld, G16.out, G18.out, L.out, Uu0_0.out, Uu1_0.out, By0.out, Ey0.out, DG16_y0.out, DG18_y0.out, By1.out, Ey1.out, DG16_y1.out, DG18_y1.out, Dyy.out⟩)
     ·skip
      refine box_step ?hg (N := 6) ?hd (cs := #[.int .i64 0, .slice none 0 0]) (t := 26) ?hr ?_; (case hd => rfl); (case hg => rfl); (case hr => first | (go_simp; done) | (go_simp; rfl))
      intro y0 hg w1 hbox hb
      have By0 := by_ hbox
      have Ey0 := ey_ L hg
      have DG16_y0 := ny_ G16 hg
      have DG18_y0 := ny_ G18 hg
      replace G16 := gb_ G16 hb
      replace G18 := gb_ G18 hb
      replace Vt0_0 := vb_ Vt0_0 hb
      replace Vt1_0 := vb_ Vt1_0 hb
      replace L := lb_ L hb
      clear hb hg hbox
      refine hK.out _ _ ((two2_ G16 G18)) (fun hHeld => ?_)
      clear hK K
      refine nr_ ?_
      refine two_ (i := 4) (j := 10) (Ni := some 35) (Nj := some 7) #[true, true, true, true, true, false, false, false, false, true, false, false, false, false] #[true, true, true, true, false, false, false, false, false, true, true, false, false, false] rfl rfl rfl rfl (by kernel_rfl) (by decide) (by decide) (fun K hK => ?_) (fun K hK => ?_)
      ·skip
       refine goes_ Tryd.func12 (by kernel_rfl) rfl #[.agg #[.int .i64 s0_0, .slice At0_0 l0_1.length ct0_0], .agg #[.int .i64 s1_0, .slice At1_0 l1_1.length ct1_0]] (by rfl) rfl rfl ma_ ?_
       obtain ⟨k, hk⟩ := KF.out.f2
       with_reducible refine (spec_DivideWholes.calls k s0_0 At0_0 ct0_0 l0_1 s1_0 At1_0 ct1_0 l1_1 r1 r2 r3 r4 r5 _ (Vt0_0.out.c) (Vt0_0.out.le) (Vt1_0.out.c) (Vt1_0.out.le) hk).mono ?_
       rintro x w1 ⟨v0_, v1_, rfl, hr0_, hr1_, hb⟩
       refine ⟨_, rfl, ?_⟩
       obtain ⟨Au0_0, cu0_0, rfl⟩ := Kd.R_slice hr0_
       obtain ⟨Au1_0, cu1_0, rfl⟩ := Kd.R_slice hr1_
       have Uu0_0 := am_ (RO.of (w := w) hr0_ L.out.size)
       have Uu1_0 := am_ (RO.of (w := w) hr1_ L.out.size)
       replace G16 := gb_ G16 hb
       replace G18 := gb_ G18 hb
       replace Vt0_0 := vb_ Vt0_0 hb
       replace Vt1_0 := vb_ Vt1_0 hb
       replace By0 := gb_ By0 hb
       replace L := lb_ L hb
       clear hb hk hr0_ hr1_
       refine hK.out _ _ ((two2_ G16 G18)) (fun hHeld => ?_)
       clear hK K
       refine nr_ ?_
       refine pu_ #[true, true, true, true, true, true, false, false, false, true, false, false, false, false] 5 30 (by kernel_rfl) ?_
       refine pu_ #[true, true, true, true, true, true, true, false, false, true, false, false, false, false] 6 36 (by kernel_rfl) ?_
       refine pu_ #[true, true, true, true, true, true, true, true, false, true, false, false, false, false] 7 37 (by kernel_rfl) ?_
       refine pu_ #[true, true, true, true, true, true, true, true, true, true, false, false, false, false] 8 38 (by kernel_rfl) ?_
       refine one_ (i := 10) (N := some 7) #[true, true, true, true, true, true, true, true, true, true, true, false, false, false] rfl rfl (by kernel_rfl) (by decide) (fun K hK => ?_)
       refine box_step ?hg (N := 7) ?hd (cs := #[.int .i64 0, .slice none 0 0]) (t := 26) ?hr ?_; (case hd => rfl); (case hg => rfl); (case hr => first | (go_simp; done) | (go_simp; rfl))
       intro y1 hg w1 hbox hb
       have By1 := by_ hbox
       have Ey1 := ey_ L hg
       have DG16_y1 := ny_ G16 hg
       have DG18_y1 := ny_ G18 hg
       have Dyy := ny_ By0 hg
       replace G16 := gb_ G16 hb
       replace G18 := gb_ G18 hb
       replace Vt0_0 := vb_ Vt0_0 hb
       replace Vt1_0 := vb_ Vt1_0 hb
       replace By0 := gb_ By0 hb
       replace Uu0_0 := vb_ Uu0_0 hb
       replace Uu1_0 := vb_ Uu1_0 hb
       replace L := lb_ L hb
       clear hb hg hbox
       refine hK.out _ _ ((two2_ G16 G18)) (fun hHeld => ?_)
       clear hK K
       refine nr_ ?_
       exact norm_ (by simp only [putAll, Act.put, List.setIfInBounds_toArray, List.set_cons_zero, List.set_cons_succ] <;> rfl) (hJ ((.slice At0_0 l0_1.length ct0_0), (.slice At1_0 l1_1.length ct1_0), (.slice Au0_0 r2.length cu0_0), (.slice Au1_0 r4.length cu1_0), y0, y1) _ ⟨hHeld, G16.out, G18.out, L.out, Uu0_0.out, Uu1_0.out, By0.out, Ey0.out, DG16_y0.out, DG18_y0.out, By1.out, Ey1.out, DG16_y1.out, DG18_y1.out, Dyy.out⟩)
      ·skip
       refine box_step ?hg (N := 7) ?hd (cs := #[.int .i64 0, .slice none 0 0]) (t := 26) ?hr ?_; (case hd => rfl); (case hg => rfl); (case hr => first | (go_simp; done) | (go_simp; rfl))
       intro y1 hg w1 hbox hb
       have By1 := by_ hbox
       have Ey1 := ey_ L hg
       have DG16_y1 := ny_ G16 hg
       have DG18_y1 := ny_ G18 hg
       have Dyy := ny_ By0 hg
       replace G16 := gb_ G16 hb
       replace G18 := gb_ G18 hb
       replace Vt0_0 := vb_ Vt0_0 hb
       replace Vt1_0 := vb_ Vt1_0 hb
       replace By0 := gb_ By0 hb
       replace L := lb_ L hb
       clear hb hg hbox
       refine hK.out _ _ ((two2_ G16 G18)) (fun hHeld => ?_)
       clear hK K
       refine nr_ ?_
       refine one_ (i := 4) (N := some 35) #[true, true, true, true, true, false, false, false, false, true, true, false, false, false] rfl rfl (by kernel_rfl) (by decide) (fun K hK => ?_)
       refine goes_ Tryd.func12 (by kernel_rfl) rfl #[.agg #[.int .i64 s0_0, .slice At0_0 l0_1.length ct0_0], .agg #[.int .i64 s1_0, .slice At1_0 l1_1.length ct1_0]] (by rfl) rfl rfl ma_ ?_
       obtain ⟨k, hk⟩ := KF.out.f2
       with_reducible refine (spec_DivideWholes.calls k s0_0 At0_0 ct0_0 l0_1 s1_0 At1_0 ct1_0 l1_1 r1 r2 r3 r4 r5 _ (Vt0_0.out.c) (Vt0_0.out.le) (Vt1_0.out.c) (Vt1_0.out.le) hk).mono ?_
       rintro x w1 ⟨v0_, v1_, rfl, hr0_, hr1_, hb⟩
       refine ⟨_, rfl, ?_⟩
       obtain ⟨Au0_0, cu0_0, rfl⟩ := Kd.R_slice hr0_
       obtain ⟨Au1_0, cu1_0, rfl⟩ := Kd.R_slice hr1_
       have Uu0_0 := am_ (RO.of (w := w) hr0_ L.out.size)
       have Uu1_0 := am_ (RO.of (w := w) hr1_ L.out.size)
       replace G16 := gb_ G16 hb
       replace G18 := gb_ G18 hb
       replace Vt0_0 := vb_ Vt0_0 hb
       replace Vt1_0 := vb_ Vt1_0 hb
       replace By0 := gb_ By0 hb
       replace By1 := gb_ By1 hb
       replace L := lb_ L hb
       clear hb hk hr0_ hr1_
       refine hK.out _ _ ((two2_ G16 G18)) (fun hHeld => ?_)
       clear hK K
       refine nr_ ?_
       refine pu_ #[true, true, true, true, true, true, false, false, false, true, true, false, false, false] 5 30 (by kernel_rfl) ?_
       refine pu_ #[true, true, true, true, true, true, true, false, false, true, true, false, false, false] 6 36 (by kernel_rfl) ?_
       refine pu_ #[true, true, true, true, true, true, true, true, false, true, true, false, false, false] 7 37 (by kernel_rfl) ?_
       refine pu_ #[true, true, true, true, true, true, true, true, true, true, true, false, false, false] 8 38 (by kernel_rfl) ?_
       exact norm_ (by simp only [putAll, Act.put, List.setIfInBounds_toArray, List.set_cons_zero, List.set_cons_succ] <;> rfl) (hJ ((.slice At0_0 l0_1.length ct0_0), (.slice At1_0 l1_1.length ct1_0), (.slice Au0_0 r2.length cu0_0), (.slice Au1_0 r4.length cu1_0), y0, y1) _ ⟨hHeld, G16.out, G18.out, L.out, Uu0_0.out, Uu1_0.out, By0.out, Ey0.out, DG16_y0.out, DG18_y0.out, By1.out, Ey1.out, DG16_y1.out, DG18_y1.out, Dyy.out⟩)
     ·skip
      refine box_step ?hg (N := 7) ?hd (cs := #[.int .i64 0, .slice none 0 0]) (t := 26) ?hr ?_; (case hd => rfl); (case hg => rfl); (case hr => first | (go_simp; done) | (go_simp; rfl))
      intro y1 hg w1 hbox hb
      have By1 := by_ hbox
      have Ey1 := ey_ L hg
      have DG16_y1 := ny_ G16 hg
      have DG18_y1 := ny_ G18 hg
      replace G16 := gb_ G16 hb
      replace G18 := gb_ G18 hb
      replace Vt0_0 := vb_ Vt0_0 hb
      replace Vt1_0 := vb_ Vt1_0 hb
      replace L := lb_ L hb
      clear hb hg hbox
      refine hK.out _ _ ((two2_ G16 G18)) (fun hHeld => ?_)
      clear hK K
      refine nr_ ?_
      refine two_ (i := 4) (j := 9) (Ni := some 35) (Nj := some 6) #[true, true, true, true, true, false, false, false, false, false, true, false, false, false] #[true, true, true, true, false, false, false, false, false, true, true, false, false, false] rfl rfl rfl rfl (by kernel_rfl) (by decide) (by decide) (fun K hK => ?_) (fun K hK => ?_)
      ·skip
       refine goes_ Tryd.func12 (by kernel_rfl) rfl #[.agg #[.int .i64 s0_0, .slice At0_0 l0_1.length ct0_0], .agg #[.int .i64 s1_0, .slice At1_0 l1_1.length ct1_0]] (by rfl) rfl rfl ma_ ?_
       obtain ⟨k, hk⟩ := KF.out.f2
       with_reducible refine (spec_DivideWholes.calls k s0_0 At0_0 ct0_0 l0_1 s1_0 At1_0 ct1_0 l1_1 r1 r2 r3 r4 r5 _ (Vt0_0.out.c) (Vt0_0.out.le) (Vt1_0.out.c) (Vt1_0.out.le) hk).mono ?_
       rintro x w1 ⟨v0_, v1_, rfl, hr0_, hr1_, hb⟩
       refine ⟨_, rfl, ?_⟩
       obtain ⟨Au0_0, cu0_0, rfl⟩ := Kd.R_slice hr0_
       obtain ⟨Au1_0, cu1_0, rfl⟩ := Kd.R_slice hr1_
       have Uu0_0 := am_ (RO.of (w := w) hr0_ L.out.size)
       have Uu1_0 := am_ (RO.of (w := w) hr1_ L.out.size)
       replace G16 := gb_ G16 hb
       replace G18 := gb_ G18 hb
       replace Vt0_0 := vb_ Vt0_0 hb
       replace Vt1_0 := vb_ Vt1_0 hb
       replace By1 := gb_ By1 hb
       replace L := lb_ L hb
       clear hb hk hr0_ hr1_
       refine hK.out _ _ ((two2_ G16 G18)) (fun hHeld => ?_)
       clear hK K
       refine nr_ ?_
       refine pu_ #[true, true, true, true, true, true, false, false, false, false, true, false, false, false] 5 30 (by kernel_rfl) ?_
       refine pu_ #[true, true, true, true, true, true, true, false, false, false, true, false, false, false] 6 36 (by kernel_rfl) ?_
       refine pu_ #[true, true, true, true, true, true, true, true, false, false, true, false, false, false] 7 37 (by kernel_rfl) ?_
       refine pu_ #[true, true, true, true, true, true, true, true, true, false, true, false, false, false] 8 38 (by kernel_rfl) ?_
       refine one_ (i := 9) (N := some 6) #[true, true, true, true, true, true, true, true, true, true, true, false, false, false] rfl rfl (by kernel_rfl) (by decide) (fun K hK => ?_)
       refine box_step ?hg (N := 6) ?hd (cs := #[.int .i64 0, .slice none 0 0]) (t := 26) ?hr ?_; (case hd => rfl); (case hg => rfl); (case hr => first | (go_simp; done) | (go_simp; rfl))
       intro y0 hg w1 hbox hb
       have By0 := by_ hbox
       have Ey0 := ey_ L hg
       have DG16_y0 := ny_ G16 hg
       have DG18_y0 := ny_ G18 hg
       have Dyy := am_ (show y0 ≠ y1 from by rw [hg]; exact Nat.ne_of_gt (blk_lt By1.out.x))
       replace G16 := gb_ G16 hb
       replace G18 := gb_ G18 hb
       replace Vt0_0 := vb_ Vt0_0 hb
       replace Vt1_0 := vb_ Vt1_0 hb
       replace By1 := gb_ By1 hb
       replace Uu0_0 := vb_ Uu0_0 hb
       replace Uu1_0 := vb_ Uu1_0 hb
       replace L := lb_ L hb
       clear hb hg hbox
       refine hK.out _ _ ((two2_ G16 G18)) (fun hHeld => ?_)
       clear hK K
       refine nr_ ?_
       exact norm_ (by simp only [putAll, Act.put, List.setIfInBounds_toArray, List.set_cons_zero, List.set_cons_succ] <;> rfl) (hJ ((.slice At0_0 l0_1.length ct0_0), (.slice At1_0 l1_1.length ct1_0), (.slice Au0_0 r2.length cu0_0), (.slice Au1_0 r4.length cu1_0), y0, y1) _ ⟨hHeld, G16.out, G18.out, L.out, Uu0_0.out, Uu1_0.out, By0.out, Ey0.out, DG16_y0.out, DG18_y0.out, By1.out, Ey1.out, DG16_y1.out, DG18_y1.out, Dyy.out⟩)
      ·skip
       refine box_step ?hg (N := 6) ?hd (cs := #[.int .i64 0, .slice none 0 0]) (t := 26) ?hr ?_; (case hd => rfl); (case hg => rfl); (case hr => first | (go_simp; done) | (go_simp; rfl))
       intro y0 hg w1 hbox hb
       have By0 := by_ hbox
       have Ey0 := ey_ L hg
       have DG16_y0 := ny_ G16 hg
       have DG18_y0 := ny_ G18 hg
       have Dyy := am_ (show y0 ≠ y1 from by rw [hg]; exact Nat.ne_of_gt (blk_lt By1.out.x))
       replace G16 := gb_ G16 hb
       replace G18 := gb_ G18 hb
       replace Vt0_0 := vb_ Vt0_0 hb
       replace Vt1_0 := vb_ Vt1_0 hb
       replace By1 := gb_ By1 hb
       replace L := lb_ L hb
       clear hb hg hbox
       refine hK.out _ _ ((two2_ G16 G18)) (fun hHeld => ?_)
       clear hK K
       refine nr_ ?_
       refine one_ (i := 4) (N := some 35) #[true, true, true, true, true, false, false, false, false, true, true, false, false, false] rfl rfl (by kernel_rfl) (by decide) (fun K hK => ?_)
       refine goes_ Tryd.func12 (by kernel_rfl) rfl #[.agg #[.int .i64 s0_0, .slice At0_0 l0_1.length ct0_0], .agg #[.int .i64 s1_0, .slice At1_0 l1_1.length ct1_0]] (by rfl) rfl rfl ma_ ?_
       obtain ⟨k, hk⟩ := KF.out.f2
       with_reducible refine (spec_DivideWholes.calls k s0_0 At0_0 ct0_0 l0_1 s1_0 At1_0 ct1_0 l1_1 r1 r2 r3 r4 r5 _ (Vt0_0.out.c) (Vt0_0.out.le) (Vt1_0.out.c) (Vt1_0.out.le) hk).mono ?_
       rintro x w1 ⟨v0_, v1_, rfl, hr0_, hr1_, hb⟩
       refine ⟨_, rfl, ?_⟩
       obtain ⟨Au0_0, cu0_0, rfl⟩ := Kd.R_slice hr0_
       obtain ⟨Au1_0, cu1_0, rfl⟩ := Kd.R_slice hr1_
       have Uu0_0 := am_ (RO.of (w := w) hr0_ L.out.size)
       have Uu1_0 := am_ (RO.of (w := w) hr1_ L.out.size)
       replace G16 := gb_ G16 hb
       replace G18 := gb_ G18 hb
       replace Vt0_0 := vb_ Vt0_0 hb
       replace Vt1_0 := vb_ Vt1_0 hb
       replace By1 := gb_ By1 hb
       replace By0 := gb_ By0 hb
       replace L := lb_ L hb
       clear hb hk hr0_ hr1_
       refine hK.out _ _ ((two2_ G16 G18)) (fun hHeld => ?_)
       clear hK K
       refine nr_ ?_
       refine pu_ #[true, true, true, true, true, true, false, false, false, true, true, false, false, false] 5 30 (by kernel_rfl) ?_
       refine pu_ #[true, true, true, true, true, true, true, false, false, true, true, false, false, false] 6 36 (by kernel_rfl) ?_
       refine pu_ #[true, true, true, true, true, true, true, true, false, true, true, false, false, false] 7 37 (by kernel_rfl) ?_
       refine pu_ #[true, true, true, true, true, true, true, true, true, true, true, false, false, false] 8 38 (by kernel_rfl) ?_
       exact norm_ (by simp only [putAll, Act.put, List.setIfInBounds_toArray, List.set_cons_zero, List.set_cons_succ] <;> rfl) (hJ ((.slice At0_0 l0_1.length ct0_0), (.slice At1_0 l1_1.length ct1_0), (.slice Au0_0 r2.length cu0_0), (.slice Au1_0 r4.length cu1_0), y0, y1) _ ⟨hHeld, G16.out, G18.out, L.out, Uu0_0.out, Uu1_0.out, By0.out, Ey0.out, DG16_y0.out, DG18_y0.out, By1.out, Ey1.out, DG16_y1.out, DG18_y1.out, Dyy.out⟩)
    ·skip
     refine box_step ?hg (N := 6) ?hd (cs := #[.int .i64 0, .slice none 0 0]) (t := 26) ?hr ?_; (case hd => rfl); (case hg => rfl); (case hr => first | (go_simp; done) | (go_simp; rfl))
     intro y0 hg w1 hbox hb
     have By0 := by_ hbox
     have Ey0 := ey_ L hg
     have DG16_y0 := ny_ G16 hg
     have DG18_y0 := ny_ G18 hg
     replace G16 := gb_ G16 hb
     replace G18 := gb_ G18 hb
     replace Vt0_0 := vb_ Vt0_0 hb
     replace L := lb_ L hb
     clear hb hg hbox
     refine hK.out _ _ ((two2_ G16 G18)) (fun hHeld => ?_)
     clear hK K
     refine nr_ ?_
     refine two_ (i := 3) (j := 10) (Ni := some 34) (Nj := some 7) #[true, true, true, true, false, false, false, false, false, true, false, false, false, false] #[true, true, true, false, false, false, false, false, false, true, true, false, false, false] rfl rfl rfl rfl (by kernel_rfl) (by decide) (by decide) (fun K hK => ?_) (fun K hK => ?_)
     ·skip
      refine goes_ Tryd.func13 (by kernel_rfl) rfl #[.agg #[.int .i64 s1_0, .slice A1_1 l1_1.length c1_1]] (by rfl) rfl rfl ma_ ?_
      obtain ⟨k, hk⟩ := KF.out.f1
      with_reducible refine (laws_toWhole.calls k s1_0 A1_1 c1_1 l1_1 s1_0 l1_1 _ (Kd.C_below HR1_1.out L.out) (HC1_1.out) hk).mono ?_
      rintro x w1 ⟨v0_, rfl, hr0_, hb⟩
      refine ⟨_, rfl, ?_⟩
      obtain ⟨At1_0, ct1_0, rfl⟩ := Kd.R_slice hr0_
      have Vt1_0 := am_ (RO.of (w := w) hr0_ L.out.size)
      replace G16 := gb_ G16 hb
      replace G18 := gb_ G18 hb
      replace Vt0_0 := vb_ Vt0_0 hb
      replace By0 := gb_ By0 hb
      replace L := lb_ L hb
      clear hb hk hr0_
      refine hK.out _ _ ((two2_ G16 G18)) (fun hHeld => ?_)
      clear hK K
      refine nr_ ?_
      refine two_ (i := 4) (j := 10) (Ni := some 35) (Nj := some 7) #[true, true, true, true, true, false, false, false, false, true, false, false, false, false] #[true, true, true, true, false, false, false, false, false, true, true, false, false, false] rfl rfl rfl rfl (by kernel_rfl) (by decide) (by decide) (fun K hK => ?_) (fun K hK => ?_)
      ·skip
       refine goes_ Tryd.func12 (by kernel_rfl) rfl #[.agg #[.int .i64 s0_0, .slice At0_0 l0_1.length ct0_0], .agg #[.int .i64 s1_0, .slice At1_0 l1_1.length ct1_0]] (by rfl) rfl rfl ma_ ?_
       obtain ⟨k, hk⟩ := KF.out.f2
       with_reducible refine (spec_DivideWholes.calls k s0_0 At0_0 ct0_0 l0_1 s1_0 At1_0 ct1_0 l1_1 r1 r2 r3 r4 r5 _ (Vt0_0.out.c) (Vt0_0.out.le) (Vt1_0.out.c) (Vt1_0.out.le) hk).mono ?_
       rintro x w1 ⟨v0_, v1_, rfl, hr0_, hr1_, hb⟩
       refine ⟨_, rfl, ?_⟩
       obtain ⟨Au0_0, cu0_0, rfl⟩ := Kd.R_slice hr0_
       obtain ⟨Au1_0, cu1_0, rfl⟩ := Kd.R_slice hr1_
       have Uu0_0 := am_ (RO.of (w := w) hr0_ L.out.size)
       have Uu1_0 := am_ (RO.of (w := w) hr1_ L.out.size)
       replace G16 := gb_ G16 hb
       replace G18 := gb_ G18 hb
       replace Vt0_0 := vb_ Vt0_0 hb
       replace By0 := gb_ By0 hb
       replace Vt1_0 := vb_ Vt1_0 hb
       replace L := lb_ L hb
       clear hb hk hr0_ hr1_
       refine hK.out _ _ ((two2_ G16 G18)) (fun hHeld => ?_)
       clear hK K
       refine nr_ ?_
       refine pu_ #[true, true, true, true, true, true, false, false, false, true, false, false, false, false] 5 30 (by kernel_rfl) ?_
       refine pu_ #[true, true, true, true, true, true, true, false, false, true, false, false, false, false] 6 36 (by kernel_rfl) ?_
       refine pu_ #[true, true, true, true, true, true, true, true, false, true, false, false, false, false] 7 37 (by kernel_rfl) ?_
       refine pu_ #[true, true, true, true, true, true, true, true, true, true, false, false, false, false] 8 38 (by kernel_rfl) ?_
       refine one_ (i := 10) (N := some 7) #[true, true, true, true, true, true, true, true, true, true, true, false, false, false] rfl rfl (by kernel_rfl) (by decide) (fun K hK => ?_)
       refine box_step ?hg (N := 7) ?hd (cs := #[.int .i64 0, .slice none 0 0]) (t := 26) ?hr ?_; (case hd => rfl); (case hg => rfl); (case hr => first | (go_simp; done) | (go_simp; rfl))
       intro y1 hg w1 hbox hb
       have By1 := by_ hbox
       have Ey1 := ey_ L hg
       have DG16_y1 := ny_ G16 hg
       have DG18_y1 := ny_ G18 hg
       have Dyy := ny_ By0 hg
       replace G16 := gb_ G16 hb
       replace G18 := gb_ G18 hb
       replace Vt0_0 := vb_ Vt0_0 hb
       replace By0 := gb_ By0 hb
       replace Vt1_0 := vb_ Vt1_0 hb
       replace Uu0_0 := vb_ Uu0_0 hb
       replace Uu1_0 := vb_ Uu1_0 hb
       replace L := lb_ L hb
       clear hb hg hbox
       refine hK.out _ _ ((two2_ G16 G18)) (fun hHeld => ?_)
       clear hK K
       refine nr_ ?_
       exact norm_ (by simp only [putAll, Act.put, List.setIfInBounds_toArray, List.set_cons_zero, List.set_cons_succ] <;> rfl) (hJ ((.slice At0_0 l0_1.length ct0_0), (.slice At1_0 l1_1.length ct1_0), (.slice Au0_0 r2.length cu0_0), (.slice Au1_0 r4.length cu1_0), y0, y1) _ ⟨hHeld, G16.out, G18.out, L.out, Uu0_0.out, Uu1_0.out, By0.out, Ey0.out, DG16_y0.out, DG18_y0.out, By1.out, Ey1.out, DG16_y1.out, DG18_y1.out, Dyy.out⟩)
      ·skip
       refine box_step ?hg (N := 7) ?hd (cs := #[.int .i64 0, .slice none 0 0]) (t := 26) ?hr ?_; (case hd => rfl); (case hg => rfl); (case hr => first | (go_simp; done) | (go_simp; rfl))
       intro y1 hg w1 hbox hb
       have By1 := by_ hbox
       have Ey1 := ey_ L hg
       have DG16_y1 := ny_ G16 hg
       have DG18_y1 := ny_ G18 hg
       have Dyy := ny_ By0 hg
       replace G16 := gb_ G16 hb
       replace G18 := gb_ G18 hb
       replace Vt0_0 := vb_ Vt0_0 hb
       replace By0 := gb_ By0 hb
       replace Vt1_0 := vb_ Vt1_0 hb
       replace L := lb_ L hb
       clear hb hg hbox
       refine hK.out _ _ ((two2_ G16 G18)) (fun hHeld => ?_)
       clear hK K
       refine nr_ ?_
       refine one_ (i := 4) (N := some 35) #[true, true, true, true, true, false, false, false, false, true, true, false, false, false] rfl rfl (by kernel_rfl) (by decide) (fun K hK => ?_)
       refine goes_ Tryd.func12 (by kernel_rfl) rfl #[.agg #[.int .i64 s0_0, .slice At0_0 l0_1.length ct0_0], .agg #[.int .i64 s1_0, .slice At1_0 l1_1.length ct1_0]] (by rfl) rfl rfl ma_ ?_
       obtain ⟨k, hk⟩ := KF.out.f2
       with_reducible refine (spec_DivideWholes.calls k s0_0 At0_0 ct0_0 l0_1 s1_0 At1_0 ct1_0 l1_1 r1 r2 r3 r4 r5 _ (Vt0_0.out.c) (Vt0_0.out.le) (Vt1_0.out.c) (Vt1_0.out.le) hk).mono ?_
       rintro x w1 ⟨v0_, v1_, rfl, hr0_, hr1_, hb⟩
       refine ⟨_, rfl, ?_⟩
       obtain ⟨Au0_0, cu0_0, rfl⟩ := Kd.R_slice hr0_
       obtain ⟨Au1_0, cu1_0, rfl⟩ := Kd.R_slice hr1_
       have Uu0_0 := am_ (RO.of (w := w) hr0_ L.out.size)
       have Uu1_0 := am_ (RO.of (w := w) hr1_ L.out.size)
       replace G16 := gb_ G16 hb
       replace G18 := gb_ G18 hb
       replace Vt0_0 := vb_ Vt0_0 hb
       replace By0 := gb_ By0 hb
       replace Vt1_0 := vb_ Vt1_0 hb
       replace By1 := gb_ By1 hb
       replace L := lb_ L hb
       clear hb hk hr0_ hr1_
       refine hK.out _ _ ((two2_ G16 G18)) (fun hHeld => ?_)
       clear hK K
       refine nr_ ?_
       refine pu_ #[true, true, true, true, true, true, false, false, false, true, true, false, false, false] 5 30 (by kernel_rfl) ?_
       refine pu_ #[true, true, true, true, true, true, true, false, false, true, true, false, false, false] 6 36 (by kernel_rfl) ?_
       refine pu_ #[true, true, true, true, true, true, true, true, false, true, true, false, false, false] 7 37 (by kernel_rfl) ?_
       refine pu_ #[true, true, true, true, true, true, true, true, true, true, true, false, false, false] 8 38 (by kernel_rfl) ?_
       exact norm_ (by simp only [putAll, Act.put, List.setIfInBounds_toArray, List.set_cons_zero, List.set_cons_succ] <;> rfl) (hJ ((.slice At0_0 l0_1.length ct0_0), (.slice At1_0 l1_1.length ct1_0), (.slice Au0_0 r2.length cu0_0), (.slice Au1_0 r4.length cu1_0), y0, y1) _ ⟨hHeld, G16.out, G18.out, L.out, Uu0_0.out, Uu1_0.out, By0.out, Ey0.out, DG16_y0.out, DG18_y0.out, By1.out, Ey1.out, DG16_y1.out, DG18_y1.out, Dyy.out⟩)
     ·skip
      refine box_step ?hg (N := 7) ?hd (cs := #[.int .i64 0, .slice none 0 0]) (t := 26) ?hr ?_; (case hd => rfl); (case hg => rfl); (case hr => first | (go_simp; done) | (go_simp; rfl))
      intro y1 hg w1 hbox hb
      have By1 := by_ hbox
      have Ey1 := ey_ L hg
      have DG16_y1 := ny_ G16 hg
      have DG18_y1 := ny_ G18 hg
      have Dyy := ny_ By0 hg
      replace G16 := gb_ G16 hb
      replace G18 := gb_ G18 hb
      replace Vt0_0 := vb_ Vt0_0 hb
      replace By0 := gb_ By0 hb
      replace L := lb_ L hb
      clear hb hg hbox
      refine hK.out _ _ ((two2_ G16 G18)) (fun hHeld => ?_)
      clear hK K
      refine nr_ ?_
      refine one_ (i := 3) (N := some 34) #[true, true, true, true, false, false, false, false, false, true, true, false, false, false] rfl rfl (by kernel_rfl) (by decide) (fun K hK => ?_)
      refine goes_ Tryd.func13 (by kernel_rfl) rfl #[.agg #[.int .i64 s1_0, .slice A1_1 l1_1.length c1_1]] (by rfl) rfl rfl ma_ ?_
      obtain ⟨k, hk⟩ := KF.out.f1
      with_reducible refine (laws_toWhole.calls k s1_0 A1_1 c1_1 l1_1 s1_0 l1_1 _ (Kd.C_below HR1_1.out L.out) (HC1_1.out) hk).mono ?_
      rintro x w1 ⟨v0_, rfl, hr0_, hb⟩
      refine ⟨_, rfl, ?_⟩
      obtain ⟨At1_0, ct1_0, rfl⟩ := Kd.R_slice hr0_
      have Vt1_0 := am_ (RO.of (w := w) hr0_ L.out.size)
      replace G16 := gb_ G16 hb
      replace G18 := gb_ G18 hb
      replace Vt0_0 := vb_ Vt0_0 hb
      replace By0 := gb_ By0 hb
      replace By1 := gb_ By1 hb
      replace L := lb_ L hb
      clear hb hk hr0_
      refine hK.out _ _ ((two2_ G16 G18)) (fun hHeld => ?_)
      clear hK K
      refine nr_ ?_
      refine one_ (i := 4) (N := some 35) #[true, true, true, true, true, false, false, false, false, true, true, false, false, false] rfl rfl (by kernel_rfl) (by decide) (fun K hK => ?_)
      refine goes_ Tryd.func12 (by kernel_rfl) rfl #[.agg #[.int .i64 s0_0, .slice At0_0 l0_1.length ct0_0], .agg #[.int .i64 s1_0, .slice At1_0 l1_1.length ct1_0]] (by rfl) rfl rfl ma_ ?_
      obtain ⟨k, hk⟩ := KF.out.f2
      with_reducible refine (spec_DivideWholes.calls k s0_0 At0_0 ct0_0 l0_1 s1_0 At1_0 ct1_0 l1_1 r1 r2 r3 r4 r5 _ (Vt0_0.out.c) (Vt0_0.out.le) (Vt1_0.out.c) (Vt1_0.out.le) hk).mono ?_
      rintro x w1 ⟨v0_, v1_, rfl, hr0_, hr1_, hb⟩
      refine ⟨_, rfl, ?_⟩
      obtain ⟨Au0_0, cu0_0, rfl⟩ := Kd.R_slice hr0_
      obtain ⟨Au1_0, cu1_0, rfl⟩ := Kd.R_slice hr1_
      have Uu0_0 := am_ (RO.of (w := w) hr0_ L.out.size)
      have Uu1_0 := am_ (RO.of (w := w) hr1_ L.out.size)
      replace G16 := gb_ G16 hb
      replace G18 := gb_ G18 hb
      replace Vt0_0 := vb_ Vt0_0 hb
      replace By0 := gb_ By0 hb
      replace By1 := gb_ By1 hb
      replace Vt1_0 := vb_ Vt1_0 hb
      replace L := lb_ L hb
      clear hb hk hr0_ hr1_
      refine hK.out _ _ ((two2_ G16 G18)) (fun hHeld => ?_)
      clear hK K
      refine nr_ ?_
      refine pu_ #[true, true, true, true, true, true, false, false, false, true, true, false, false, false] 5 30 (by kernel_rfl) ?_
      refine pu_ #[true, true, true, true, true, true, true, false, false, true, true, false, false, false] 6 36 (by kernel_rfl) ?_
      refine pu_ #[true, true, true, true, true, true, true, true, false, true, true, false, false, false] 7 37 (by kernel_rfl) ?_
      refine pu_ #[true, true, true, true, true, true, true, true, true, true, true, false, false, false] 8 38 (by kernel_rfl) ?_
      exact norm_ (by simp only [putAll, Act.put, List.setIfInBounds_toArray, List.set_cons_zero, List.set_cons_succ] <;> rfl) (hJ ((.slice At0_0 l0_1.length ct0_0), (.slice At1_0 l1_1.length ct1_0), (.slice Au0_0 r2.length cu0_0), (.slice Au1_0 r4.length cu1_0), y0, y1) _ ⟨hHeld, G16.out, G18.out, L.out, Uu0_0.out, Uu1_0.out, By0.out, Ey0.out, DG16_y0.out, DG18_y0.out, By1.out, Ey1.out, DG16_y1.out, DG18_y1.out, Dyy.out⟩)
    ·skip
     refine box_step ?hg (N := 7) ?hd (cs := #[.int .i64 0, .slice none 0 0]) (t := 26) ?hr ?_; (case hd => rfl); (case hg => rfl); (case hr => first | (go_simp; done) | (go_simp; rfl))
     intro y1 hg w1 hbox hb
     have By1 := by_ hbox
     have Ey1 := ey_ L hg
     have DG16_y1 := ny_ G16 hg
     have DG18_y1 := ny_ G18 hg
     replace G16 := gb_ G16 hb
     replace G18 := gb_ G18 hb
     replace Vt0_0 := vb_ Vt0_0 hb
     replace L := lb_ L hb
     clear hb hg hbox
     refine hK.out _ _ ((two2_ G16 G18)) (fun hHeld => ?_)
     clear hK K
     refine nr_ ?_
     refine two_ (i := 3) (j := 9) (Ni := some 34) (Nj := some 6) #[true, true, true, true, false, false, false, false, false, false, true, false, false, false] #[true, true, true, false, false, false, false, false, false, true, true, false, false, false] rfl rfl rfl rfl (by kernel_rfl) (by decide) (by decide) (fun K hK => ?_) (fun K hK => ?_)
     ·skip
      refine goes_ Tryd.func13 (by kernel_rfl) rfl #[.agg #[.int .i64 s1_0, .slice A1_1 l1_1.length c1_1]] (by rfl) rfl rfl ma_ ?_
      obtain ⟨k, hk⟩ := KF.out.f1
      with_reducible refine (laws_toWhole.calls k s1_0 A1_1 c1_1 l1_1 s1_0 l1_1 _ (Kd.C_below HR1_1.out L.out) (HC1_1.out) hk).mono ?_
      rintro x w1 ⟨v0_, rfl, hr0_, hb⟩
      refine ⟨_, rfl, ?_⟩
      obtain ⟨At1_0, ct1_0, rfl⟩ := Kd.R_slice hr0_
      have Vt1_0 := am_ (RO.of (w := w) hr0_ L.out.size)
      replace G16 := gb_ G16 hb
      replace G18 := gb_ G18 hb
      replace Vt0_0 := vb_ Vt0_0 hb
      replace By1 := gb_ By1 hb
      replace L := lb_ L hb
      clear hb hk hr0_
      refine hK.out _ _ ((two2_ G16 G18)) (fun hHeld => ?_)
      clear hK K
      refine nr_ ?_
      refine two_ (i := 4) (j := 9) (Ni := some 35) (Nj := some 6) #[true, true, true, true, true, false, false, false, false, false, true, false, false, false] #[true, true, true, true, false, false, false, false, false, true, true, false, false, false] rfl rfl rfl rfl (by kernel_rfl) (by decide) (by decide) (fun K hK => ?_) (fun K hK => ?_)
      ·skip
       refine goes_ Tryd.func12 (by kernel_rfl) rfl #[.agg #[.int .i64 s0_0, .slice At0_0 l0_1.length ct0_0], .agg #[.int .i64 s1_0, .slice At1_0 l1_1.length ct1_0]] (by rfl) rfl rfl ma_ ?_
       obtain ⟨k, hk⟩ := KF.out.f2
       with_reducible refine (spec_DivideWholes.calls k s0_0 At0_0 ct0_0 l0_1 s1_0 At1_0 ct1_0 l1_1 r1 r2 r3 r4 r5 _ (Vt0_0.out.c) (Vt0_0.out.le) (Vt1_0.out.c) (Vt1_0.out.le) hk).mono ?_
       rintro x w1 ⟨v0_, v1_, rfl, hr0_, hr1_, hb⟩
       refine ⟨_, rfl, ?_⟩
       obtain ⟨Au0_0, cu0_0, rfl⟩ := Kd.R_slice hr0_
       obtain ⟨Au1_0, cu1_0, rfl⟩ := Kd.R_slice hr1_
       have Uu0_0 := am_ (RO.of (w := w) hr0_ L.out.size)
       have Uu1_0 := am_ (RO.of (w := w) hr1_ L.out.size)
       replace G16 := gb_ G16 hb
       replace G18 := gb_ G18 hb
       replace Vt0_0 := vb_ Vt0_0 hb
       replace By1 := gb_ By1 hb
       replace Vt1_0 := vb_ Vt1_0 hb
       replace L := lb_ L hb
       clear hb hk hr0_ hr1_
       refine hK.out _ _ ((two2_ G16 G18)) (fun hHeld => ?_)
       clear hK K
       refine nr_ ?_
       refine pu_ #[true, true, true, true, true, true, false, false, false, false, true, false, false, false] 5 30 (by kernel_rfl) ?_
       refine pu_ #[true, true, true, true, true, true, true, false, false, false, true, false, false, false] 6 36 (by kernel_rfl) ?_
       refine pu_ #[true, true, true, true, true, true, true, true, false, false, true, false, false, false] 7 37 (by kernel_rfl) ?_
       refine pu_ #[true, true, true, true, true, true, true, true, true, false, true, false, false, false] 8 38 (by kernel_rfl) ?_
       refine one_ (i := 9) (N := some 6) #[true, true, true, true, true, true, true, true, true, true, true, false, false, false] rfl rfl (by kernel_rfl) (by decide) (fun K hK => ?_)
       refine box_step ?hg (N := 6) ?hd (cs := #[.int .i64 0, .slice none 0 0]) (t := 26) ?hr ?_; (case hd => rfl); (case hg => rfl); (case hr => first | (go_simp; done) | (go_simp; rfl))
       intro y0 hg w1 hbox hb
       have By0 := by_ hbox
       have Ey0 := ey_ L hg
       have DG16_y0 := ny_ G16 hg
       have DG18_y0 := ny_ G18 hg
       have Dyy := am_ (show y0 ≠ y1 from by rw [hg]; exact Nat.ne_of_gt (blk_lt By1.out.x))
       replace G16 := gb_ G16 hb
       replace G18 := gb_ G18 hb
       replace Vt0_0 := vb_ Vt0_0 hb
       replace By1 := gb_ By1 hb
       replace Vt1_0 := vb_ Vt1_0 hb
       replace Uu0_0 := vb_ Uu0_0 hb
       replace Uu1_0 := vb_ Uu1_0 hb
       replace L := lb_ L hb
       clear hb hg hbox
       refine hK.out _ _ ((two2_ G16 G18)) (fun hHeld => ?_)
       clear hK K
       refine nr_ ?_
       exact norm_ (by simp only [putAll, Act.put, List.setIfInBounds_toArray, List.set_cons_zero, List.set_cons_succ] <;> rfl) (hJ ((.slice At0_0 l0_1.length ct0_0), (.slice At1_0 l1_1.length ct1_0), (.slice Au0_0 r2.length cu0_0), (.slice Au1_0 r4.length cu1_0), y0, y1) _ ⟨hHeld, G16.out, G18.out, L.out, Uu0_0.out, Uu1_0.out, By0.out, Ey0.out, DG16_y0.out, DG18_y0.out, By1.out, Ey1.out, DG16_y1.out, DG18_y1.out, Dyy.out⟩)
      ·skip
       refine box_step ?hg (N := 6) ?hd (cs := #[.int .i64 0, .slice none 0 0]) (t := 26) ?hr ?_; (case hd => rfl); (case hg => rfl); (case hr => first | (go_simp; done) | (go_simp; rfl))
       intro y0 hg w1 hbox hb
       have By0 := by_ hbox
       have Ey0 := ey_ L hg
       have DG16_y0 := ny_ G16 hg
       have DG18_y0 := ny_ G18 hg
       have Dyy := am_ (show y0 ≠ y1 from by rw [hg]; exact Nat.ne_of_gt (blk_lt By1.out.x))
       replace G16 := gb_ G16 hb
       replace G18 := gb_ G18 hb
       replace Vt0_0 := vb_ Vt0_0 hb
       replace By1 := gb_ By1 hb
       replace Vt1_0 := vb_ Vt1_0 hb
       replace L := lb_ L hb
       clear hb hg hbox
       refine hK.out _ _ ((two2_ G16 G18)) (fun hHeld => ?_)
       clear hK K
       refine nr_ ?_
       refine one_ (i := 4) (N := some 35) #[true, true, true, true, true, false, false, false, false, true, true, false, false, false] rfl rfl (by kernel_rfl) (by decide) (fun K hK => ?_)
       refine goes_ Tryd.func12 (by kernel_rfl) rfl #[.agg #[.int .i64 s0_0, .slice At0_0 l0_1.length ct0_0], .agg #[.int .i64 s1_0, .slice At1_0 l1_1.length ct1_0]] (by rfl) rfl rfl ma_ ?_
       obtain ⟨k, hk⟩ := KF.out.f2
       with_reducible refine (spec_DivideWholes.calls k s0_0 At0_0 ct0_0 l0_1 s1_0 At1_0 ct1_0 l1_1 r1 r2 r3 r4 r5 _ (Vt0_0.out.c) (Vt0_0.out.le) (Vt1_0.out.c) (Vt1_0.out.le) hk).mono ?_
       rintro x w1 ⟨v0_, v1_, rfl, hr0_, hr1_, hb⟩
       refine ⟨_, rfl, ?_⟩
       obtain ⟨Au0_0, cu0_0, rfl⟩ := Kd.R_slice hr0_
       obtain ⟨Au1_0, cu1_0, rfl⟩ := Kd.R_slice hr1_
       have Uu0_0 := am_ (RO.of (w := w) hr0_ L.out.size)
       have Uu1_0 := am_ (RO.of (w := w) hr1_ L.out.size)
       replace G16 := gb_ G16 hb
       replace G18 := gb_ G18 hb
       replace Vt0_0 := vb_ Vt0_0 hb
       replace By1 := gb_ By1 hb
       replace Vt1_0 := vb_ Vt1_0 hb
       replace By0 := gb_ By0 hb
       replace L := lb_ L hb
       clear hb hk hr0_ hr1_
       refine hK.out _ _ ((two2_ G16 G18)) (fun hHeld => ?_)
       clear hK K
       refine nr_ ?_
       refine pu_ #[true, true, true, true, true, true, false, false, false, true, true, false, false, false] 5 30 (by kernel_rfl) ?_
       refine pu_ #[true, true, true, true, true, true, true, false, false, true, true, false, false, false] 6 36 (by kernel_rfl) ?_
       refine pu_ #[true, true, true, true, true, true, true, true, false, true, true, false, false, false] 7 37 (by kernel_rfl) ?_
       refine pu_ #[true, true, true, true, true, true, true, true, true, true, true, false, false, false] 8 38 (by kernel_rfl) ?_
       exact norm_ (by simp only [putAll, Act.put, List.setIfInBounds_toArray, List.set_cons_zero, List.set_cons_succ] <;> rfl) (hJ ((.slice At0_0 l0_1.length ct0_0), (.slice At1_0 l1_1.length ct1_0), (.slice Au0_0 r2.length cu0_0), (.slice Au1_0 r4.length cu1_0), y0, y1) _ ⟨hHeld, G16.out, G18.out, L.out, Uu0_0.out, Uu1_0.out, By0.out, Ey0.out, DG16_y0.out, DG18_y0.out, By1.out, Ey1.out, DG16_y1.out, DG18_y1.out, Dyy.out⟩)
     ·skip
      refine box_step ?hg (N := 6) ?hd (cs := #[.int .i64 0, .slice none 0 0]) (t := 26) ?hr ?_; (case hd => rfl); (case hg => rfl); (case hr => first | (go_simp; done) | (go_simp; rfl))
      intro y0 hg w1 hbox hb
      have By0 := by_ hbox
      have Ey0 := ey_ L hg
      have DG16_y0 := ny_ G16 hg
      have DG18_y0 := ny_ G18 hg
      have Dyy := am_ (show y0 ≠ y1 from by rw [hg]; exact Nat.ne_of_gt (blk_lt By1.out.x))
      replace G16 := gb_ G16 hb
      replace G18 := gb_ G18 hb
      replace Vt0_0 := vb_ Vt0_0 hb
      replace By1 := gb_ By1 hb
      replace L := lb_ L hb
      clear hb hg hbox
      refine hK.out _ _ ((two2_ G16 G18)) (fun hHeld => ?_)
      clear hK K
      refine nr_ ?_
      refine one_ (i := 3) (N := some 34) #[true, true, true, true, false, false, false, false, false, true, true, false, false, false] rfl rfl (by kernel_rfl) (by decide) (fun K hK => ?_)
      refine goes_ Tryd.func13 (by kernel_rfl) rfl #[.agg #[.int .i64 s1_0, .slice A1_1 l1_1.length c1_1]] (by rfl) rfl rfl ma_ ?_
      obtain ⟨k, hk⟩ := KF.out.f1
      with_reducible refine (laws_toWhole.calls k s1_0 A1_1 c1_1 l1_1 s1_0 l1_1 _ (Kd.C_below HR1_1.out L.out) (HC1_1.out) hk).mono ?_
      rintro x w1 ⟨v0_, rfl, hr0_, hb⟩
      refine ⟨_, rfl, ?_⟩
      obtain ⟨At1_0, ct1_0, rfl⟩ := Kd.R_slice hr0_
      have Vt1_0 := am_ (RO.of (w := w) hr0_ L.out.size)
      replace G16 := gb_ G16 hb
      replace G18 := gb_ G18 hb
      replace Vt0_0 := vb_ Vt0_0 hb
      replace By1 := gb_ By1 hb
      replace By0 := gb_ By0 hb
      replace L := lb_ L hb
      clear hb hk hr0_
      refine hK.out _ _ ((two2_ G16 G18)) (fun hHeld => ?_)
      clear hK K
      refine nr_ ?_
      refine one_ (i := 4) (N := some 35) #[true, true, true, true, true, false, false, false, false, true, true, false, false, false] rfl rfl (by kernel_rfl) (by decide) (fun K hK => ?_)
      refine goes_ Tryd.func12 (by kernel_rfl) rfl #[.agg #[.int .i64 s0_0, .slice At0_0 l0_1.length ct0_0], .agg #[.int .i64 s1_0, .slice At1_0 l1_1.length ct1_0]] (by rfl) rfl rfl ma_ ?_
      obtain ⟨k, hk⟩ := KF.out.f2
      with_reducible refine (spec_DivideWholes.calls k s0_0 At0_0 ct0_0 l0_1 s1_0 At1_0 ct1_0 l1_1 r1 r2 r3 r4 r5 _ (Vt0_0.out.c) (Vt0_0.out.le) (Vt1_0.out.c) (Vt1_0.out.le) hk).mono ?_
      rintro x w1 ⟨v0_, v1_, rfl, hr0_, hr1_, hb⟩
      refine ⟨_, rfl, ?_⟩
      obtain ⟨Au0_0, cu0_0, rfl⟩ := Kd.R_slice hr0_
      obtain ⟨Au1_0, cu1_0, rfl⟩ := Kd.R_slice hr1_
      have Uu0_0 := am_ (RO.of (w := w) hr0_ L.out.size)
      have Uu1_0 := am_ (RO.of (w := w) hr1_ L.out.size)
      replace G16 := gb_ G16 hb
      replace G18 := gb_ G18 hb
      replace Vt0_0 := vb_ Vt0_0 hb
      replace By1 := gb_ By1 hb
      replace By0 := gb_ By0 hb
      replace Vt1_0 := vb_ Vt1_0 hb
      replace L := lb_ L hb
      clear hb hk hr0_ hr1_
      refine hK.out _ _ ((two2_ G16 G18)) (fun hHeld => ?_)
      clear hK K
      refine nr_ ?_
      refine pu_ #[true, true, true, true, true, true, false, false, false, true, true, false, false, false] 5 30 (by kernel_rfl) ?_
      refine pu_ #[true, true, true, true, true, true, true, false, false, true, true, false, false, false] 6 36 (by kernel_rfl) ?_
      refine pu_ #[true, true, true, true, true, true, true, true, false, true, true, false, false, false] 7 37 (by kernel_rfl) ?_
      refine pu_ #[true, true, true, true, true, true, true, true, true, true, true, false, false, false] 8 38 (by kernel_rfl) ?_
      exact norm_ (by simp only [putAll, Act.put, List.setIfInBounds_toArray, List.set_cons_zero, List.set_cons_succ] <;> rfl) (hJ ((.slice At0_0 l0_1.length ct0_0), (.slice At1_0 l1_1.length ct1_0), (.slice Au0_0 r2.length cu0_0), (.slice Au1_0 r4.length cu1_0), y0, y1) _ ⟨hHeld, G16.out, G18.out, L.out, Uu0_0.out, Uu1_0.out, By0.out, Ey0.out, DG16_y0.out, DG18_y0.out, By1.out, Ey1.out, DG16_y1.out, DG18_y1.out, Dyy.out⟩)
   ·skip
    refine box_step ?hg (N := 6) ?hd (cs := #[.int .i64 0, .slice none 0 0]) (t := 26) ?hr ?_; (case hd => rfl); (case hg => rfl); (case hr => first | (go_simp; done) | (go_simp; rfl))
    intro y0 hg w1 hbox hb
    have By0 := by_ hbox
    have Ey0 := ey_ L hg
    have DG16_y0 := ny_ G16 hg
    have DG18_y0 := ny_ G18 hg
    replace G16 := gb_ G16 hb
    replace G18 := gb_ G18 hb
    replace L := lb_ L hb
    clear hb hg hbox
    refine hK.out _ _ ((two2_ G16 G18)) (fun hHeld => ?_)
    clear hK K
    refine nr_ ?_
    refine two_ (i := 1) (j := 10) (Ni := some 32) (Nj := some 7) #[true, true, true, false, false, false, false, false, false, true, false, false, false, false] #[true, false, true, false, false, false, false, false, false, true, true, false, false, false] rfl rfl rfl rfl (by kernel_rfl) (by decide) (by decide) (fun K hK => ?_) (fun K hK => ?_)
    ·skip
     refine goes_ Tryd.func13 (by kernel_rfl) rfl #[.agg #[.int .i64 s0_0, .slice A0_1 l0_1.length c0_1]] (by rfl) rfl rfl ma_ ?_
     obtain ⟨k, hk⟩ := KF.out.f0
     with_reducible refine (laws_toWhole.calls k s0_0 A0_1 c0_1 l0_1 s0_0 l0_1 _ (Kd.C_below HR0_1.out L.out) (HC0_1.out) hk).mono ?_
     rintro x w1 ⟨v0_, rfl, hr0_, hb⟩
     refine ⟨_, rfl, ?_⟩
     obtain ⟨At0_0, ct0_0, rfl⟩ := Kd.R_slice hr0_
     have Vt0_0 := am_ (RO.of (w := w) hr0_ L.out.size)
     replace G16 := gb_ G16 hb
     replace G18 := gb_ G18 hb
     replace By0 := gb_ By0 hb
     replace L := lb_ L hb
     clear hb hk hr0_
     refine hK.out _ _ ((two2_ G16 G18)) (fun hHeld => ?_)
     clear hK K
     refine nr_ ?_
     refine two_ (i := 3) (j := 10) (Ni := some 34) (Nj := some 7) #[true, true, true, true, false, false, false, false, false, true, false, false, false, false] #[true, true, true, false, false, false, false, false, false, true, true, false, false, false] rfl rfl rfl rfl (by kernel_rfl) (by decide) (by decide) (fun K hK => ?_) (fun K hK => ?_)
     ·skip
      refine goes_ Tryd.func13 (by kernel_rfl) rfl #[.agg #[.int .i64 s1_0, .slice A1_1 l1_1.length c1_1]] (by rfl) rfl rfl ma_ ?_
      obtain ⟨k, hk⟩ := KF.out.f1
      with_reducible refine (laws_toWhole.calls k s1_0 A1_1 c1_1 l1_1 s1_0 l1_1 _ (Kd.C_below HR1_1.out L.out) (HC1_1.out) hk).mono ?_
      rintro x w1 ⟨v0_, rfl, hr0_, hb⟩
      refine ⟨_, rfl, ?_⟩
      obtain ⟨At1_0, ct1_0, rfl⟩ := Kd.R_slice hr0_
      have Vt1_0 := am_ (RO.of (w := w) hr0_ L.out.size)
      replace G16 := gb_ G16 hb
      replace G18 := gb_ G18 hb
      replace By0 := gb_ By0 hb
      replace Vt0_0 := vb_ Vt0_0 hb
      replace L := lb_ L hb
      clear hb hk hr0_
      refine hK.out _ _ ((two2_ G16 G18)) (fun hHeld => ?_)
      clear hK K
      refine nr_ ?_
      refine two_ (i := 4) (j := 10) (Ni := some 35) (Nj := some 7) #[true, true, true, true, true, false, false, false, false, true, false, false, false, false] #[true, true, true, true, false, false, false, false, false, true, true, false, false, false] rfl rfl rfl rfl (by kernel_rfl) (by decide) (by decide) (fun K hK => ?_) (fun K hK => ?_)
      ·skip
       refine goes_ Tryd.func12 (by kernel_rfl) rfl #[.agg #[.int .i64 s0_0, .slice At0_0 l0_1.length ct0_0], .agg #[.int .i64 s1_0, .slice At1_0 l1_1.length ct1_0]] (by rfl) rfl rfl ma_ ?_
       obtain ⟨k, hk⟩ := KF.out.f2
       with_reducible refine (spec_DivideWholes.calls k s0_0 At0_0 ct0_0 l0_1 s1_0 At1_0 ct1_0 l1_1 r1 r2 r3 r4 r5 _ (Vt0_0.out.c) (Vt0_0.out.le) (Vt1_0.out.c) (Vt1_0.out.le) hk).mono ?_
       rintro x w1 ⟨v0_, v1_, rfl, hr0_, hr1_, hb⟩
       refine ⟨_, rfl, ?_⟩
       obtain ⟨Au0_0, cu0_0, rfl⟩ := Kd.R_slice hr0_
       obtain ⟨Au1_0, cu1_0, rfl⟩ := Kd.R_slice hr1_
       have Uu0_0 := am_ (RO.of (w := w) hr0_ L.out.size)
       have Uu1_0 := am_ (RO.of (w := w) hr1_ L.out.size)
       replace G16 := gb_ G16 hb
       replace G18 := gb_ G18 hb
       replace By0 := gb_ By0 hb
       replace Vt0_0 := vb_ Vt0_0 hb
       replace Vt1_0 := vb_ Vt1_0 hb
       replace L := lb_ L hb
       clear hb hk hr0_ hr1_
       refine hK.out _ _ ((two2_ G16 G18)) (fun hHeld => ?_)
       clear hK K
       refine nr_ ?_
       refine pu_ #[true, true, true, true, true, true, false, false, false, true, false, false, false, false] 5 30 (by kernel_rfl) ?_
       refine pu_ #[true, true, true, true, true, true, true, false, false, true, false, false, false, false] 6 36 (by kernel_rfl) ?_
       refine pu_ #[true, true, true, true, true, true, true, true, false, true, false, false, false, false] 7 37 (by kernel_rfl) ?_
       refine pu_ #[true, true, true, true, true, true, true, true, true, true, false, false, false, false] 8 38 (by kernel_rfl) ?_
       refine one_ (i := 10) (N := some 7) #[true, true, true, true, true, true, true, true, true, true, true, false, false, false] rfl rfl (by kernel_rfl) (by decide) (fun K hK => ?_)
       refine box_step ?hg (N := 7) ?hd (cs := #[.int .i64 0, .slice none 0 0]) (t := 26) ?hr ?_; (case hd => rfl); (case hg => rfl); (case hr => first | (go_simp; done) | (go_simp; rfl))
       intro y1 hg w1 hbox hb
       have By1 := by_ hbox
       have Ey1 := ey_ L hg
       have DG16_y1 := ny_ G16 hg
       have DG18_y1 := ny_ G18 hg
       have Dyy := ny_ By0 hg
       replace G16 := gb_ G16 hb
       replace G18 := gb_ G18 hb
       replace By0 := gb_ By0 hb
       replace Vt0_0 := vb_ Vt0_0 hb
       replace Vt1_0 := vb_ Vt1_0 hb
       replace Uu0_0 := vb_ Uu0_0 hb
       replace Uu1_0 := vb_ Uu1_0 hb
       replace L := lb_ L hb
       clear hb hg hbox
       refine hK.out _ _ ((two2_ G16 G18)) (fun hHeld => ?_)
       clear hK K
       refine nr_ ?_
       exact norm_ (by simp only [putAll, Act.put, List.setIfInBounds_toArray, List.set_cons_zero, List.set_cons_succ] <;> rfl) (hJ ((.slice At0_0 l0_1.length ct0_0), (.slice At1_0 l1_1.length ct1_0), (.slice Au0_0 r2.length cu0_0), (.slice Au1_0 r4.length cu1_0), y0, y1) _ ⟨hHeld, G16.out, G18.out, L.out, Uu0_0.out, Uu1_0.out, By0.out, Ey0.out, DG16_y0.out, DG18_y0.out, By1.out, Ey1.out, DG16_y1.out, DG18_y1.out, Dyy.out⟩)
      ·skip
       refine box_step ?hg (N := 7) ?hd (cs := #[.int .i64 0, .slice none 0 0]) (t := 26) ?hr ?_; (case hd => rfl); (case hg => rfl); (case hr => first | (go_simp; done) | (go_simp; rfl))
       intro y1 hg w1 hbox hb
       have By1 := by_ hbox
       have Ey1 := ey_ L hg
       have DG16_y1 := ny_ G16 hg
       have DG18_y1 := ny_ G18 hg
       have Dyy := ny_ By0 hg
       replace G16 := gb_ G16 hb
       replace G18 := gb_ G18 hb
       replace By0 := gb_ By0 hb
       replace Vt0_0 := vb_ Vt0_0 hb
       replace Vt1_0 := vb_ Vt1_0 hb
       replace L := lb_ L hb
       clear hb hg hbox
       refine hK.out _ _ ((two2_ G16 G18)) (fun hHeld => ?_)
       clear hK K
       refine nr_ ?_
       refine one_ (i := 4) (N := some 35) #[true, true, true, true, true, false, false, false, false, true, true, false, false, false] rfl rfl (by kernel_rfl) (by decide) (fun K hK => ?_)
       refine goes_ Tryd.func12 (by kernel_rfl) rfl #[.agg #[.int .i64 s0_0, .slice At0_0 l0_1.length ct0_0], .agg #[.int .i64 s1_0, .slice At1_0 l1_1.length ct1_0]] (by rfl) rfl rfl ma_ ?_
       obtain ⟨k, hk⟩ := KF.out.f2
       with_reducible refine (spec_DivideWholes.calls k s0_0 At0_0 ct0_0 l0_1 s1_0 At1_0 ct1_0 l1_1 r1 r2 r3 r4 r5 _ (Vt0_0.out.c) (Vt0_0.out.le) (Vt1_0.out.c) (Vt1_0.out.le) hk).mono ?_
       rintro x w1 ⟨v0_, v1_, rfl, hr0_, hr1_, hb⟩
       refine ⟨_, rfl, ?_⟩
       obtain ⟨Au0_0, cu0_0, rfl⟩ := Kd.R_slice hr0_
       obtain ⟨Au1_0, cu1_0, rfl⟩ := Kd.R_slice hr1_
       have Uu0_0 := am_ (RO.of (w := w) hr0_ L.out.size)
       have Uu1_0 := am_ (RO.of (w := w) hr1_ L.out.size)
       replace G16 := gb_ G16 hb
       replace G18 := gb_ G18 hb
       replace By0 := gb_ By0 hb
       replace Vt0_0 := vb_ Vt0_0 hb
       replace Vt1_0 := vb_ Vt1_0 hb
       replace By1 := gb_ By1 hb
       replace L := lb_ L hb
       clear hb hk hr0_ hr1_
       refine hK.out _ _ ((two2_ G16 G18)) (fun hHeld => ?_)
       clear hK K
       refine nr_ ?_
       refine pu_ #[true, true, true, true, true, true, false, false, false, true, true, false, false, false] 5 30 (by kernel_rfl) ?_
       refine pu_ #[true, true, true, true, true, true, true, false, false, true, true, false, false, false] 6 36 (by kernel_rfl) ?_
       refine pu_ #[true, true, true, true, true, true, true, true, false, true, true, false, false, false] 7 37 (by kernel_rfl) ?_
       refine pu_ #[true, true, true, true, true, true, true, true, true, true, true, false, false, false] 8 38 (by kernel_rfl) ?_
       exact norm_ (by simp only [putAll, Act.put, List.setIfInBounds_toArray, List.set_cons_zero, List.set_cons_succ] <;> rfl) (hJ ((.slice At0_0 l0_1.length ct0_0), (.slice At1_0 l1_1.length ct1_0), (.slice Au0_0 r2.length cu0_0), (.slice Au1_0 r4.length cu1_0), y0, y1) _ ⟨hHeld, G16.out, G18.out, L.out, Uu0_0.out, Uu1_0.out, By0.out, Ey0.out, DG16_y0.out, DG18_y0.out, By1.out, Ey1.out, DG16_y1.out, DG18_y1.out, Dyy.out⟩)
     ·skip
      refine box_step ?hg (N := 7) ?hd (cs := #[.int .i64 0, .slice none 0 0]) (t := 26) ?hr ?_; (case hd => rfl); (case hg => rfl); (case hr => first | (go_simp; done) | (go_simp; rfl))
      intro y1 hg w1 hbox hb
      have By1 := by_ hbox
      have Ey1 := ey_ L hg
      have DG16_y1 := ny_ G16 hg
      have DG18_y1 := ny_ G18 hg
      have Dyy := ny_ By0 hg
      replace G16 := gb_ G16 hb
      replace G18 := gb_ G18 hb
      replace By0 := gb_ By0 hb
      replace Vt0_0 := vb_ Vt0_0 hb
      replace L := lb_ L hb
      clear hb hg hbox
      refine hK.out _ _ ((two2_ G16 G18)) (fun hHeld => ?_)
      clear hK K
      refine nr_ ?_
      refine one_ (i := 3) (N := some 34) #[true, true, true, true, false, false, false, false, false, true, true, false, false, false] rfl rfl (by kernel_rfl) (by decide) (fun K hK => ?_)
      refine goes_ Tryd.func13 (by kernel_rfl) rfl #[.agg #[.int .i64 s1_0, .slice A1_1 l1_1.length c1_1]] (by rfl) rfl rfl ma_ ?_
      obtain ⟨k, hk⟩ := KF.out.f1
      with_reducible refine (laws_toWhole.calls k s1_0 A1_1 c1_1 l1_1 s1_0 l1_1 _ (Kd.C_below HR1_1.out L.out) (HC1_1.out) hk).mono ?_
      rintro x w1 ⟨v0_, rfl, hr0_, hb⟩
      refine ⟨_, rfl, ?_⟩
      obtain ⟨At1_0, ct1_0, rfl⟩ := Kd.R_slice hr0_
      have Vt1_0 := am_ (RO.of (w := w) hr0_ L.out.size)
      replace G16 := gb_ G16 hb
      replace G18 := gb_ G18 hb
      replace By0 := gb_ By0 hb
      replace Vt0_0 := vb_ Vt0_0 hb
      replace By1 := gb_ By1 hb
      replace L := lb_ L hb
      clear hb hk hr0_
      refine hK.out _ _ ((two2_ G16 G18)) (fun hHeld => ?_)
      clear hK K
      refine nr_ ?_
      refine one_ (i := 4) (N := some 35) #[true, true, true, true, true, false, false, false, false, true, true, false, false, false] rfl rfl (by kernel_rfl) (by decide) (fun K hK => ?_)
      refine goes_ Tryd.func12 (by kernel_rfl) rfl #[.agg #[.int .i64 s0_0, .slice At0_0 l0_1.length ct0_0], .agg #[.int .i64 s1_0, .slice At1_0 l1_1.length ct1_0]] (by rfl) rfl rfl ma_ ?_
      obtain ⟨k, hk⟩ := KF.out.f2
      with_reducible refine (spec_DivideWholes.calls k s0_0 At0_0 ct0_0 l0_1 s1_0 At1_0 ct1_0 l1_1 r1 r2 r3 r4 r5 _ (Vt0_0.out.c) (Vt0_0.out.le) (Vt1_0.out.c) (Vt1_0.out.le) hk).mono ?_
      rintro x w1 ⟨v0_, v1_, rfl, hr0_, hr1_, hb⟩
      refine ⟨_, rfl, ?_⟩
      obtain ⟨Au0_0, cu0_0, rfl⟩ := Kd.R_slice hr0_
      obtain ⟨Au1_0, cu1_0, rfl⟩ := Kd.R_slice hr1_
      have Uu0_0 := am_ (RO.of (w := w) hr0_ L.out.size)
      have Uu1_0 := am_ (RO.of (w := w) hr1_ L.out.size)
      replace G16 := gb_ G16 hb
      replace G18 := gb_ G18 hb
      replace By0 := gb_ By0 hb
      replace Vt0_0 := vb_ Vt0_0 hb
      replace By1 := gb_ By1 hb
      replace Vt1_0 := vb_ Vt1_0 hb
      replace L := lb_ L hb
      clear hb hk hr0_ hr1_
      refine hK.out _ _ ((two2_ G16 G18)) (fun hHeld => ?_)
      clear hK K
      refine nr_ ?_
      refine pu_ #[true, true, true, true, true, true, false, false, false, true, true, false, false, false] 5 30 (by kernel_rfl) ?_
      refine pu_ #[true, true, true, true, true, true, true, false, false, true, true, false, false, false] 6 36 (by kernel_rfl) ?_
      refine pu_ #[true, true, true, true, true, true, true, true, false, true, true, false, false, false] 7 37 (by kernel_rfl) ?_
      refine pu_ #[true, true, true, true, true, true, true, true, true, true, true, false, false, false] 8 38 (by kernel_rfl) ?_
      exact norm_ (by simp only [putAll, Act.put, List.setIfInBounds_toArray, List.set_cons_zero, List.set_cons_succ] <;> rfl) (hJ ((.slice At0_0 l0_1.length ct0_0), (.slice At1_0 l1_1.length ct1_0), (.slice Au0_0 r2.length cu0_0), (.slice Au1_0 r4.length cu1_0), y0, y1) _ ⟨hHeld, G16.out, G18.out, L.out, Uu0_0.out, Uu1_0.out, By0.out, Ey0.out, DG16_y0.out, DG18_y0.out, By1.out, Ey1.out, DG16_y1.out, DG18_y1.out, Dyy.out⟩)
    ·skip
     refine box_step ?hg (N := 7) ?hd (cs := #[.int .i64 0, .slice none 0 0]) (t := 26) ?hr ?_; (case hd => rfl); (case hg => rfl); (case hr => first | (go_simp; done) | (go_simp; rfl))
     intro y1 hg w1 hbox hb
     have By1 := by_ hbox
     have Ey1 := ey_ L hg
     have DG16_y1 := ny_ G16 hg
     have DG18_y1 := ny_ G18 hg
     have Dyy := ny_ By0 hg
     replace G16 := gb_ G16 hb
     replace G18 := gb_ G18 hb
     replace By0 := gb_ By0 hb
     replace L := lb_ L hb
     clear hb hg hbox
     refine hK.out _ _ ((two2_ G16 G18)) (fun hHeld => ?_)
     clear hK K
     refine nr_ ?_
     refine one_ (i := 1) (N := some 32) #[true, true, true, false, false, false, false, false, false, true, true, false, false, false] rfl rfl (by kernel_rfl) (by decide) (fun K hK => ?_)
     refine goes_ Tryd.func13 (by kernel_rfl) rfl #[.agg #[.int .i64 s0_0, .slice A0_1 l0_1.length c0_1]] (by rfl) rfl rfl ma_ ?_
     obtain ⟨k, hk⟩ := KF.out.f0
     with_reducible refine (laws_toWhole.calls k s0_0 A0_1 c0_1 l0_1 s0_0 l0_1 _ (Kd.C_below HR0_1.out L.out) (HC0_1.out) hk).mono ?_
     rintro x w1 ⟨v0_, rfl, hr0_, hb⟩
     refine ⟨_, rfl, ?_⟩
     obtain ⟨At0_0, ct0_0, rfl⟩ := Kd.R_slice hr0_
     have Vt0_0 := am_ (RO.of (w := w) hr0_ L.out.size)
     replace G16 := gb_ G16 hb
     replace G18 := gb_ G18 hb
     replace By0 := gb_ By0 hb
     replace By1 := gb_ By1 hb
     replace L := lb_ L hb
     clear hb hk hr0_
     refine hK.out _ _ ((two2_ G16 G18)) (fun hHeld => ?_)
     clear hK K
     refine nr_ ?_
     refine one_ (i := 3) (N := some 34) #[true, true, true, true, false, false, false, false, false, true, true, false, false, false] rfl rfl (by kernel_rfl) (by decide) (fun K hK => ?_)
     refine goes_ Tryd.func13 (by kernel_rfl) rfl #[.agg #[.int .i64 s1_0, .slice A1_1 l1_1.length c1_1]] (by rfl) rfl rfl ma_ ?_
     obtain ⟨k, hk⟩ := KF.out.f1
     with_reducible refine (laws_toWhole.calls k s1_0 A1_1 c1_1 l1_1 s1_0 l1_1 _ (Kd.C_below HR1_1.out L.out) (HC1_1.out) hk).mono ?_
     rintro x w1 ⟨v0_, rfl, hr0_, hb⟩
     refine ⟨_, rfl, ?_⟩
     obtain ⟨At1_0, ct1_0, rfl⟩ := Kd.R_slice hr0_
     have Vt1_0 := am_ (RO.of (w := w) hr0_ L.out.size)
     replace G16 := gb_ G16 hb
     replace G18 := gb_ G18 hb
     replace By0 := gb_ By0 hb
     replace By1 := gb_ By1 hb
     replace Vt0_0 := vb_ Vt0_0 hb
     replace L := lb_ L hb
     clear hb hk hr0_
     refine hK.out _ _ ((two2_ G16 G18)) (fun hHeld => ?_)
     clear hK K
     refine nr_ ?_
     refine one_ (i := 4) (N := some 35) #[true, true, true, true, true, false, false, false, false, true, true, false, false, false] rfl rfl (by kernel_rfl) (by decide) (fun K hK => ?_)
     refine goes_ Tryd.func12 (by kernel_rfl) rfl #[.agg #[.int .i64 s0_0, .slice At0_0 l0_1.length ct0_0], .agg #[.int .i64 s1_0, .slice At1_0 l1_1.length ct1_0]] (by rfl) rfl rfl ma_ ?_
     obtain ⟨k, hk⟩ := KF.out.f2
     with_reducible refine (spec_DivideWholes.calls k s0_0 At0_0 ct0_0 l0_1 s1_0 At1_0 ct1_0 l1_1 r1 r2 r3 r4 r5 _ (Vt0_0.out.c) (Vt0_0.out.le) (Vt1_0.out.c) (Vt1_0.out.le) hk).mono ?_
     rintro x w1 ⟨v0_, v1_, rfl, hr0_, hr1_, hb⟩
     refine ⟨_, rfl, ?_⟩
     obtain ⟨Au0_0, cu0_0, rfl⟩ := Kd.R_slice hr0_
     obtain ⟨Au1_0, cu1_0, rfl⟩ := Kd.R_slice hr1_
     have Uu0_0 := am_ (RO.of (w := w) hr0_ L.out.size)
     have Uu1_0 := am_ (RO.of (w := w) hr1_ L.out.size)
     replace G16 := gb_ G16 hb
     replace G18 := gb_ G18 hb
     replace By0 := gb_ By0 hb
     replace By1 := gb_ By1 hb
     replace Vt0_0 := vb_ Vt0_0 hb
     replace Vt1_0 := vb_ Vt1_0 hb
     replace L := lb_ L hb
     clear hb hk hr0_ hr1_
     refine hK.out _ _ ((two2_ G16 G18)) (fun hHeld => ?_)
     clear hK K
     refine nr_ ?_
     refine pu_ #[true, true, true, true, true, true, false, false, false, true, true, false, false, false] 5 30 (by kernel_rfl) ?_
     refine pu_ #[true, true, true, true, true, true, true, false, false, true, true, false, false, false] 6 36 (by kernel_rfl) ?_
     refine pu_ #[true, true, true, true, true, true, true, true, false, true, true, false, false, false] 7 37 (by kernel_rfl) ?_
     refine pu_ #[true, true, true, true, true, true, true, true, true, true, true, false, false, false] 8 38 (by kernel_rfl) ?_
     exact norm_ (by simp only [putAll, Act.put, List.setIfInBounds_toArray, List.set_cons_zero, List.set_cons_succ] <;> rfl) (hJ ((.slice At0_0 l0_1.length ct0_0), (.slice At1_0 l1_1.length ct1_0), (.slice Au0_0 r2.length cu0_0), (.slice Au1_0 r4.length cu1_0), y0, y1) _ ⟨hHeld, G16.out, G18.out, L.out, Uu0_0.out, Uu1_0.out, By0.out, Ey0.out, DG16_y0.out, DG18_y0.out, By1.out, Ey1.out, DG16_y1.out, DG18_y1.out, Dyy.out⟩)
   ·skip
    refine box_step ?hg (N := 7) ?hd (cs := #[.int .i64 0, .slice none 0 0]) (t := 26) ?hr ?_; (case hd => rfl); (case hg => rfl); (case hr => first | (go_simp; done) | (go_simp; rfl))
    intro y1 hg w1 hbox hb
    have By1 := by_ hbox
    have Ey1 := ey_ L hg
    have DG16_y1 := ny_ G16 hg
    have DG18_y1 := ny_ G18 hg
    replace G16 := gb_ G16 hb
    replace G18 := gb_ G18 hb
    replace L := lb_ L hb
    clear hb hg hbox
    refine hK.out _ _ ((two2_ G16 G18)) (fun hHeld => ?_)
    clear hK K
    refine nr_ ?_
    refine two_ (i := 1) (j := 9) (Ni := some 32) (Nj := some 6) #[true, true, true, false, false, false, false, false, false, false, true, false, false, false] #[true, false, true, false, false, false, false, false, false, true, true, false, false, false] rfl rfl rfl rfl (by kernel_rfl) (by decide) (by decide) (fun K hK => ?_) (fun K hK => ?_)
    ·skip
     refine goes_ Tryd.func13 (by kernel_rfl) rfl #[.agg #[.int .i64 s0_0, .slice A0_1 l0_1.length c0_1]] (by rfl) rfl rfl ma_ ?_
     obtain ⟨k, hk⟩ := KF.out.f0
     with_reducible refine (laws_toWhole.calls k s0_0 A0_1 c0_1 l0_1 s0_0 l0_1 _ (Kd.C_below HR0_1.out L.out) (HC0_1.out) hk).mono ?_
     rintro x w1 ⟨v0_, rfl, hr0_, hb⟩
     refine ⟨_, rfl, ?_⟩
     obtain ⟨At0_0, ct0_0, rfl⟩ := Kd.R_slice hr0_
     have Vt0_0 := am_ (RO.of (w := w) hr0_ L.out.size)
     replace G16 := gb_ G16 hb
     replace G18 := gb_ G18 hb
     replace By1 := gb_ By1 hb
     replace L := lb_ L hb
     clear hb hk hr0_
     refine hK.out _ _ ((two2_ G16 G18)) (fun hHeld => ?_)
     clear hK K
     refine nr_ ?_
     refine two_ (i := 3) (j := 9) (Ni := some 34) (Nj := some 6) #[true, true, true, true, false, false, false, false, false, false, true, false, false, false] #[true, true, true, false, false, false, false, false, false, true, true, false, false, false] rfl rfl rfl rfl (by kernel_rfl) (by decide) (by decide) (fun K hK => ?_) (fun K hK => ?_)
     ·skip
      refine goes_ Tryd.func13 (by kernel_rfl) rfl #[.agg #[.int .i64 s1_0, .slice A1_1 l1_1.length c1_1]] (by rfl) rfl rfl ma_ ?_
      obtain ⟨k, hk⟩ := KF.out.f1
      with_reducible refine (laws_toWhole.calls k s1_0 A1_1 c1_1 l1_1 s1_0 l1_1 _ (Kd.C_below HR1_1.out L.out) (HC1_1.out) hk).mono ?_
      rintro x w1 ⟨v0_, rfl, hr0_, hb⟩
      refine ⟨_, rfl, ?_⟩
      obtain ⟨At1_0, ct1_0, rfl⟩ := Kd.R_slice hr0_
      have Vt1_0 := am_ (RO.of (w := w) hr0_ L.out.size)
      replace G16 := gb_ G16 hb
      replace G18 := gb_ G18 hb
      replace By1 := gb_ By1 hb
      replace Vt0_0 := vb_ Vt0_0 hb
      replace L := lb_ L hb
      clear hb hk hr0_
      refine hK.out _ _ ((two2_ G16 G18)) (fun hHeld => ?_)
      clear hK K
      refine nr_ ?_
      refine two_ (i := 4) (j := 9) (Ni := some 35) (Nj := some 6) #[true, true, true, true, true, false, false, false, false, false, true, false, false, false] #[true, true, true, true, false, false, false, false, false, true, true, false, false, false] rfl rfl rfl rfl (by kernel_rfl) (by decide) (by decide) (fun K hK => ?_) (fun K hK => ?_)
      ·skip
       refine goes_ Tryd.func12 (by kernel_rfl) rfl #[.agg #[.int .i64 s0_0, .slice At0_0 l0_1.length ct0_0], .agg #[.int .i64 s1_0, .slice At1_0 l1_1.length ct1_0]] (by rfl) rfl rfl ma_ ?_
       obtain ⟨k, hk⟩ := KF.out.f2
       with_reducible refine (spec_DivideWholes.calls k s0_0 At0_0 ct0_0 l0_1 s1_0 At1_0 ct1_0 l1_1 r1 r2 r3 r4 r5 _ (Vt0_0.out.c) (Vt0_0.out.le) (Vt1_0.out.c) (Vt1_0.out.le) hk).mono ?_
       rintro x w1 ⟨v0_, v1_, rfl, hr0_, hr1_, hb⟩
       refine ⟨_, rfl, ?_⟩
       obtain ⟨Au0_0, cu0_0, rfl⟩ := Kd.R_slice hr0_
       obtain ⟨Au1_0, cu1_0, rfl⟩ := Kd.R_slice hr1_
       have Uu0_0 := am_ (RO.of (w := w) hr0_ L.out.size)
       have Uu1_0 := am_ (RO.of (w := w) hr1_ L.out.size)
       replace G16 := gb_ G16 hb
       replace G18 := gb_ G18 hb
       replace By1 := gb_ By1 hb
       replace Vt0_0 := vb_ Vt0_0 hb
       replace Vt1_0 := vb_ Vt1_0 hb
       replace L := lb_ L hb
       clear hb hk hr0_ hr1_
       refine hK.out _ _ ((two2_ G16 G18)) (fun hHeld => ?_)
       clear hK K
       refine nr_ ?_
       refine pu_ #[true, true, true, true, true, true, false, false, false, false, true, false, false, false] 5 30 (by kernel_rfl) ?_
       refine pu_ #[true, true, true, true, true, true, true, false, false, false, true, false, false, false] 6 36 (by kernel_rfl) ?_
       refine pu_ #[true, true, true, true, true, true, true, true, false, false, true, false, false, false] 7 37 (by kernel_rfl) ?_
       refine pu_ #[true, true, true, true, true, true, true, true, true, false, true, false, false, false] 8 38 (by kernel_rfl) ?_
       refine one_ (i := 9) (N := some 6) #[true, true, true, true, true, true, true, true, true, true, true, false, false, false] rfl rfl (by kernel_rfl) (by decide) (fun K hK => ?_)
       refine box_step ?hg (N := 6) ?hd (cs := #[.int .i64 0, .slice none 0 0]) (t := 26) ?hr ?_; (case hd => rfl); (case hg => rfl); (case hr => first | (go_simp; done) | (go_simp; rfl))
       intro y0 hg w1 hbox hb
       have By0 := by_ hbox
       have Ey0 := ey_ L hg
       have DG16_y0 := ny_ G16 hg
       have DG18_y0 := ny_ G18 hg
       have Dyy := am_ (show y0 ≠ y1 from by rw [hg]; exact Nat.ne_of_gt (blk_lt By1.out.x))
       replace G16 := gb_ G16 hb
       replace G18 := gb_ G18 hb
       replace By1 := gb_ By1 hb
       replace Vt0_0 := vb_ Vt0_0 hb
       replace Vt1_0 := vb_ Vt1_0 hb
       replace Uu0_0 := vb_ Uu0_0 hb
       replace Uu1_0 := vb_ Uu1_0 hb
       replace L := lb_ L hb
       clear hb hg hbox
       refine hK.out _ _ ((two2_ G16 G18)) (fun hHeld => ?_)
       clear hK K
       refine nr_ ?_
       exact norm_ (by simp only [putAll, Act.put, List.setIfInBounds_toArray, List.set_cons_zero, List.set_cons_succ] <;> rfl) (hJ ((.slice At0_0 l0_1.length ct0_0), (.slice At1_0 l1_1.length ct1_0), (.slice Au0_0 r2.length cu0_0), (.slice Au1_0 r4.length cu1_0), y0, y1) _ ⟨hHeld, G16.out, G18.out, L.out, Uu0_0.out, Uu1_0.out, By0.out, Ey0.out, DG16_y0.out, DG18_y0.out, By1.out, Ey1.out, DG16_y1.out, DG18_y1.out, Dyy.out⟩)
      ·skip
       refine box_step ?hg (N := 6) ?hd (cs := #[.int .i64 0, .slice none 0 0]) (t := 26) ?hr ?_; (case hd => rfl); (case hg => rfl); (case hr => first | (go_simp; done) | (go_simp; rfl))
       intro y0 hg w1 hbox hb
       have By0 := by_ hbox
       have Ey0 := ey_ L hg
       have DG16_y0 := ny_ G16 hg
       have DG18_y0 := ny_ G18 hg
       have Dyy := am_ (show y0 ≠ y1 from by rw [hg]; exact Nat.ne_of_gt (blk_lt By1.out.x))
       replace G16 := gb_ G16 hb
       replace G18 := gb_ G18 hb
       replace By1 := gb_ By1 hb
       replace Vt0_0 := vb_ Vt0_0 hb
       replace Vt1_0 := vb_ Vt1_0 hb
       replace L := lb_ L hb
       clear hb hg hbox
       refine hK.out _ _ ((two2_ G16 G18)) (fun hHeld => ?_)
       clear hK K
       refine nr_ ?_
       refine one_ (i := 4) (N := some 35) #[true, true, true, true, true, false, false, false, false, true, true, false, false, false] rfl rfl (by kernel_rfl) (by decide) (fun K hK => ?_)
       refine goes_ Tryd.func12 (by kernel_rfl) rfl #[.agg #[.int .i64 s0_0, .slice At0_0 l0_1.length ct0_0], .agg #[.int .i64 s1_0, .slice At1_0 l1_1.length ct1_0]] (by rfl) rfl rfl ma_ ?_
       obtain ⟨k, hk⟩ := KF.out.f2
       with_reducible refine (spec_DivideWholes.calls k s0_0 At0_0 ct0_0 l0_1 s1_0 At1_0 ct1_0 l1_1 r1 r2 r3 r4 r5 _ (Vt0_0.out.c) (Vt0_0.out.le) (Vt1_0.out.c) (Vt1_0.out.le) hk).mono ?_
       rintro x w1 ⟨v0_, v1_, rfl, hr0_, hr1_, hb⟩
       refine ⟨_, rfl, ?_⟩
       obtain ⟨Au0_0, cu0_0, rfl⟩ := Kd.R_slice hr0_
       obtain ⟨Au1_0, cu1_0, rfl⟩ := Kd.R_slice hr1_
       have Uu0_0 := am_ (RO.of (w := w) hr0_ L.out.size)
       have Uu1_0 := am_ (RO.of (w := w) hr1_ L.out.size)
       replace G16 := gb_ G16 hb
       replace G18 := gb_ G18 hb
       replace By1 := gb_ By1 hb
       replace Vt0_0 := vb_ Vt0_0 hb
       replace Vt1_0 := vb_ Vt1_0 hb
       replace By0 := gb_ By0 hb
       replace L := lb_ L hb
       clear hb hk hr0_ hr1_
       refine hK.out _ _ ((two2_ G16 G18)) (fun hHeld => ?_)
       clear hK K
       refine nr_ ?_
       refine pu_ #[true, true, true, true, true, true, false, false, false, true, true, false, false, false] 5 30 (by kernel_rfl) ?_
       refine pu_ #[true, true, true, true, true, true, true, false, false, true, true, false, false, false] 6 36 (by kernel_rfl) ?_
       refine pu_ #[true, true, true, true, true, true, true, true, false, true, true, false, false, false] 7 37 (by kernel_rfl) ?_
       refine pu_ #[true, true, true, true, true, true, true, true, true, true, true, false, false, false] 8 38 (by kernel_rfl) ?_
       exact norm_ (by simp only [putAll, Act.put, List.setIfInBounds_toArray, List.set_cons_zero, List.set_cons_succ] <;> rfl) (hJ ((.slice At0_0 l0_1.length ct0_0), (.slice At1_0 l1_1.length ct1_0), (.slice Au0_0 r2.length cu0_0), (.slice Au1_0 r4.length cu1_0), y0, y1) _ ⟨hHeld, G16.out, G18.out, L.out, Uu0_0.out, Uu1_0.out, By0.out, Ey0.out, DG16_y0.out, DG18_y0.out, By1.out, Ey1.out, DG16_y1.out, DG18_y1.out, Dyy.out⟩)
     ·skip
      refine box_step ?hg (N := 6) ?hd (cs := #[.int .i64 0, .slice none 0 0]) (t := 26) ?hr ?_; (case hd => rfl); (case hg => rfl); (case hr => first | (go_simp; done) | (go_simp; rfl))
      intro y0 hg w1 hbox hb
      have By0 := by_ hbox
      have Ey0 := ey_ L hg
      have DG16_y0 := ny_ G16 hg
      have DG18_y0 := ny_ G18 hg
      have Dyy := am_ (show y0 ≠ y1 from by rw [hg]; exact Nat.ne_of_gt (blk_lt By1.out.x))
      replace G16 := gb_ G16 hb
      replace G18 := gb_ G18 hb
      replace By1 := gb_ By1 hb
      replace Vt0_0 := vb_ Vt0_0 hb
      replace L := lb_ L hb
      clear hb hg hbox
      refine hK.out _ _ ((two2_ G16 G18)) (fun hHeld => ?_)
      clear hK K
      refine nr_ ?_
      refine one_ (i := 3) (N := some 34) #[true, true, true, true, false, false, false, false, false, true, true, false, false, false] rfl rfl (by kernel_rfl) (by decide) (fun K hK => ?_)
      refine goes_ Tryd.func13 (by kernel_rfl) rfl #[.agg #[.int .i64 s1_0, .slice A1_1 l1_1.length c1_1]] (by rfl) rfl rfl ma_ ?_
      obtain ⟨k, hk⟩ := KF.out.f1
      with_reducible refine (laws_toWhole.calls k s1_0 A1_1 c1_1 l1_1 s1_0 l1_1 _ (Kd.C_below HR1_1.out L.out) (HC1_1.out) hk).mono ?_
      rintro x w1 ⟨v0_, rfl, hr0_, hb⟩
      refine ⟨_, rfl, ?_⟩
      obtain ⟨At1_0, ct1_0, rfl⟩ := Kd.R_slice hr0_
      have Vt1_0 := am_ (RO.of (w := w) hr0_ L.out.size)
      replace G16 := gb_ G16 hb
      replace G18 := gb_ G18 hb
      replace By1 := gb_ By1 hb
      replace Vt0_0 := vb_ Vt0_0 hb
      replace By0 := gb_ By0 hb
      replace L := lb_ L hb
      clear hb hk hr0_
      refine hK.out _ _ ((two2_ G16 G18)) (fun hHeld => ?_)
      clear hK K
      refine nr_ ?_
      refine one_ (i := 4) (N := some 35) #[true, true, true, true, true, false, false, false, false, true, true, false, false, false] rfl rfl (by kernel_rfl) (by decide) (fun K hK => ?_)
      refine goes_ Tryd.func12 (by kernel_rfl) rfl #[.agg #[.int .i64 s0_0, .slice At0_0 l0_1.length ct0_0], .agg #[.int .i64 s1_0, .slice At1_0 l1_1.length ct1_0]] (by rfl) rfl rfl ma_ ?_
      obtain ⟨k, hk⟩ := KF.out.f2
      with_reducible refine (spec_DivideWholes.calls k s0_0 At0_0 ct0_0 l0_1 s1_0 At1_0 ct1_0 l1_1 r1 r2 r3 r4 r5 _ (Vt0_0.out.c) (Vt0_0.out.le) (Vt1_0.out.c) (Vt1_0.out.le) hk).mono ?_
      rintro x w1 ⟨v0_, v1_, rfl, hr0_, hr1_, hb⟩
      refine ⟨_, rfl, ?_⟩
      obtain ⟨Au0_0, cu0_0, rfl⟩ := Kd.R_slice hr0_
      obtain ⟨Au1_0, cu1_0, rfl⟩ := Kd.R_slice hr1_
      have Uu0_0 := am_ (RO.of (w := w) hr0_ L.out.size)
      have Uu1_0 := am_ (RO.of (w := w) hr1_ L.out.size)
      replace G16 := gb_ G16 hb
      replace G18 := gb_ G18 hb
      replace By1 := gb_ By1 hb
      replace Vt0_0 := vb_ Vt0_0 hb
      replace By0 := gb_ By0 hb
      replace Vt1_0 := vb_ Vt1_0 hb
      replace L := lb_ L hb
      clear hb hk hr0_ hr1_
      refine hK.out _ _ ((two2_ G16 G18)) (fun hHeld => ?_)
      clear hK K
      refine nr_ ?_
      refine pu_ #[true, true, true, true, true, true, false, false, false, true, true, false, false, false] 5 30 (by kernel_rfl) ?_
      refine pu_ #[true, true, true, true, true, true, true, false, false, true, true, false, false, false] 6 36 (by kernel_rfl) ?_
      refine pu_ #[true, true, true, true, true, true, true, true, false, true, true, false, false, false] 7 37 (by kernel_rfl) ?_
      refine pu_ #[true, true, true, true, true, true, true, true, true, true, true, false, false, false] 8 38 (by kernel_rfl) ?_
      exact norm_ (by simp only [putAll, Act.put, List.setIfInBounds_toArray, List.set_cons_zero, List.set_cons_succ] <;> rfl) (hJ ((.slice At0_0 l0_1.length ct0_0), (.slice At1_0 l1_1.length ct1_0), (.slice Au0_0 r2.length cu0_0), (.slice Au1_0 r4.length cu1_0), y0, y1) _ ⟨hHeld, G16.out, G18.out, L.out, Uu0_0.out, Uu1_0.out, By0.out, Ey0.out, DG16_y0.out, DG18_y0.out, By1.out, Ey1.out, DG16_y1.out, DG18_y1.out, Dyy.out⟩)
    ·skip
     refine box_step ?hg (N := 6) ?hd (cs := #[.int .i64 0, .slice none 0 0]) (t := 26) ?hr ?_; (case hd => rfl); (case hg => rfl); (case hr => first | (go_simp; done) | (go_simp; rfl))
     intro y0 hg w1 hbox hb
     have By0 := by_ hbox
     have Ey0 := ey_ L hg
     have DG16_y0 := ny_ G16 hg
     have DG18_y0 := ny_ G18 hg
     have Dyy := am_ (show y0 ≠ y1 from by rw [hg]; exact Nat.ne_of_gt (blk_lt By1.out.x))
     replace G16 := gb_ G16 hb
     replace G18 := gb_ G18 hb
     replace By1 := gb_ By1 hb
     replace L := lb_ L hb
     clear hb hg hbox
     refine hK.out _ _ ((two2_ G16 G18)) (fun hHeld => ?_)
     clear hK K
     refine nr_ ?_
     refine one_ (i := 1) (N := some 32) #[true, true, true, false, false, false, false, false, false, true, true, false, false, false] rfl rfl (by kernel_rfl) (by decide) (fun K hK => ?_)
     refine goes_ Tryd.func13 (by kernel_rfl) rfl #[.agg #[.int .i64 s0_0, .slice A0_1 l0_1.length c0_1]] (by rfl) rfl rfl ma_ ?_
     obtain ⟨k, hk⟩ := KF.out.f0
     with_reducible refine (laws_toWhole.calls k s0_0 A0_1 c0_1 l0_1 s0_0 l0_1 _ (Kd.C_below HR0_1.out L.out) (HC0_1.out) hk).mono ?_
     rintro x w1 ⟨v0_, rfl, hr0_, hb⟩
     refine ⟨_, rfl, ?_⟩
     obtain ⟨At0_0, ct0_0, rfl⟩ := Kd.R_slice hr0_
     have Vt0_0 := am_ (RO.of (w := w) hr0_ L.out.size)
     replace G16 := gb_ G16 hb
     replace G18 := gb_ G18 hb
     replace By1 := gb_ By1 hb
     replace By0 := gb_ By0 hb
     replace L := lb_ L hb
     clear hb hk hr0_
     refine hK.out _ _ ((two2_ G16 G18)) (fun hHeld => ?_)
     clear hK K
     refine nr_ ?_
     refine one_ (i := 3) (N := some 34) #[true, true, true, true, false, false, false, false, false, true, true, false, false, false] rfl rfl (by kernel_rfl) (by decide) (fun K hK => ?_)
     refine goes_ Tryd.func13 (by kernel_rfl) rfl #[.agg #[.int .i64 s1_0, .slice A1_1 l1_1.length c1_1]] (by rfl) rfl rfl ma_ ?_
     obtain ⟨k, hk⟩ := KF.out.f1
     with_reducible refine (laws_toWhole.calls k s1_0 A1_1 c1_1 l1_1 s1_0 l1_1 _ (Kd.C_below HR1_1.out L.out) (HC1_1.out) hk).mono ?_
     rintro x w1 ⟨v0_, rfl, hr0_, hb⟩
     refine ⟨_, rfl, ?_⟩
     obtain ⟨At1_0, ct1_0, rfl⟩ := Kd.R_slice hr0_
     have Vt1_0 := am_ (RO.of (w := w) hr0_ L.out.size)
     replace G16 := gb_ G16 hb
     replace G18 := gb_ G18 hb
     replace By1 := gb_ By1 hb
     replace By0 := gb_ By0 hb
     replace Vt0_0 := vb_ Vt0_0 hb
     replace L := lb_ L hb
     clear hb hk hr0_
     refine hK.out _ _ ((two2_ G16 G18)) (fun hHeld => ?_)
     clear hK K
     refine nr_ ?_
     refine one_ (i := 4) (N := some 35) #[true, true, true, true, true, false, false, false, false, true, true, false, false, false] rfl rfl (by kernel_rfl) (by decide) (fun K hK => ?_)
     refine goes_ Tryd.func12 (by kernel_rfl) rfl #[.agg #[.int .i64 s0_0, .slice At0_0 l0_1.length ct0_0], .agg #[.int .i64 s1_0, .slice At1_0 l1_1.length ct1_0]] (by rfl) rfl rfl ma_ ?_
     obtain ⟨k, hk⟩ := KF.out.f2
     with_reducible refine (spec_DivideWholes.calls k s0_0 At0_0 ct0_0 l0_1 s1_0 At1_0 ct1_0 l1_1 r1 r2 r3 r4 r5 _ (Vt0_0.out.c) (Vt0_0.out.le) (Vt1_0.out.c) (Vt1_0.out.le) hk).mono ?_
     rintro x w1 ⟨v0_, v1_, rfl, hr0_, hr1_, hb⟩
     refine ⟨_, rfl, ?_⟩
     obtain ⟨Au0_0, cu0_0, rfl⟩ := Kd.R_slice hr0_
     obtain ⟨Au1_0, cu1_0, rfl⟩ := Kd.R_slice hr1_
     have Uu0_0 := am_ (RO.of (w := w) hr0_ L.out.size)
     have Uu1_0 := am_ (RO.of (w := w) hr1_ L.out.size)
     replace G16 := gb_ G16 hb
     replace G18 := gb_ G18 hb
     replace By1 := gb_ By1 hb
     replace By0 := gb_ By0 hb
     replace Vt0_0 := vb_ Vt0_0 hb
     replace Vt1_0 := vb_ Vt1_0 hb
     replace L := lb_ L hb
     clear hb hk hr0_ hr1_
     refine hK.out _ _ ((two2_ G16 G18)) (fun hHeld => ?_)
     clear hK K
     refine nr_ ?_
     refine pu_ #[true, true, true, true, true, true, false, false, false, true, true, false, false, false] 5 30 (by kernel_rfl) ?_
     refine pu_ #[true, true, true, true, true, true, true, false, false, true, true, false, false, false] 6 36 (by kernel_rfl) ?_
     refine pu_ #[true, true, true, true, true, true, true, true, false, true, true, false, false, false] 7 37 (by kernel_rfl) ?_
     refine pu_ #[true, true, true, true, true, true, true, true, true, true, true, false, false, false] 8 38 (by kernel_rfl) ?_
     exact norm_ (by simp only [putAll, Act.put, List.setIfInBounds_toArray, List.set_cons_zero, List.set_cons_succ] <;> rfl) (hJ ((.slice At0_0 l0_1.length ct0_0), (.slice At1_0 l1_1.length ct1_0), (.slice Au0_0 r2.length cu0_0), (.slice Au1_0 r4.length cu1_0), y0, y1) _ ⟨hHeld, G16.out, G18.out, L.out, Uu0_0.out, Uu1_0.out, By0.out, Ey0.out, DG16_y0.out, DG18_y0.out, By1.out, Ey1.out, DG16_y1.out, DG18_y1.out, Dyy.out⟩)
end Go.Proofs.YtghhphndbbefjaaDoor
