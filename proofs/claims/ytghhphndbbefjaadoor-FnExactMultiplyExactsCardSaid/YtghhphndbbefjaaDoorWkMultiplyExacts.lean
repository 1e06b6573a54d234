/- The law FnExactMultiplyExacts walked, with its answers known: it answers true. -/
import Derived.Test.YtghhphndbbefjaaDoorLawD
import Derived.Test.YtghhphndbbefjaaDoorG32
import Derived.Test.YtghhphndbbefjaaDoorG33
import Derived.Test.YtghhphndbbefjaaDoorG15
import Derived.Test.YtghhphndbbefjaaDoorG16
import Derived.BigRegion
namespace Go.Proofs.YtghhphndbbefjaaDoor
open Go.RowKit Go.Proofs.YtghhphndbbefjaaDoorW.PrintWords Go.Proofs.YtghhphndbbefjaaDoorW.PrintLast Go.Proofs.YtghhphndbbefjaaDoorW.PrintMore Go.Proofs.YtghhphndbbefjaaDoor.Math Go.Proofs.YtghhphndbbefjaaDoor.Big Go.Proofs.YtghhphndbbefjaaDoor.X Go.Proofs.YtghhphndbbefjaaDoor.Sq
set_option linter.unusedVariables false
set_option linter.unusedSimpArgs false
theorem ny_ {w : World} {b y : Nat} {cs : Array Value} {T : TypeId} (h : Aside0 (BX w b cs T)) (hg : y = w.heap.size) : Aside0 (b ≠ y) := ⟨by rw [hg]; exact Nat.ne_of_lt (blk_lt h.out.x)⟩
structure KnownMultiplyExacts (s0_0 : Int) (l0_1 : List Int) (s0_2 : Int) (s0_3 : Int) (l0_4 : List Int) (s0_5 : Int) (s1_0 : Int) (l1_1 : List Int) (s1_2 : Int) (s1_3 : Int) (l1_4 : List Int) (s1_5 : Int) (r1 : Int) (r2 : List Int) (r3 : Int) (r4 : Int) (r5 : List Int) (r6 : Int) (r7 : Int) (n1 : Int) (m129 : List Int) (m130 : List Int) (n2 : Int) (m137 : List Int) (m138 : List Int) (n3 : Int) (m157 : List Int) (m158 : List Int) : Prop where
 f0 : ∃ k, laws_toExact.f k s0_0 l0_1 s0_2 s0_3 l0_4 s0_5 = some (s0_0, l0_1, s0_2, s0_3, l0_4, s0_5)
 f1 : ∃ k, laws_toExact.f k s1_0 l1_1 s1_2 s1_3 l1_4 s1_5 = some (s1_0, l1_1, s1_2, s1_3, l1_4, s1_5)
 f2 : ∃ k, spec_MultiplyExacts.f k s0_0 l0_1 s0_2 s0_3 l0_4 s0_5 s1_0 l1_1 s1_2 s1_3 l1_4 s1_5 = some (r1, r2, r3, r4, r5, r6, r7)
 f3 : impl_MultiplyExacts.f s0_0 l0_1 s0_2 s0_3 l0_4 s0_5 s1_0 l1_1 s1_2 s1_3 l1_4 s1_5 = some (r1, r2, r3, r4, r5, r6, r7)
 f4 : ∃ k, laws_eqExact.f k r1 r2 r3 r4 r5 r6 r1 r2 r3 r4 r5 r6 = some true
 f5 : ∃ k, laws_eqExact.f k s0_0 l0_1 s0_2 s0_3 l0_4 s0_5 s0_0 l0_1 s0_2 s0_3 l0_4 s0_5 = some true
 f6 : ∃ k, laws_eqExact.f k s1_0 l1_1 s1_2 s1_3 l1_4 s1_5 s1_0 l1_1 s1_2 s1_3 l1_4 s1_5 = some true
 f7 : ∃ k, laws_markExact.f k s0_0 l0_1 s0_2 s0_3 l0_4 s0_5 1 = some (n1, m129, m130)
 f8 : 0 ≤ n1
 f9 : m129.length = l0_1.length
 f10 : m130.length = l0_4.length
 f11 : ∃ k, laws_markExact.f k s1_0 l1_1 s1_2 s1_3 l1_4 s1_5 n1 = some (n2, m137, m138)
 f12 : 0 ≤ n2
 f13 : m137.length = l1_1.length
 f14 : m138.length = l1_4.length
 f15 : ∃ k, laws_markExact.f k r1 r2 r3 r4 r5 r6 1 = some (n3, m157, m158)
 f16 : 0 ≤ n3
 f17 : m157.length = r2.length
 f18 : m158.length = r5.length
 f19 : ∃ k, laws_heldExact.f k r1 m157 r3 r4 m158 r6 1 = some n3
set_option maxRecDepth 100000 in
set_option maxHeartbeats 8000000 in
theorem walk_MultiplyExacts (s0_0 : Int) (A0_1 : Option Addr) (c0_1 : Nat) (l0_1 : List Int) (s0_2 : Int) (s0_3 : Int) (A0_4 : Option Addr) (c0_4 : Nat) (l0_4 : List Int) (s0_5 : Int) (s1_0 : Int) (A1_1 : Option Addr) (c1_1 : Nat) (l1_1 : List Int) (s1_2 : Int) (s1_3 : Int) (A1_4 : Option Addr) (c1_4 : Nat) (l1_4 : List Int) (s1_5 : Int) (r1 : Int) (r2 : List Int) (r3 : Int) (r4 : Int) (r5 : List Int) (r6 : Int) (r7 : Int) (n1 : Int) (m129 : List Int) (m130 : List Int) (n2 : Int) (m137 : List Int) (m138 : List Int) (n3 : Int) (m157 : List Int) (m158 : List Int) (z0 z1 : Int) (w : World) (hr0_1 : Kd.C (Kd.int .i64) w A0_1 l0_1.length l0_1) (hc0_1 : l0_1.length ≤ c0_1) (hr0_4 : Kd.C (Kd.int .i64) w A0_4 l0_4.length l0_4) (hc0_4 : l0_4.length ≤ c0_4) (hr1_1 : Kd.C (Kd.int .i64) w A1_1 l1_1.length l1_1) (hc1_1 : l1_1.length ≤ c1_1) (hr1_4 : Kd.C (Kd.int .i64) w A1_4 l1_4.length l1_4) (hc1_4 : l1_4.length ≤ c1_4) (hT : Tab w) (hz0 : laws_szExact.f s0_0 l0_1 s0_2 s0_3 l0_4 s0_5 1048576 = some z0) (hz1 : 0 ≤ z0 → laws_szExact.f s1_0 l1_1 s1_2 s1_3 l1_4 s1_5 z0 = some z1) (hk : 0 ≤ z1 → KnownMultiplyExacts s0_0 l0_1 s0_2 s0_3 l0_4 s0_5 s1_0 l1_1 s1_2 s1_3 l1_4 s1_5 r1 r2 r3 r4 r5 r6 r7 n1 m129 m130 n2 m137 m138 n3 m157 m158) :
  Calls Tryd.prog 9 #[.agg #[.int .i64 s0_0, .slice A0_1 l0_1.length c0_1, .int .i64 s0_2, .int .i64 s0_3, .slice A0_4 l0_4.length c0_4, .int .i64 s0_5], .agg #[.int .i64 s1_0, .slice A1_1 l1_1.length c1_1, .int .i64 s1_2, .int .i64 s1_3, .slice A1_4 l1_4.length c1_4, .int .i64 s1_5]] w fun x w' => x = .returned (.bool true) ∧ Below w.heap.size w w' := by
 have HR0_1 := am_ hr0_1; have HC0_1 := am_ hc0_1; clear hr0_1 hc0_1
 have HR0_4 := am_ hr0_4; have HC0_4 := am_ hc0_4; clear hr0_4 hc0_4
 have HR1_1 := am_ hr1_1; have HC1_1 := am_ hc1_1; clear hr1_1 hc1_1
 have HR1_4 := am_ hr1_4; have HC1_4 := am_ hc1_4; clear hr1_4 hc1_4
 have HT := am_ hT; clear hT
 have HZ0 := am_ hz0; clear hz0
 by_cases hs : z0 < 0
 ·skip
  go_enter Tryd.func9, Tryd.ntmps9
  go_upto_region 1 with fail
  obtain ⟨w1, g1, e1, e2, hB, hb⟩ := new_box w #[.int .i64 s0_0, .slice A0_1 l0_1.length c0_1, .int .i64 s0_2, .int .i64 s0_3, .slice A0_4 l0_4.length c0_4, .int .i64 s0_5] 42
  rw [← e1]; rw [← e2]
  have G2 := am_ hB
  have L := am_ hb
  have z1_ : w1.heap.size = g1 + 1 := by rw [e1, e2]; simp
  clear hB hb e1 e2
  obtain ⟨w1, g3, e1, e2, hB, hb⟩ := new_box w1 #[.int .i64 s1_0, .slice A1_1 l1_1.length c1_1, .int .i64 s1_2, .int .i64 s1_3, .slice A1_4 l1_4.length c1_4, .int .i64 s1_5] 42
  rw [← e1]; rw [← z1_]; rw [← e2]
  have G4 := am_ hB
  replace G2 := gb_ G2 hb
  replace L := lb_ L hb
  clear z1_
  clear hB hb e1 e2
  obtain ⟨p5, p6, p7, p8, p9, p10⟩ := cl6_ G2
  go_wp2_with fail
  refine (laws_szExact.calls s0_0 A0_1 c0_1 l0_1 s0_2 s0_3 A0_4 c0_4 l0_4 s0_5 1048576 z0 _ (Kd.C_below HR0_1.out L.out) (HC0_1.out) (Kd.C_below HR0_4.out L.out) (HC0_4.out) HZ0.out).mono ?_
  rintro x w1 ⟨rfl, hb⟩
  clear p5 p6 p7 p8 p9 p10
  replace G2 := gb_ G2 hb
  replace G4 := gb_ G4 hb
  replace L := lb_ L hb
  clear hb
  go_wp2
  go_ret
  exact ⟨rfl, L.out⟩
 ·have HZ1 := am_ (hz1 (by omega)); have hs' : 0 ≤ z0 := by omega
  clear hz1
  by_cases ht : z1 < 0
  ·skip
   go_enter Tryd.func9, Tryd.ntmps9
   go_upto_region 1 with fail
   obtain ⟨w1, g11, e1, e2, hB, hb⟩ := new_box w #[.int .i64 s0_0, .slice A0_1 l0_1.length c0_1, .int .i64 s0_2, .int .i64 s0_3, .slice A0_4 l0_4.length c0_4, .int .i64 s0_5] 42
   rw [← e1]; rw [← e2]
   have G12 := am_ hB
   have L := am_ hb
   have z1_ : w1.heap.size = g11 + 1 := by rw [e1, e2]; simp
   clear hB hb e1 e2
   obtain ⟨w1, g13, e1, e2, hB, hb⟩ := new_box w1 #[.int .i64 s1_0, .slice A1_1 l1_1.length c1_1, .int .i64 s1_2, .int .i64 s1_3, .slice A1_4 l1_4.length c1_4, .int .i64 s1_5] 42
   rw [← e1]; rw [← z1_]; rw [← e2]
   have G14 := am_ hB
   replace G12 := gb_ G12 hb
   replace L := lb_ L hb
   clear z1_
   clear hB hb e1 e2
   obtain ⟨p15, p16, p17, p18, p19, p20⟩ := cl6_ G12
   go_wp2_with fail
   refine (laws_szExact.calls s0_0 A0_1 c0_1 l0_1 s0_2 s0_3 A0_4 c0_4 l0_4 s0_5 1048576 z0 _ (Kd.C_below HR0_1.out L.out) (HC0_1.out) (Kd.C_below HR0_4.out L.out) (HC0_4.out) HZ0.out).mono ?_
   rintro x w1 ⟨rfl, hb⟩
   clear p15 p16 p17 p18 p19 p20
   replace G12 := gb_ G12 hb
   replace G14 := gb_ G14 hb
   replace L := lb_ L hb
   clear hb
   obtain ⟨p21, p22, p23, p24, p25, p26⟩ := cl6_ G14
   go_wp2_with fail
   refine (laws_szExact.calls s1_0 A1_1 c1_1 l1_1 s1_2 s1_3 A1_4 c1_4 l1_4 s1_5 z0 z1 _ (Kd.C_below HR1_1.out L.out) (HC1_1.out) (Kd.C_below HR1_4.out L.out) (HC1_4.out) HZ1.out).mono ?_
   rintro x w1 ⟨rfl, hb⟩
   clear p21 p22 p23 p24 p25 p26
   replace G12 := gb_ G12 hb
   replace G14 := gb_ G14 hb
   replace L := lb_ L hb
   clear hb
   go_wp2
   go_ret
   exact ⟨rfl, L.out⟩
  ·have KF := am_ (hk (by omega)); have ht' : 0 ≤ z1 := by omega
   clear hk
   go_enter Tryd.func9, Tryd.ntmps9
   go_upto_region 1 with fail
   obtain ⟨w1, g27, e1, e2, hB, hb⟩ := new_box w #[.int .i64 s0_0, .slice A0_1 l0_1.length c0_1, .int .i64 s0_2, .int .i64 s0_3, .slice A0_4 l0_4.length c0_4, .int .i64 s0_5] 42
   rw [← e1]; rw [← e2]
   have G28 := am_ hB
   have L := am_ hb
   have z1_ : w1.heap.size = g27 + 1 := by rw [e1, e2]; simp
   clear hB hb e1 e2
   obtain ⟨w1, g29, e1, e2, hB, hb⟩ := new_box w1 #[.int .i64 s1_0, .slice A1_1 l1_1.length c1_1, .int .i64 s1_2, .int .i64 s1_3, .slice A1_4 l1_4.length c1_4, .int .i64 s1_5] 42
   rw [← e1]; rw [← z1_]; rw [← e2]
   have G30 := am_ hB
   replace G28 := gb_ G28 hb
   replace L := lb_ L hb
   clear z1_
   clear hB hb e1 e2
   obtain ⟨p31, p32, p33, p34, p35, p36⟩ := cl6_ G28
   go_wp2_with fail
   refine (laws_szExact.calls s0_0 A0_1 c0_1 l0_1 s0_2 s0_3 A0_4 c0_4 l0_4 s0_5 1048576 z0 _ (Kd.C_below HR0_1.out L.out) (HC0_1.out) (Kd.C_below HR0_4.out L.out) (HC0_4.out) HZ0.out).mono ?_
   rintro x w1 ⟨rfl, hb⟩
   clear p31 p32 p33 p34 p35 p36
   replace G28 := gb_ G28 hb
   replace G30 := gb_ G30 hb
   replace L := lb_ L hb
   clear hb
   obtain ⟨p37, p38, p39, p40, p41, p42⟩ := cl6_ G30
   go_wp2_with fail
   refine (laws_szExact.calls s1_0 A1_1 c1_1 l1_1 s1_2 s1_3 A1_4 c1_4 l1_4 s1_5 z0 z1 _ (Kd.C_below HR1_1.out L.out) (HC1_1.out) (Kd.C_below HR1_4.out L.out) (HC1_4.out) HZ1.out).mono ?_
   rintro x w1 ⟨rfl, hb⟩
   clear p37 p38 p39 p40 p41 p42
   replace G28 := gb_ G28 hb
   replace G30 := gb_ G30 hb
   replace L := lb_ L hb
   clear hb
   go_upto_region 8 with fail
   refine start_ (n := 11) (S := fun w' => w'.cell? ⟨g27, 0, none⟩ = some (.int .i64 s0_0) ∧ w'.cell? ⟨g27, 1, none⟩ = some (.slice A0_1 l0_1.length c0_1) ∧ w'.cell? ⟨g27, 2, none⟩ = some (.int .i64 s0_2) ∧ w'.cell? ⟨g27, 3, none⟩ = some (.int .i64 s0_3) ∧ w'.cell? ⟨g27, 4, none⟩ = some (.slice A0_4 l0_4.length c0_4) ∧ w'.cell? ⟨g27, 5, none⟩ = some (.int .i64 s0_5) ∧ w'.cell? ⟨g29, 0, none⟩ = some (.int .i64 s1_0) ∧ w'.cell? ⟨g29, 1, none⟩ = some (.slice A1_1 l1_1.length c1_1) ∧ w'.cell? ⟨g29, 2, none⟩ = some (.int .i64 s1_2) ∧ w'.cell? ⟨g29, 3, none⟩ = some (.int .i64 s1_3) ∧ w'.cell? ⟨g29, 4, none⟩ = some (.slice A1_4 l1_4.length c1_4) ∧ w'.cell? ⟨g29, 5, none⟩ = some (.int .i64 s1_5)) (ds := [9]) #[false, false, false, false, false, false, false, false, false, false, false] (by kernel_rfl) rfl rfl (two6_ (dw_ G28) (dw_ G30)) (fun hHeld => ?_)
   have hb := (Below.refl w1.heap.size w1).drew; generalize w1.drew = w1 at hHeld hb ⊢
   replace G28 := gb_ G28 hb
   replace G30 := gb_ G30 hb
   replace L := lb_ L hb
   clear hb
   refine tk_ #[true, false, false, false, false, false, false, false, false, false, false] 0 28 (by kernel_rfl) hHeld ?_
   refine tk_ #[true, false, true, false, false, false, false, false, false, false, false] 2 30 (by kernel_rfl) hHeld ?_
   refine join_ (σ := Value × Value × Value × Value × Value × Value × Nat) 2 #[true, true, true, true, true, true, true, true, true, false, false] (fun s => [(29, .agg #[.int .i64 s0_0, s.1, .int .i64 s0_2, .int .i64 s0_3, s.2.1, .int .i64 s0_5]), (31, .agg #[.int .i64 s1_0, s.2.2.1, .int .i64 s1_2, .int .i64 s1_3, s.2.2.2.1, .int .i64 s1_5]), (32, .tuple #[.agg #[.int .i64 r1, s.2.2.2.2.1, .int .i64 r3, .int .i64 r4, s.2.2.2.2.2.1, .int .i64 r6], .int .i64 r7]), (27, .tuple #[.agg #[.int .i64 r1, s.2.2.2.2.1, .int .i64 r3, .int .i64 r4, s.2.2.2.2.2.1, .int .i64 r6], .int .i64 r7]), (33, .agg #[.int .i64 r1, s.2.2.2.2.1, .int .i64 r3, .int .i64 r4, s.2.2.2.2.2.1, .int .i64 r6]), (34, .int .i64 r7), (6, .pointer (some ⟨s.2.2.2.2.2.2, 0, none⟩))]) (fun s w' => (w'.cell? ⟨g27, 0, none⟩ = some (.int .i64 s0_0) ∧ w'.cell? ⟨g27, 1, none⟩ = some (.slice A0_1 l0_1.length c0_1) ∧ w'.cell? ⟨g27, 2, none⟩ = some (.int .i64 s0_2) ∧ w'.cell? ⟨g27, 3, none⟩ = some (.int .i64 s0_3) ∧ w'.cell? ⟨g27, 4, none⟩ = some (.slice A0_4 l0_4.length c0_4) ∧ w'.cell? ⟨g27, 5, none⟩ = some (.int .i64 s0_5) ∧ w'.cell? ⟨g29, 0, none⟩ = some (.int .i64 s1_0) ∧ w'.cell? ⟨g29, 1, none⟩ = some (.slice A1_1 l1_1.length c1_1) ∧ w'.cell? ⟨g29, 2, none⟩ = some (.int .i64 s1_2) ∧ w'.cell? ⟨g29, 3, none⟩ = some (.int .i64 s1_3) ∧ w'.cell? ⟨g29, 4, none⟩ = some (.slice A1_4 l1_4.length c1_4) ∧ w'.cell? ⟨g29, 5, none⟩ = some (.int .i64 s1_5)) ∧ BX w' g27 #[.int .i64 s0_0, .slice A0_1 l0_1.length c0_1, .int .i64 s0_2, .int .i64 s0_3, .slice A0_4 l0_4.length c0_4, .int .i64 s0_5] 42 ∧ BX w' g29 #[.int .i64 s1_0, .slice A1_1 l1_1.length c1_1, .int .i64 s1_2, .int .i64 s1_3, .slice A1_4 l1_4.length c1_4, .int .i64 s1_5] 42 ∧ Below w.heap.size w w' ∧ RO w w' s.2.2.2.2.1 r2 ∧ RO w w' s.2.2.2.2.2.1 r5 ∧ BX w' s.2.2.2.2.2.2 #[.int .i64 0, .slice none 0 0, .int .i64 0, .int .i64 0, .slice none 0 0, .int .i64 0] 47 ∧ w.heap.size ≤ s.2.2.2.2.2.2 ∧ g27 ≠ s.2.2.2.2.2.2 ∧ g29 ≠ s.2.2.2.2.2.2) ?cont (fun hJ => ?_)
   case cont =>
    rintro ⟨t0_0, t0_1, t1_0, t1_1, u0_0, u0_1, y0⟩ w1 ⟨hHeld, h0_, h1_, h2_, h3_, h4_, h5_, h6_, h7_, h8_⟩
    try dsimp only at hHeld h0_ h1_ h2_ h3_ h4_ h5_ h6_ h7_ h8_
    have G28 := am_ h0_; have G30 := am_ h1_; have L := am_ h2_; have Uu0_0 := am_ h3_; have Uu0_1 := am_ h4_; have By0 := am_ h5_; have Ey0 := am_ h6_; have DG28_y0 := am_ h7_; have DG30_y0 := am_ h8_
    clear h0_ h1_ h2_ h3_ h4_ h5_ h6_ h7_ h8_
    obtain ⟨A43, c44, rfl⟩ := Kd.R_slice Uu0_0.out.row
    obtain ⟨A45, c46, rfl⟩ := Kd.R_slice Uu0_1.out.row
    refine norm_ (a' := ?_) ?_ ?_
    rotate_left
    ·simp only [putAll, Act.put, List.setIfInBounds_toArray, List.set_cons_zero, List.set_cons_succ]
     rfl
    refine last_ (i := 9) (N := none) #[true, true, true, true, true, true, true, true, true, true, false] rfl rfl (by kernel_rfl) (by decide) (fun K hK => ?_)
    obtain ⟨q0, q1, q2, q3, q4, q5, q6, q7, q8, q9, q10, q11⟩ := ck6_ (am_ By0.out.x)
    refine skip_ (w1 := ?_) (by rfl) rfl ?_ ?_
    rotate_left
    ·go_simp
     rfl
    refine hK.out _ _ ?_
    clear hK K q0 q1 q2 q3 q4 q5 q6 q7 q8 q9 q10 q11
    obtain ⟨w1, e1, hB, hst⟩ := store6 By0.out (.int .i64 r1) (.slice A43 r2.length c44) (.int .i64 r3) (.int .i64 r4) (.slice A45 r5.length c46) (.int .i64 r6)
    rw [← e1]; clear e1
    replace G28 := am_ (G28.out.stp hst DG28_y0.out)
    replace G30 := am_ (G30.out.stp hst DG30_y0.out)
    replace Uu0_0 := am_ (Uu0_0.out.stp hst By0.out (by decide))
    replace Uu0_1 := am_ (Uu0_1.out.stp hst By0.out (by decide))
    replace L := am_ (hst.low L.out Ey0.out); replace By0 := am_ hB; clear hB hst
    refine pu_ #[true, true, true, true, true, true, true, true, true, true, true] 10 7 (by kernel_rfl) ?_
    refine done_ (by kernel_rfl) ?_
    clear hHeld Ey0 DG28_y0 DG30_y0
    obtain ⟨g48, eg⟩ : ∃ x, x = y0 := ⟨_, rfl⟩
    rw [← eg] at By0 ⊢; clear eg
    have G47 := By0; clear By0
    have V49 := Uu0_0; clear Uu0_0
    have V50 := Uu0_1; clear Uu0_1
    obtain ⟨p51, p52, p53, p54, p55, p56⟩ := cl6_ G28
    go_wp2_with fail
    obtain ⟨k, hk⟩ := KF.out.f0
    refine (laws_toExact.calls k s0_0 A0_1 c0_1 l0_1 s0_2 s0_3 A0_4 c0_4 l0_4 s0_5 s0_0 l0_1 s0_2 s0_3 l0_4 s0_5 _ (Kd.C_below HR0_1.out L.out) (HC0_1.out) (Kd.C_below HR0_4.out L.out) (HC0_4.out) hk).mono ?_
    rintro x w1 ⟨v0_, v1_, rfl, hr0_, hr1_, hb⟩
    clear p51 p52 p53 p54 p55 p56
    obtain ⟨A57, c58, rfl⟩ := Kd.R_slice hr0_
    obtain ⟨A60, c61, rfl⟩ := Kd.R_slice hr1_
    have V59 := am_ (RO.of (w := w) hr0_ L.out.size)
    have V62 := am_ (RO.of (w := w) hr1_ L.out.size)
    have N_V49_V59 := no_ V49 hr0_
    have N_V49_V62 := no_ V49 hr1_
    have N_V50_V59 := no_ V50 hr0_
    have N_V50_V62 := no_ V50 hr1_
    have N_V59_V62 := am_ (NeRow.two hr0_)
    replace V49 := vb_ V49 hb
    replace V50 := vb_ V50 hb
    replace G28 := gb_ G28 hb
    replace G30 := gb_ G30 hb
    replace G47 := gb_ G47 hb
    replace L := lb_ L hb
    clear hb hk hr0_ hr1_
    go_upto_region 10 with fail
    obtain ⟨w1, g63, e1, e2, hB, hb⟩ := new_box _ #[.int .i64 s0_0, .slice A57 l0_1.length c58, .int .i64 s0_2, .int .i64 s0_3, .slice A60 l0_4.length c61, .int .i64 s0_5] 47
    rw [← e1]; try rw [← e2]
    have G64 := am_ hB
    replace V49 := vb_ V49 hb
    replace V50 := vb_ V50 hb
    replace V59 := vb_ V59 hb
    replace V62 := vb_ V62 hb
    replace G28 := gb_ G28 hb
    replace G30 := gb_ G30 hb
    replace G47 := gb_ G47 hb
    replace L := lb_ L hb
    clear hB hb e1 e2
    obtain ⟨p65, p66, p67, p68, p69, p70⟩ := cl6_ G30
    go_wp2_with fail
    obtain ⟨k, hk⟩ := KF.out.f1
    refine (laws_toExact.calls k s1_0 A1_1 c1_1 l1_1 s1_2 s1_3 A1_4 c1_4 l1_4 s1_5 s1_0 l1_1 s1_2 s1_3 l1_4 s1_5 _ (Kd.C_below HR1_1.out L.out) (HC1_1.out) (Kd.C_below HR1_4.out L.out) (HC1_4.out) hk).mono ?_
    rintro x w1 ⟨v0_, v1_, rfl, hr0_, hr1_, hb⟩
    clear p65 p66 p67 p68 p69 p70
    obtain ⟨A71, c72, rfl⟩ := Kd.R_slice hr0_
    obtain ⟨A74, c75, rfl⟩ := Kd.R_slice hr1_
    have V73 := am_ (RO.of (w := w) hr0_ L.out.size)
    have V76 := am_ (RO.of (w := w) hr1_ L.out.size)
    have N_V49_V73 := no_ V49 hr0_
    have N_V49_V76 := no_ V49 hr1_
    have N_V50_V73 := no_ V50 hr0_
    have N_V50_V76 := no_ V50 hr1_
    have N_V59_V73 := no_ V59 hr0_
    have N_V59_V76 := no_ V59 hr1_
    have N_V62_V73 := no_ V62 hr0_
    have N_V62_V76 := no_ V62 hr1_
    have N_V73_V76 := am_ (NeRow.two hr0_)
    replace V49 := vb_ V49 hb
    replace V50 := vb_ V50 hb
    replace V59 := vb_ V59 hb
    replace V62 := vb_ V62 hb
    replace G28 := gb_ G28 hb
    replace G30 := gb_ G30 hb
    replace G47 := gb_ G47 hb
    replace G64 := gb_ G64 hb
    replace L := lb_ L hb
    clear hb hk hr0_ hr1_
    go_upto_region 11 with fail
    obtain ⟨w1, g77, e1, e2, hB, hb⟩ := new_box _ #[.int .i64 s1_0, .slice A71 l1_1.length c72, .int .i64 s1_2, .int .i64 s1_3, .slice A74 l1_4.length c75, .int .i64 s1_5] 47
    rw [← e1]; try rw [← e2]
    have G78 := am_ hB
    replace V49 := vb_ V49 hb
    replace V50 := vb_ V50 hb
    replace V59 := vb_ V59 hb
    replace V62 := vb_ V62 hb
    replace V73 := vb_ V73 hb
    replace V76 := vb_ V76 hb
    replace G28 := gb_ G28 hb
    replace G30 := gb_ G30 hb
    replace G47 := gb_ G47 hb
    replace G64 := gb_ G64 hb
    replace L := lb_ L hb
    clear hB hb e1 e2
    obtain ⟨p79, p80, p81, p82, p83, p84⟩ := cl6_ G64
    obtain ⟨p85, p86, p87, p88, p89, p90⟩ := cl6_ G78
    go_wp2_with fail
    refine (impl_MultiplyExacts.calls s0_0 A57 c58 l0_1 s0_2 s0_3 A60 c61 l0_4 s0_5 s1_0 A71 c72 l1_1 s1_2 s1_3 A74 c75 l1_4 s1_5 r1 r2 r3 r4 r5 r6 r7 _ (V59.out.c) (V59.out.le) (V62.out.c) (V62.out.le) (V73.out.c) (V73.out.le) (V76.out.c) (V76.out.le) (HT.out.below L.out) KF.out.f3).mono ?_
    rintro x w1 ⟨v0_, v1_, rfl, hr0_, hr1_, hb⟩
    clear p79 p80 p81 p82 p83 p84 p85 p86 p87 p88 p89 p90
    obtain ⟨A91, c92, rfl⟩ := Kd.R_slice hr0_
    obtain ⟨A94, c95, rfl⟩ := Kd.R_slice hr1_
    have V93 := am_ (RO.of (w := w) hr0_ L.out.size)
    have V96 := am_ (RO.of (w := w) hr1_ L.out.size)
    have N_V49_V93 := no_ V49 hr0_
    have N_V49_V96 := no_ V49 hr1_
    have N_V50_V93 := no_ V50 hr0_
    have N_V50_V96 := no_ V50 hr1_
    have N_V59_V93 := no_ V59 hr0_
    have N_V59_V96 := no_ V59 hr1_
    have N_V62_V93 := no_ V62 hr0_
    have N_V62_V96 := no_ V62 hr1_
    have N_V73_V93 := no_ V73 hr0_
    have N_V73_V96 := no_ V73 hr1_
    have N_V76_V93 := no_ V76 hr0_
    have N_V76_V96 := no_ V76 hr1_
    have N_V93_V96 := am_ (NeRow.two hr0_)
    replace V49 := vb_ V49 hb
    replace V50 := vb_ V50 hb
    replace V59 := vb_ V59 hb
    replace V62 := vb_ V62 hb
    replace V73 := vb_ V73 hb
    replace V76 := vb_ V76 hb
    replace G28 := gb_ G28 hb
    replace G30 := gb_ G30 hb
    replace G47 := gb_ G47 hb
    replace G64 := gb_ G64 hb
    replace G78 := gb_ G78 hb
    replace L := lb_ L hb
    clear hb hr0_ hr1_
    go_upto_region 12 with fail
    obtain ⟨w1, g97, e1, e2, hB, hb⟩ := new_box _ #[.int .i64 r1, .slice A91 r2.length c92, .int .i64 r3, .int .i64 r4, .slice A94 r5.length c95, .int .i64 r6] 47
    rw [← e1]; try rw [← e2]
    have G98 := am_ hB
    replace V49 := vb_ V49 hb
    replace V50 := vb_ V50 hb
    replace V59 := vb_ V59 hb
    replace V62 := vb_ V62 hb
    replace V73 := vb_ V73 hb
    replace V76 := vb_ V76 hb
    replace V93 := vb_ V93 hb
    replace V96 := vb_ V96 hb
    replace G28 := gb_ G28 hb
    replace G30 := gb_ G30 hb
    replace G47 := gb_ G47 hb
    replace G64 := gb_ G64 hb
    replace G78 := gb_ G78 hb
    replace L := lb_ L hb
    clear hB hb e1 e2
    obtain ⟨p99, p100, p101, p102, p103, p104⟩ := cl6_ G98
    obtain ⟨p105, p106, p107, p108, p109, p110⟩ := cl6_ G47
    go_wp2_with fail
    obtain ⟨k, hk⟩ := KF.out.f4
    refine (laws_eqExact.calls k r1 A91 c92 r2 r3 r4 A94 c95 r5 r6 r1 A43 c44 r2 r3 r4 A45 c46 r5 r6 true _ (V93.out.c) (V93.out.le) (V96.out.c) (V96.out.le) (V49.out.c) (V49.out.le) (V50.out.c) (V50.out.le) hk).mono ?_
    rintro x w1 ⟨rfl, hb⟩
    clear p99 p100 p101 p102 p103 p104 p105 p106 p107 p108 p109 p110
    replace V49 := vb_ V49 hb
    replace V50 := vb_ V50 hb
    replace V59 := vb_ V59 hb
    replace V62 := vb_ V62 hb
    replace V73 := vb_ V73 hb
    replace V76 := vb_ V76 hb
    replace V93 := vb_ V93 hb
    replace V96 := vb_ V96 hb
    replace G28 := gb_ G28 hb
    replace G30 := gb_ G30 hb
    replace G47 := gb_ G47 hb
    replace G64 := gb_ G64 hb
    replace G78 := gb_ G78 hb
    replace G98 := gb_ G98 hb
    replace L := lb_ L hb
    clear hb hk
    go_upto_region 14 with fail
    refine start_ (n := 5) (S := fun w' => w'.cell? ⟨g63, 0, none⟩ = some (.int .i64 s0_0) ∧ w'.cell? ⟨g63, 1, none⟩ = some (.slice A57 l0_1.length c58) ∧ w'.cell? ⟨g63, 2, none⟩ = some (.int .i64 s0_2) ∧ w'.cell? ⟨g63, 3, none⟩ = some (.int .i64 s0_3) ∧ w'.cell? ⟨g63, 4, none⟩ = some (.slice A60 l0_4.length c61) ∧ w'.cell? ⟨g63, 5, none⟩ = some (.int .i64 s0_5) ∧ w'.cell? ⟨g27, 0, none⟩ = some (.int .i64 s0_0) ∧ w'.cell? ⟨g27, 1, none⟩ = some (.slice A0_1 l0_1.length c0_1) ∧ w'.cell? ⟨g27, 2, none⟩ = some (.int .i64 s0_2) ∧ w'.cell? ⟨g27, 3, none⟩ = some (.int .i64 s0_3) ∧ w'.cell? ⟨g27, 4, none⟩ = some (.slice A0_4 l0_4.length c0_4) ∧ w'.cell? ⟨g27, 5, none⟩ = some (.int .i64 s0_5)) (ds := []) #[false, false, false, false, false] (by kernel_rfl) rfl rfl (two6_ (dw_ G64) (dw_ G28)) (fun hHeld => ?_)
    have Dw2 := am_ ((Below.refl w1.heap.size w1).drew)
    generalize w1.drew = w2 at hHeld Dw2 ⊢
    refine tk_ #[true, false, false, false, false] 0 54 (by kernel_rfl) hHeld ?_
    refine tk_ #[true, true, false, false, false] 1 55 (by kernel_rfl) hHeld ?_
    refine one_ (i := 2) (N := some 56) #[true, true, true, false, false] rfl rfl (by kernel_rfl) (by decide) (fun K hK => ?_)
    replace V49 := am_ (V49.out.below Dw2.out)
    replace V50 := am_ (V50.out.below Dw2.out)
    replace V59 := am_ (V59.out.below Dw2.out)
    replace V62 := am_ (V62.out.below Dw2.out)
    replace V73 := am_ (V73.out.below Dw2.out)
    replace V76 := am_ (V76.out.below Dw2.out)
    replace V93 := am_ (V93.out.below Dw2.out)
    replace V96 := am_ (V96.out.below Dw2.out)
    replace G28 := am_ (G28.out.below Dw2.out)
    replace G30 := am_ (G30.out.below Dw2.out)
    replace G47 := am_ (G47.out.below Dw2.out)
    replace G64 := am_ (G64.out.below Dw2.out)
    replace G78 := am_ (G78.out.below Dw2.out)
    replace G98 := am_ (G98.out.below Dw2.out)
    replace L := am_ (L.out.trans (Dw2.out.mono L.out.size))
    obtain ⟨k, hk⟩ := KF.out.f0
    refine goes_ Tryd.func26 (by kernel_rfl) rfl #[.agg #[.int .i64 s0_0, .slice A0_1 l0_1.length c0_1, .int .i64 s0_2, .int .i64 s0_3, .slice A0_4 l0_4.length c0_4, .int .i64 s0_5]] (by rfl) rfl rfl ma_ ?_
    with_reducible refine (laws_toExact.calls k s0_0 A0_1 c0_1 l0_1 s0_2 s0_3 A0_4 c0_4 l0_4 s0_5 s0_0 l0_1 s0_2 s0_3 l0_4 s0_5 _ (Kd.C_below HR0_1.out L.out) (HC0_1.out) (Kd.C_below HR0_4.out L.out) (HC0_4.out) hk).mono ?_
    rintro x w1 ⟨v0_, v1_, rfl, hr0_, hr1_, hb⟩
    refine ⟨_, rfl, ?_⟩
    obtain ⟨A111, c112, rfl⟩ := Kd.R_slice hr0_
    obtain ⟨A114, c115, rfl⟩ := Kd.R_slice hr1_
    have V113 := am_ (RO.of (w := w) hr0_ L.out.size)
    have V116 := am_ (RO.of (w := w) hr1_ L.out.size)
    have N_V49_V113 := no_ V49 hr0_
    have N_V49_V116 := no_ V49 hr1_
    have N_V50_V113 := no_ V50 hr0_
    have N_V50_V116 := no_ V50 hr1_
    have N_V59_V113 := no_ V59 hr0_
    have N_V59_V116 := no_ V59 hr1_
    have N_V62_V113 := no_ V62 hr0_
    have N_V62_V116 := no_ V62 hr1_
    have N_V73_V113 := no_ V73 hr0_
    have N_V73_V116 := no_ V73 hr1_
    have N_V76_V113 := no_ V76 hr0_
    have N_V76_V116 := no_ V76 hr1_
    have N_V93_V113 := no_ V93 hr0_
    have N_V93_V116 := no_ V93 hr1_
    have N_V96_V113 := no_ V96 hr0_
    have N_V96_V116 := no_ V96 hr1_
    have N_V113_V116 := am_ (NeRow.two hr0_)
    replace V49 := vb_ V49 hb
    replace V50 := vb_ V50 hb
    replace V59 := vb_ V59 hb
    replace V62 := vb_ V62 hb
    replace V73 := vb_ V73 hb
    replace V76 := vb_ V76 hb
    replace V93 := vb_ V93 hb
    replace V96 := vb_ V96 hb
    replace G28 := gb_ G28 hb
    replace G30 := gb_ G30 hb
    replace G47 := gb_ G47 hb
    replace G64 := gb_ G64 hb
    replace G78 := gb_ G78 hb
    replace G98 := gb_ G98 hb
    replace L := lb_ L hb
    clear hb hk hr0_ hr1_
    refine hK.out _ _ (two6_ G64 G28) (fun hHeld => ?_)
    clear hK K
    refine nr_ ?_
    refine one_ (i := 3) (N := some 57) #[true, true, true, true, false] rfl rfl (by kernel_rfl) (by decide) (fun K hK => ?_)
    obtain ⟨k, hk⟩ := KF.out.f5
    refine goes_ Tryd.func28 (by kernel_rfl) rfl #[.agg #[.int .i64 s0_0, .slice A57 l0_1.length c58, .int .i64 s0_2, .int .i64 s0_3, .slice A60 l0_4.length c61, .int .i64 s0_5], .agg #[.int .i64 s0_0, .slice A111 l0_1.length c112, .int .i64 s0_2, .int .i64 s0_3, .slice A114 l0_4.length c115, .int .i64 s0_5]] (by rfl) rfl rfl ma_ ?_
    with_reducible refine (laws_eqExact.calls k s0_0 A57 c58 l0_1 s0_2 s0_3 A60 c61 l0_4 s0_5 s0_0 A111 c112 l0_1 s0_2 s0_3 A114 c115 l0_4 s0_5 true _ (V59.out.c) (V59.out.le) (V62.out.c) (V62.out.le) (V113.out.c) (V113.out.le) (V116.out.c) (V116.out.le) hk).mono ?_
    rintro x w1 ⟨rfl, hb⟩
    refine ⟨_, rfl, ?_⟩
    replace V49 := vb_ V49 hb
    replace V50 := vb_ V50 hb
    replace V59 := vb_ V59 hb
    replace V62 := vb_ V62 hb
    replace V73 := vb_ V73 hb
    replace V76 := vb_ V76 hb
    replace V93 := vb_ V93 hb
    replace V96 := vb_ V96 hb
    replace V113 := vb_ V113 hb
    replace V116 := vb_ V116 hb
    replace G28 := gb_ G28 hb
    replace G30 := gb_ G30 hb
    replace G47 := gb_ G47 hb
    replace G64 := gb_ G64 hb
    replace G78 := gb_ G78 hb
    replace G98 := gb_ G98 hb
    replace L := lb_ L hb
    clear hb hk
    refine hK.out _ _ (two6_ G64 G28) (fun hHeld => ?_)
    clear hK K
    refine nr_ ?_
    refine pu_ #[true, true, true, true, true] 4 58 (by kernel_rfl) ?_
    refine done_ (by kernel_rfl) ?_
    clear V113 V116
    go_upto_region 16 with fail
    refine start_ (n := 5) (S := fun w' => w'.cell? ⟨g77, 0, none⟩ = some (.int .i64 s1_0) ∧ w'.cell? ⟨g77, 1, none⟩ = some (.slice A71 l1_1.length c72) ∧ w'.cell? ⟨g77, 2, none⟩ = some (.int .i64 s1_2) ∧ w'.cell? ⟨g77, 3, none⟩ = some (.int .i64 s1_3) ∧ w'.cell? ⟨g77, 4, none⟩ = some (.slice A74 l1_4.length c75) ∧ w'.cell? ⟨g77, 5, none⟩ = some (.int .i64 s1_5) ∧ w'.cell? ⟨g29, 0, none⟩ = some (.int .i64 s1_0) ∧ w'.cell? ⟨g29, 1, none⟩ = some (.slice A1_1 l1_1.length c1_1) ∧ w'.cell? ⟨g29, 2, none⟩ = some (.int .i64 s1_2) ∧ w'.cell? ⟨g29, 3, none⟩ = some (.int .i64 s1_3) ∧ w'.cell? ⟨g29, 4, none⟩ = some (.slice A1_4 l1_4.length c1_4) ∧ w'.cell? ⟨g29, 5, none⟩ = some (.int .i64 s1_5)) (ds := []) #[false, false, false, false, false] (by kernel_rfl) rfl rfl (two6_ (dw_ G78) (dw_ G30)) (fun hHeld => ?_)
    have Dw2 := am_ ((Below.refl w1.heap.size w1).drew)
    generalize w1.drew = w2 at hHeld Dw2 ⊢
    refine tk_ #[true, false, false, false, false] 0 59 (by kernel_rfl) hHeld ?_
    refine tk_ #[true, true, false, false, false] 1 60 (by kernel_rfl) hHeld ?_
    refine one_ (i := 2) (N := some 61) #[true, true, true, false, false] rfl rfl (by kernel_rfl) (by decide) (fun K hK => ?_)
    replace V49 := am_ (V49.out.below Dw2.out)
    replace V50 := am_ (V50.out.below Dw2.out)
    replace V59 := am_ (V59.out.below Dw2.out)
    replace V62 := am_ (V62.out.below Dw2.out)
    replace V73 := am_ (V73.out.below Dw2.out)
    replace V76 := am_ (V76.out.below Dw2.out)
    replace V93 := am_ (V93.out.below Dw2.out)
    replace V96 := am_ (V96.out.below Dw2.out)
    replace G28 := am_ (G28.out.below Dw2.out)
    replace G30 := am_ (G30.out.below Dw2.out)
    replace G47 := am_ (G47.out.below Dw2.out)
    replace G64 := am_ (G64.out.below Dw2.out)
    replace G78 := am_ (G78.out.below Dw2.out)
    replace G98 := am_ (G98.out.below Dw2.out)
    replace L := am_ (L.out.trans (Dw2.out.mono L.out.size))
    obtain ⟨k, hk⟩ := KF.out.f1
    refine goes_ Tryd.func26 (by kernel_rfl) rfl #[.agg #[.int .i64 s1_0, .slice A1_1 l1_1.length c1_1, .int .i64 s1_2, .int .i64 s1_3, .slice A1_4 l1_4.length c1_4, .int .i64 s1_5]] (by rfl) rfl rfl ma_ ?_
    with_reducible refine (laws_toExact.calls k s1_0 A1_1 c1_1 l1_1 s1_2 s1_3 A1_4 c1_4 l1_4 s1_5 s1_0 l1_1 s1_2 s1_3 l1_4 s1_5 _ (Kd.C_below HR1_1.out L.out) (HC1_1.out) (Kd.C_below HR1_4.out L.out) (HC1_4.out) hk).mono ?_
    rintro x w1 ⟨v0_, v1_, rfl, hr0_, hr1_, hb⟩
    refine ⟨_, rfl, ?_⟩
    obtain ⟨A117, c118, rfl⟩ := Kd.R_slice hr0_
    obtain ⟨A120, c121, rfl⟩ := Kd.R_slice hr1_
    have V119 := am_ (RO.of (w := w) hr0_ L.out.size)
    have V122 := am_ (RO.of (w := w) hr1_ L.out.size)
    have N_V49_V119 := no_ V49 hr0_
    have N_V49_V122 := no_ V49 hr1_
    have N_V50_V119 := no_ V50 hr0_
    have N_V50_V122 := no_ V50 hr1_
    have N_V59_V119 := no_ V59 hr0_
    have N_V59_V122 := no_ V59 hr1_
    have N_V62_V119 := no_ V62 hr0_
    have N_V62_V122 := no_ V62 hr1_
    have N_V73_V119 := no_ V73 hr0_
    have N_V73_V122 := no_ V73 hr1_
    have N_V76_V119 := no_ V76 hr0_
    have N_V76_V122 := no_ V76 hr1_
    have N_V93_V119 := no_ V93 hr0_
    have N_V93_V122 := no_ V93 hr1_
    have N_V96_V119 := no_ V96 hr0_
    have N_V96_V122 := no_ V96 hr1_
    have N_V119_V122 := am_ (NeRow.two hr0_)
    replace V49 := vb_ V49 hb
    replace V50 := vb_ V50 hb
    replace V59 := vb_ V59 hb
    replace V62 := vb_ V62 hb
    replace V73 := vb_ V73 hb
    replace V76 := vb_ V76 hb
    replace V93 := vb_ V93 hb
    replace V96 := vb_ V96 hb
    replace G28 := gb_ G28 hb
    replace G30 := gb_ G30 hb
    replace G47 := gb_ G47 hb
    replace G64 := gb_ G64 hb
    replace G78 := gb_ G78 hb
    replace G98 := gb_ G98 hb
    replace L := lb_ L hb
    clear hb hk hr0_ hr1_
    refine hK.out _ _ (two6_ G78 G30) (fun hHeld => ?_)
    clear hK K
    refine nr_ ?_
    refine one_ (i := 3) (N := some 62) #[true, true, true, true, false] rfl rfl (by kernel_rfl) (by decide) (fun K hK => ?_)
    obtain ⟨k, hk⟩ := KF.out.f6
    refine goes_ Tryd.func28 (by kernel_rfl) rfl #[.agg #[.int .i64 s1_0, .slice A71 l1_1.length c72, .int .i64 s1_2, .int .i64 s1_3, .slice A74 l1_4.length c75, .int .i64 s1_5], .agg #[.int .i64 s1_0, .slice A117 l1_1.length c118, .int .i64 s1_2, .int .i64 s1_3, .slice A120 l1_4.length c121, .int .i64 s1_5]] (by rfl) rfl rfl ma_ ?_
    with_reducible refine (laws_eqExact.calls k s1_0 A71 c72 l1_1 s1_2 s1_3 A74 c75 l1_4 s1_5 s1_0 A117 c118 l1_1 s1_2 s1_3 A120 c121 l1_4 s1_5 true _ (V73.out.c) (V73.out.le) (V76.out.c) (V76.out.le) (V119.out.c) (V119.out.le) (V122.out.c) (V122.out.le) hk).mono ?_
    rintro x w1 ⟨rfl, hb⟩
    refine ⟨_, rfl, ?_⟩
    replace V49 := vb_ V49 hb
    replace V50 := vb_ V50 hb
    replace V59 := vb_ V59 hb
    replace V62 := vb_ V62 hb
    replace V73 := vb_ V73 hb
    replace V76 := vb_ V76 hb
    replace V93 := vb_ V93 hb
    replace V96 := vb_ V96 hb
    replace V119 := vb_ V119 hb
    replace V122 := vb_ V122 hb
    replace G28 := gb_ G28 hb
    replace G30 := gb_ G30 hb
    replace G47 := gb_ G47 hb
    replace G64 := gb_ G64 hb
    replace G78 := gb_ G78 hb
    replace G98 := gb_ G98 hb
    replace L := lb_ L hb
    clear hb hk
    refine hK.out _ _ (two6_ G78 G30) (fun hHeld => ?_)
    clear hK K
    refine nr_ ?_
    refine pu_ #[true, true, true, true, true] 4 63 (by kernel_rfl) ?_
    refine done_ (by kernel_rfl) ?_
    clear V119 V122
    go_upto_region 19 with fail
    obtain ⟨p123, p124, p125, p126, p127, p128⟩ := cl6_ G64
    go_wp2_with fail
    obtain ⟨k, hk⟩ := KF.out.f7
    refine (laws_markExact.calls k s0_0 (fun q => some q = (.slice A57 l0_1.length c58 : Value).ownBlock) (.slice A57 l0_1.length c58) l0_1 s0_2 s0_3 (fun q => some q = (.slice A60 l0_4.length c61 : Value).ownBlock) (.slice A60 l0_4.length c61) l0_4 s0_5 1 n1 m129 m130 w _ L.out V59.out.row N_V59_V62.out V62.out.row N_V59_V62.out.symm hk).mono ?_
    rintro x w1 ⟨rfl, hr0_, hr1_, hb, hkp⟩
    clear p123 p124 p125 p126 p127 p128
    replace V49 := am_ (V49.out.kept2 hkp N_V49_V59.out N_V49_V62.out)
    replace V50 := am_ (V50.out.kept2 hkp N_V50_V59.out N_V50_V62.out)
    replace V73 := am_ (V73.out.kept2 hkp N_V59_V73.out.symm N_V62_V73.out.symm)
    replace V76 := am_ (V76.out.kept2 hkp N_V59_V76.out.symm N_V62_V76.out.symm)
    replace V93 := am_ (V93.out.kept2 hkp N_V59_V93.out.symm N_V62_V93.out.symm)
    replace V96 := am_ (V96.out.kept2 hkp N_V59_V96.out.symm N_V62_V96.out.symm)
    replace G28 := am_ (G28.out.kept2 V59.out V62.out (by decide) hkp)
    replace G30 := am_ (G30.out.kept2 V59.out V62.out (by decide) hkp)
    replace G47 := am_ (G47.out.kept2 V59.out V62.out (by decide) hkp)
    replace G64 := am_ (G64.out.kept2 V59.out V62.out (by decide) hkp)
    replace G78 := am_ (G78.out.kept2 V59.out V62.out (by decide) hkp)
    replace G98 := am_ (G98.out.kept2 V59.out V62.out (by decide) hkp)
    replace V59 := am_ (RO.of (w := w) hr0_ (Nat.le_refl _))
    replace V62 := am_ (RO.of (w := w) hr1_ (Nat.le_refl _))
    replace L := am_ hb
    clear hb hkp hk hr0_ hr1_
    have hn1 := KF.out.f8
    clear G64
    clear V59 V62
    obtain ⟨p131, p132, p133, p134, p135, p136⟩ := cl6_ G78
    go_wp2_with fail
    obtain ⟨k, hk⟩ := KF.out.f11
    refine (laws_markExact.calls k s1_0 (fun q => some q = (.slice A71 l1_1.length c72 : Value).ownBlock) (.slice A71 l1_1.length c72) l1_1 s1_2 s1_3 (fun q => some q = (.slice A74 l1_4.length c75 : Value).ownBlock) (.slice A74 l1_4.length c75) l1_4 s1_5 n1 n2 m137 m138 w _ L.out V73.out.row N_V73_V76.out V76.out.row N_V73_V76.out.symm hk).mono ?_
    rintro x w1 ⟨rfl, hr0_, hr1_, hb, hkp⟩
    clear p131 p132 p133 p134 p135 p136
    replace V49 := am_ (V49.out.kept2 hkp N_V49_V73.out N_V49_V76.out)
    replace V50 := am_ (V50.out.kept2 hkp N_V50_V73.out N_V50_V76.out)
    replace V93 := am_ (V93.out.kept2 hkp N_V73_V93.out.symm N_V76_V93.out.symm)
    replace V96 := am_ (V96.out.kept2 hkp N_V73_V96.out.symm N_V76_V96.out.symm)
    replace G28 := am_ (G28.out.kept2 V73.out V76.out (by decide) hkp)
    replace G30 := am_ (G30.out.kept2 V73.out V76.out (by decide) hkp)
    replace G47 := am_ (G47.out.kept2 V73.out V76.out (by decide) hkp)
    replace G78 := am_ (G78.out.kept2 V73.out V76.out (by decide) hkp)
    replace G98 := am_ (G98.out.kept2 V73.out V76.out (by decide) hkp)
    replace V73 := am_ (RO.of (w := w) hr0_ (Nat.le_refl _))
    replace V76 := am_ (RO.of (w := w) hr1_ (Nat.le_refl _))
    replace L := am_ hb
    clear hb hkp hk hr0_ hr1_
    have hn2 := KF.out.f12
    clear G78
    clear V73 V76
    obtain ⟨p139, p140, p141, p142, p143, p144⟩ := cl6_ G98
    obtain ⟨p145, p146, p147, p148, p149, p150⟩ := cl6_ G47
    go_wp2_with fail
    obtain ⟨k, hk⟩ := KF.out.f4
    refine (laws_eqExact.calls k r1 A91 c92 r2 r3 r4 A94 c95 r5 r6 r1 A43 c44 r2 r3 r4 A45 c46 r5 r6 true _ (V93.out.c) (V93.out.le) (V96.out.c) (V96.out.le) (V49.out.c) (V49.out.le) (V50.out.c) (V50.out.le) hk).mono ?_
    rintro x w1 ⟨rfl, hb⟩
    clear p139 p140 p141 p142 p143 p144 p145 p146 p147 p148 p149 p150
    replace V49 := vb_ V49 hb
    replace V50 := vb_ V50 hb
    replace V93 := vb_ V93 hb
    replace V96 := vb_ V96 hb
    replace G28 := gb_ G28 hb
    replace G30 := gb_ G30 hb
    replace G47 := gb_ G47 hb
    replace G98 := gb_ G98 hb
    replace L := lb_ L hb
    clear hb hk
    obtain ⟨p151, p152, p153, p154, p155, p156⟩ := cl6_ G98
    go_wp2_with fail
    obtain ⟨k, hk⟩ := KF.out.f15
    refine (laws_markExact.calls k r1 (fun q => some q = (.slice A91 r2.length c92 : Value).ownBlock) (.slice A91 r2.length c92) r2 r3 r4 (fun q => some q = (.slice A94 r5.length c95 : Value).ownBlock) (.slice A94 r5.length c95) r5 r6 1 n3 m157 m158 w _ L.out V93.out.row N_V93_V96.out V96.out.row N_V93_V96.out.symm hk).mono ?_
    rintro x w1 ⟨rfl, hr0_, hr1_, hb, hkp⟩
    clear p151 p152 p153 p154 p155 p156
    replace V49 := am_ (V49.out.kept2 hkp N_V49_V93.out N_V49_V96.out)
    replace V50 := am_ (V50.out.kept2 hkp N_V50_V93.out N_V50_V96.out)
    replace G28 := am_ (G28.out.kept2 V93.out V96.out (by decide) hkp)
    replace G30 := am_ (G30.out.kept2 V93.out V96.out (by decide) hkp)
    replace G47 := am_ (G47.out.kept2 V93.out V96.out (by decide) hkp)
    replace G98 := am_ (G98.out.kept2 V93.out V96.out (by decide) hkp)
    replace V93 := am_ (RO.of (w := w) hr0_ (Nat.le_refl _))
    replace V96 := am_ (RO.of (w := w) hr1_ (Nat.le_refl _))
    replace L := am_ hb
    clear hb hkp hk hr0_ hr1_
    have hn3 := KF.out.f16
    obtain ⟨p159, p160, p161, p162, p163, p164⟩ := cl6_ G98
    go_wp2_with fail
    obtain ⟨k, hk⟩ := KF.out.f19
    have V93_ := V93.out; rw [← KF.out.f17] at V93_
    have V96_ := V96.out; rw [← KF.out.f18] at V96_
    have hcon := laws_heldExact.calls k r1 A91 c92 m157 r3 r4 A94 c95 m158 r6 1 n3 _ V93_.c V93_.le V96_.c V96_.le hk
    rw [KF.out.f17, KF.out.f18] at hcon
    refine (hcon).mono ?_
    rintro x w1 ⟨rfl, hb⟩
    clear p159 p160 p161 p162 p163 p164
    replace V49 := vb_ V49 hb
    replace V50 := vb_ V50 hb
    replace V93 := vb_ V93 hb
    replace V96 := vb_ V96 hb
    replace G28 := gb_ G28 hb
    replace G30 := gb_ G30 hb
    replace G47 := gb_ G47 hb
    replace G98 := gb_ G98 hb
    replace L := lb_ L hb
    clear hb hk
    clear hcon V93_ V96_
    go_upto_region 31 with fail
    refine start_ (n := 11) (S := fun w' => w'.cell? ⟨g27, 0, none⟩ = some (.int .i64 s0_0) ∧ w'.cell? ⟨g27, 1, none⟩ = some (.slice A0_1 l0_1.length c0_1) ∧ w'.cell? ⟨g27, 2, none⟩ = some (.int .i64 s0_2) ∧ w'.cell? ⟨g27, 3, none⟩ = some (.int .i64 s0_3) ∧ w'.cell? ⟨g27, 4, none⟩ = some (.slice A0_4 l0_4.length c0_4) ∧ w'.cell? ⟨g27, 5, none⟩ = some (.int .i64 s0_5) ∧ w'.cell? ⟨g29, 0, none⟩ = some (.int .i64 s1_0) ∧ w'.cell? ⟨g29, 1, none⟩ = some (.slice A1_1 l1_1.length c1_1) ∧ w'.cell? ⟨g29, 2, none⟩ = some (.int .i64 s1_2) ∧ w'.cell? ⟨g29, 3, none⟩ = some (.int .i64 s1_3) ∧ w'.cell? ⟨g29, 4, none⟩ = some (.slice A1_4 l1_4.length c1_4) ∧ w'.cell? ⟨g29, 5, none⟩ = some (.int .i64 s1_5)) (ds := [9]) #[false, false, false, false, false, false, false, false, false, false, false] (by kernel_rfl) rfl rfl (two6_ (dw_ G28) (dw_ G30)) (fun hHeld => ?_)
    have hb := (Below.refl w1.heap.size w1).drew; generalize w1.drew = w1 at hHeld hb ⊢
    replace V49 := vb_ V49 hb
    replace V50 := vb_ V50 hb
    replace V93 := vb_ V93 hb
    replace V96 := vb_ V96 hb
    replace G28 := gb_ G28 hb
    replace G30 := gb_ G30 hb
    replace G47 := gb_ G47 hb
    replace G98 := gb_ G98 hb
    replace L := lb_ L hb
    clear hb
    refine tk_ #[true, false, false, false, false, false, false, false, false, false, false] 0 95 (by kernel_rfl) hHeld ?_
    refine tk_ #[true, false, true, false, false, false, false, false, false, false, false] 2 97 (by kernel_rfl) hHeld ?_
    refine join_ (σ := Value × Value × Value × Value × Value × Value × Nat) 2 #[true, true, true, true, true, true, true, true, true, false, false] (fun s => [(96, .agg #[.int .i64 s0_0, s.1, .int .i64 s0_2, .int .i64 s0_3, s.2.1, .int .i64 s0_5]), (98, .agg #[.int .i64 s1_0, s.2.2.1, .int .i64 s1_2, .int .i64 s1_3, s.2.2.2.1, .int .i64 s1_5]), (99, .tuple #[.agg #[.int .i64 r1, s.2.2.2.2.1, .int .i64 r3, .int .i64 r4, s.2.2.2.2.2.1, .int .i64 r6], .int .i64 r7]), (94, .tuple #[.agg #[.int .i64 r1, s.2.2.2.2.1, .int .i64 r3, .int .i64 r4, s.2.2.2.2.2.1, .int .i64 r6], .int .i64 r7]), (100, .agg #[.int .i64 r1, s.2.2.2.2.1, .int .i64 r3, .int .i64 r4, s.2.2.2.2.2.1, .int .i64 r6]), (101, .int .i64 r7), (15, .pointer (some ⟨s.2.2.2.2.2.2, 0, none⟩))]) (fun s w' => (w'.cell? ⟨g27, 0, none⟩ = some (.int .i64 s0_0) ∧ w'.cell? ⟨g27, 1, none⟩ = some (.slice A0_1 l0_1.length c0_1) ∧ w'.cell? ⟨g27, 2, none⟩ = some (.int .i64 s0_2) ∧ w'.cell? ⟨g27, 3, none⟩ = some (.int .i64 s0_3) ∧ w'.cell? ⟨g27, 4, none⟩ = some (.slice A0_4 l0_4.length c0_4) ∧ w'.cell? ⟨g27, 5, none⟩ = some (.int .i64 s0_5) ∧ w'.cell? ⟨g29, 0, none⟩ = some (.int .i64 s1_0) ∧ w'.cell? ⟨g29, 1, none⟩ = some (.slice A1_1 l1_1.length c1_1) ∧ w'.cell? ⟨g29, 2, none⟩ = some (.int .i64 s1_2) ∧ w'.cell? ⟨g29, 3, none⟩ = some (.int .i64 s1_3) ∧ w'.cell? ⟨g29, 4, none⟩ = some (.slice A1_4 l1_4.length c1_4) ∧ w'.cell? ⟨g29, 5, none⟩ = some (.int .i64 s1_5)) ∧ RO w w' (.slice A43 r2.length c44) r2 ∧ RO w w' (.slice A45 r5.length c46) r5 ∧ RO w w' (.slice A91 r2.length c92) m157 ∧ RO w w' (.slice A94 r5.length c95) m158 ∧ BX w' g27 #[.int .i64 s0_0, .slice A0_1 l0_1.length c0_1, .int .i64 s0_2, .int .i64 s0_3, .slice A0_4 l0_4.length c0_4, .int .i64 s0_5] 42 ∧ BX w' g29 #[.int .i64 s1_0, .slice A1_1 l1_1.length c1_1, .int .i64 s1_2, .int .i64 s1_3, .slice A1_4 l1_4.length c1_4, .int .i64 s1_5] 42 ∧ BX w' g48 #[.int .i64 r1, .slice A43 r2.length c44, .int .i64 r3, .int .i64 r4, .slice A45 r5.length c46, .int .i64 r6] 47 ∧ BX w' g97 #[.int .i64 r1, .slice A91 r2.length c92, .int .i64 r3, .int .i64 r4, .slice A94 r5.length c95, .int .i64 r6] 47 ∧ Below w.heap.size w w' ∧ RO w w' s.2.2.2.2.1 r2 ∧ RO w w' s.2.2.2.2.2.1 r5 ∧ BX w' s.2.2.2.2.2.2 #[.int .i64 0, .slice none 0 0, .int .i64 0, .int .i64 0, .slice none 0 0, .int .i64 0] 47 ∧ w.heap.size ≤ s.2.2.2.2.2.2 ∧ g27 ≠ s.2.2.2.2.2.2 ∧ g29 ≠ s.2.2.2.2.2.2 ∧ g48 ≠ s.2.2.2.2.2.2 ∧ g97 ≠ s.2.2.2.2.2.2) ?cont (fun hJ => ?_)
    case cont =>
     rintro ⟨t0_0, t0_1, t1_0, t1_1, u0_0, u0_1, y0⟩ w1 ⟨hHeld, h0_, h1_, h2_, h3_, h4_, h5_, h6_, h7_, h8_, h9_, h10_, h11_, h12_, h13_, h14_, h15_, h16_⟩
     try dsimp only at hHeld h0_ h1_ h2_ h3_ h4_ h5_ h6_ h7_ h8_ h9_ h10_ h11_ h12_ h13_ h14_ h15_ h16_
     have V49 := am_ h0_; have V50 := am_ h1_; have V93 := am_ h2_; have V96 := am_ h3_; have G28 := am_ h4_; have G30 := am_ h5_; have G47 := am_ h6_; have G98 := am_ h7_; have L := am_ h8_; have Uu0_0 := am_ h9_; have Uu0_1 := am_ h10_; have By0 := am_ h11_; have Ey0 := am_ h12_; have DG28_y0 := am_ h13_; have DG30_y0 := am_ h14_; have DG47_y0 := am_ h15_; have DG98_y0 := am_ h16_
     clear h0_ h1_ h2_ h3_ h4_ h5_ h6_ h7_ h8_ h9_ h10_ h11_ h12_ h13_ h14_ h15_ h16_
     obtain ⟨A165, c166, rfl⟩ := Kd.R_slice Uu0_0.out.row
     obtain ⟨A167, c168, rfl⟩ := Kd.R_slice Uu0_1.out.row
     refine norm_ (a' := ?_) ?_ ?_
     rotate_left
     ·simp only [putAll, Act.put, List.setIfInBounds_toArray, List.set_cons_zero, List.set_cons_succ]
      rfl
     refine last_ (i := 9) (N := none) #[true, true, true, true, true, true, true, true, true, true, false] rfl rfl (by kernel_rfl) (by decide) (fun K hK => ?_)
     obtain ⟨q0, q1, q2, q3, q4, q5, q6, q7, q8, q9, q10, q11⟩ := ck6_ (am_ By0.out.x)
     refine skip_ (w1 := ?_) (by rfl) rfl ?_ ?_
     rotate_left
     ·go_simp
      rfl
     refine hK.out _ _ ?_
     clear hK K q0 q1 q2 q3 q4 q5 q6 q7 q8 q9 q10 q11
     obtain ⟨w1, e1, hB, hst⟩ := store6 By0.out (.int .i64 r1) (.slice A165 r2.length c166) (.int .i64 r3) (.int .i64 r4) (.slice A167 r5.length c168) (.int .i64 r6)
     rw [← e1]; clear e1
     replace V49 := am_ (V49.out.stp hst By0.out (by decide))
     replace V50 := am_ (V50.out.stp hst By0.out (by decide))
     replace V93 := am_ (V93.out.stp hst By0.out (by decide))
     replace V96 := am_ (V96.out.stp hst By0.out (by decide))
     replace G28 := am_ (G28.out.stp hst DG28_y0.out)
     replace G30 := am_ (G30.out.stp hst DG30_y0.out)
     replace G47 := am_ (G47.out.stp hst DG47_y0.out)
     replace G98 := am_ (G98.out.stp hst DG98_y0.out)
     replace Uu0_0 := am_ (Uu0_0.out.stp hst By0.out (by decide))
     replace Uu0_1 := am_ (Uu0_1.out.stp hst By0.out (by decide))
     replace L := am_ (hst.low L.out Ey0.out); replace By0 := am_ hB; clear hB hst
     refine pu_ #[true, true, true, true, true, true, true, true, true, true, true] 10 16 (by kernel_rfl) ?_
     refine done_ (by kernel_rfl) ?_
     clear hHeld Ey0 DG28_y0 DG30_y0 DG47_y0 DG98_y0
     obtain ⟨g170, eg⟩ : ∃ x, x = y0 := ⟨_, rfl⟩
     rw [← eg] at By0 ⊢; clear eg
     have G169 := By0; clear By0
     have V171 := Uu0_0; clear Uu0_0
     have V172 := Uu0_1; clear Uu0_1
     obtain ⟨p173, p174, p175, p176, p177, p178⟩ := cl6_ G169
     obtain ⟨p179, p180, p181, p182, p183, p184⟩ := cl6_ G47
     go_wp2_with fail
     obtain ⟨k, hk⟩ := KF.out.f4
     refine (laws_eqExact.calls k r1 A165 c166 r2 r3 r4 A167 c168 r5 r6 r1 A43 c44 r2 r3 r4 A45 c46 r5 r6 true _ (V171.out.c) (V171.out.le) (V172.out.c) (V172.out.le) (V49.out.c) (V49.out.le) (V50.out.c) (V50.out.le) hk).mono ?_
     rintro x w1 ⟨rfl, hb⟩
     clear p173 p174 p175 p176 p177 p178 p179 p180 p181 p182 p183 p184
     replace V49 := vb_ V49 hb
     replace V50 := vb_ V50 hb
     replace V93 := vb_ V93 hb
     replace V96 := vb_ V96 hb
     replace V171 := vb_ V171 hb
     replace V172 := vb_ V172 hb
     replace G28 := gb_ G28 hb
     replace G30 := gb_ G30 hb
     replace G47 := gb_ G47 hb
     replace G98 := gb_ G98 hb
     replace G169 := gb_ G169 hb
     replace L := lb_ L hb
     clear hb hk
     obtain ⟨p185, p186, p187, p188, p189, p190⟩ := cl6_ G98
     go_wp2_with fail
     obtain ⟨k, hk⟩ := KF.out.f19
     have V93_ := V93.out; rw [← KF.out.f17] at V93_
     have V96_ := V96.out; rw [← KF.out.f18] at V96_
     have hcon := laws_heldExact.calls k r1 A91 c92 m157 r3 r4 A94 c95 m158 r6 1 n3 _ V93_.c V93_.le V96_.c V96_.le hk
     rw [KF.out.f17, KF.out.f18] at hcon
     refine (hcon).mono ?_
     rintro x w1 ⟨rfl, hb⟩
     clear p185 p186 p187 p188 p189 p190
     replace V49 := vb_ V49 hb
     replace V50 := vb_ V50 hb
     replace V93 := vb_ V93 hb
     replace V96 := vb_ V96 hb
     replace V171 := vb_ V171 hb
     replace V172 := vb_ V172 hb
     replace G28 := gb_ G28 hb
     replace G30 := gb_ G30 hb
     replace G47 := gb_ G47 hb
     replace G98 := gb_ G98 hb
     replace G169 := gb_ G169 hb
     replace L := lb_ L hb
     clear hb hk
     clear hcon V93_ V96_
     go_wp2
     go_ret
     exact ⟨rfl, L.out⟩
    refine two_ (i := 1) (j := 8) (Ni := some 96) (Nj := some 15) #[true, true, true, false, false, false, false, false, false, false, false] #[true, false, true, false, false, false, false, false, true, false, false] rfl rfl rfl rfl (by kernel_rfl) (by decide) (by decide) (fun K hK => ?_) (fun K hK => ?_)
    ·skip
     refine goes_ Tryd.func26 (by kernel_rfl) rfl #[.agg #[.int .i64 s0_0, .slice A0_1 l0_1.length c0_1, .int .i64 s0_2, .int .i64 s0_3, .slice A0_4 l0_4.length c0_4, .int .i64 s0_5]] (by rfl) rfl rfl ma_ ?_
     obtain ⟨k, hk⟩ := KF.out.f0
     with_reducible refine (laws_toExact.calls k s0_0 A0_1 c0_1 l0_1 s0_2 s0_3 A0_4 c0_4 l0_4 s0_5 s0_0 l0_1 s0_2 s0_3 l0_4 s0_5 _ (Kd.C_below HR0_1.out L.out) (HC0_1.out) (Kd.C_below HR0_4.out L.out) (HC0_4.out) hk).mono ?_
     rintro x w1 ⟨v0_, v1_, rfl, hr0_, hr1_, hb⟩
     refine ⟨_, rfl, ?_⟩
     obtain ⟨At0_0, ct0_0, rfl⟩ := Kd.R_slice hr0_
     obtain ⟨At0_1, ct0_1, rfl⟩ := Kd.R_slice hr1_
     have Vt0_0 := am_ (RO.of (w := w) hr0_ L.out.size)
     have Vt0_1 := am_ (RO.of (w := w) hr1_ L.out.size)
     replace V49 := vb_ V49 hb
     replace V50 := vb_ V50 hb
     replace V93 := vb_ V93 hb
     replace V96 := vb_ V96 hb
     replace G28 := gb_ G28 hb
     replace G30 := gb_ G30 hb
     replace G47 := gb_ G47 hb
     replace G98 := gb_ G98 hb
     replace L := lb_ L hb
     clear hb hk hr0_ hr1_
     refine hK.out _ _ (⟨G28.out.cell 0 _ rfl, G28.out.cell 1 _ rfl, G28.out.cell 2 _ rfl, G28.out.cell 3 _ rfl, G28.out.cell 4 _ rfl, G28.out.cell 5 _ rfl, G30.out.cell 0 _ rfl, G30.out.cell 1 _ rfl, G30.out.cell 2 _ rfl, G30.out.cell 3 _ rfl, G30.out.cell 4 _ rfl, G30.out.cell 5 _ rfl⟩) (fun hHeld => ?_)
     clear hK K
     refine nr_ ?_
     refine two_ (i := 3) (j := 8) (Ni := some 98) (Nj := some 15) #[true, true, true, true, false, false, false, false, false, false, false] #[true, true, true, false, false, false, false, false, true, false, false] rfl rfl rfl rfl (by kernel_rfl) (by decide) (by decide) (fun K hK => ?_) (fun K hK => ?_)
     ·skip
      refine goes_ Tryd.func26 (by kernel_rfl) rfl #[.agg #[.int .i64 s1_0, .slice A1_1 l1_1.length c1_1, .int .i64 s1_2, .int .i64 s1_3, .slice A1_4 l1_4.length c1_4, .int .i64 s1_5]] (by rfl) rfl rfl ma_ ?_
      obtain ⟨k, hk⟩ := KF.out.f1
      with_reducible refine (laws_toExact.calls k s1_0 A1_1 c1_1 l1_1 s1_2 s1_3 A1_4 c1_4 l1_4 s1_5 s1_0 l1_1 s1_2 s1_3 l1_4 s1_5 _ (Kd.C_below HR1_1.out L.out) (HC1_1.out) (Kd.C_below HR1_4.out L.out) (HC1_4.out) hk).mono ?_
      rintro x w1 ⟨v0_, v1_, rfl, hr0_, hr1_, hb⟩
      refine ⟨_, rfl, ?_⟩
      obtain ⟨At1_0, ct1_0, rfl⟩ := Kd.R_slice hr0_
      obtain ⟨At1_1, ct1_1, rfl⟩ := Kd.R_slice hr1_
      have Vt1_0 := am_ (RO.of (w := w) hr0_ L.out.size)
      have Vt1_1 := am_ (RO.of (w := w) hr1_ L.out.size)
      replace V49 := vb_ V49 hb
      replace V50 := vb_ V50 hb
      replace V93 := vb_ V93 hb
      replace V96 := vb_ V96 hb
      replace G28 := gb_ G28 hb
      replace G30 := gb_ G30 hb
      replace G47 := gb_ G47 hb
      replace G98 := gb_ G98 hb
      replace Vt0_0 := vb_ Vt0_0 hb
      replace Vt0_1 := vb_ Vt0_1 hb
      replace L := lb_ L hb
      clear hb hk hr0_ hr1_
      refine hK.out _ _ (⟨G28.out.cell 0 _ rfl, G28.out.cell 1 _ rfl, G28.out.cell 2 _ rfl, G28.out.cell 3 _ rfl, G28.out.cell 4 _ rfl, G28.out.cell 5 _ rfl, G30.out.cell 0 _ rfl, G30.out.cell 1 _ rfl, G30.out.cell 2 _ rfl, G30.out.cell 3 _ rfl, G30.out.cell 4 _ rfl, G30.out.cell 5 _ rfl⟩) (fun hHeld => ?_)
      clear hK K
      refine nr_ ?_
      refine two_ (i := 4) (j := 8) (Ni := some 99) (Nj := some 15) #[true, true, true, true, true, false, false, false, false, false, false] #[true, true, true, true, false, false, false, false, true, false, false] rfl rfl rfl rfl (by kernel_rfl) (by decide) (by decide) (fun K hK => ?_) (fun K hK => ?_)
      ·skip
       refine goes_ Tryd.func37 (by kernel_rfl) rfl #[.agg #[.int .i64 s0_0, .slice At0_0 l0_1.length ct0_0, .int .i64 s0_2, .int .i64 s0_3, .slice At0_1 l0_4.length ct0_1, .int .i64 s0_5], .agg #[.int .i64 s1_0, .slice At1_0 l1_1.length ct1_0, .int .i64 s1_2, .int .i64 s1_3, .slice At1_1 l1_4.length ct1_1, .int .i64 s1_5]] (by rfl) rfl rfl ma_ ?_
       with_reducible refine (impl_MultiplyExacts.calls s0_0 At0_0 ct0_0 l0_1 s0_2 s0_3 At0_1 ct0_1 l0_4 s0_5 s1_0 At1_0 ct1_0 l1_1 s1_2 s1_3 At1_1 ct1_1 l1_4 s1_5 r1 r2 r3 r4 r5 r6 r7 _ (Vt0_0.out.c) (Vt0_0.out.le) (Vt0_1.out.c) (Vt0_1.out.le) (Vt1_0.out.c) (Vt1_0.out.le) (Vt1_1.out.c) (Vt1_1.out.le) (HT.out.below L.out) KF.out.f3).mono ?_
       rintro x w1 ⟨v0_, v1_, rfl, hr0_, hr1_, hb⟩
       refine ⟨_, rfl, ?_⟩
       obtain ⟨Au0_0, cu0_0, rfl⟩ := Kd.R_slice hr0_
       obtain ⟨Au0_1, cu0_1, rfl⟩ := Kd.R_slice hr1_
       have Uu0_0 := am_ (RO.of (w := w) hr0_ L.out.size)
       have Uu0_1 := am_ (RO.of (w := w) hr1_ L.out.size)
       replace V49 := vb_ V49 hb
       replace V50 := vb_ V50 hb
       replace V93 := vb_ V93 hb
       replace V96 := vb_ V96 hb
       replace G28 := gb_ G28 hb
       replace G30 := gb_ G30 hb
       replace G47 := gb_ G47 hb
       replace G98 := gb_ G98 hb
       replace Vt0_0 := vb_ Vt0_0 hb
       replace Vt0_1 := vb_ Vt0_1 hb
       replace Vt1_0 := vb_ Vt1_0 hb
       replace Vt1_1 := vb_ Vt1_1 hb
       replace L := lb_ L hb
       clear hb hr0_ hr1_
       refine hK.out _ _ (⟨G28.out.cell 0 _ rfl, G28.out.cell 1 _ rfl, G28.out.cell 2 _ rfl, G28.out.cell 3 _ rfl, G28.out.cell 4 _ rfl, G28.out.cell 5 _ rfl, G30.out.cell 0 _ rfl, G30.out.cell 1 _ rfl, G30.out.cell 2 _ rfl, G30.out.cell 3 _ rfl, G30.out.cell 4 _ rfl, G30.out.cell 5 _ rfl⟩) (fun hHeld => ?_)
       clear hK K
       refine nr_ ?_
       refine pu_ #[true, true, true, true, true, true, false, false, false, false, false] 5 94 (by kernel_rfl) ?_
       refine pu_ #[true, true, true, true, true, true, true, false, false, false, false] 6 100 (by kernel_rfl) ?_
       refine pu_ #[true, true, true, true, true, true, true, true, false, false, false] 7 101 (by kernel_rfl) ?_
       refine one_ (i := 8) (N := some 15) #[true, true, true, true, true, true, true, true, true, false, false] rfl rfl (by kernel_rfl) (by decide) (fun K hK => ?_)
       refine box_step ?hg (N := 15) ?hd (cs := #[.int .i64 0, .slice none 0 0, .int .i64 0, .int .i64 0, .slice none 0 0, .int .i64 0]) (t := 47) ?hr ?_; (case hd => rfl); (case hg => rfl); (case hr => first | (go_simp; done) | (go_simp; rfl))
       intro y0 hg w1 hbox hb
       have By0 := am_ (show BX w1 y0 #[.int .i64 0, .slice none 0 0, .int .i64 0, .int .i64 0, .slice none 0 0, .int .i64 0] 47 from ⟨hbox⟩)
       have Ey0 := am_ (show w.heap.size ≤ y0 from by rw [hg]; exact L.out.size)
       have DG28_y0 := ny_ G28 hg
       have DG30_y0 := ny_ G30 hg
       have DG47_y0 := ny_ G47 hg
       have DG98_y0 := ny_ G98 hg
       replace V49 := vb_ V49 hb
       replace V50 := vb_ V50 hb
       replace V93 := vb_ V93 hb
       replace V96 := vb_ V96 hb
       replace G28 := gb_ G28 hb
       replace G30 := gb_ G30 hb
       replace G47 := gb_ G47 hb
       replace G98 := gb_ G98 hb
       replace Vt0_0 := vb_ Vt0_0 hb
       replace Vt0_1 := vb_ Vt0_1 hb
       replace Vt1_0 := vb_ Vt1_0 hb
       replace Vt1_1 := vb_ Vt1_1 hb
       replace Uu0_0 := am_ (Uu0_0.out.below hb)
       replace Uu0_1 := am_ (Uu0_1.out.below hb)
       replace L := lb_ L hb
       clear hb hg hbox
       refine hK.out _ _ (⟨G28.out.cell 0 _ rfl, G28.out.cell 1 _ rfl, G28.out.cell 2 _ rfl, G28.out.cell 3 _ rfl, G28.out.cell 4 _ rfl, G28.out.cell 5 _ rfl, G30.out.cell 0 _ rfl, G30.out.cell 1 _ rfl, G30.out.cell 2 _ rfl, G30.out.cell 3 _ rfl, G30.out.cell 4 _ rfl, G30.out.cell 5 _ rfl⟩) (fun hHeld => ?_)
       clear hK K
       refine nr_ ?_
       exact norm_ (by simp only [putAll, Act.put, List.setIfInBounds_toArray, List.set_cons_zero, List.set_cons_succ] <;> rfl) (hJ ((.slice At0_0 l0_1.length ct0_0), (.slice At0_1 l0_4.length ct0_1), (.slice At1_0 l1_1.length ct1_0), (.slice At1_1 l1_4.length ct1_1), (.slice Au0_0 r2.length cu0_0), (.slice Au0_1 r5.length cu0_1), y0) _ ⟨hHeld, V49.out, V50.out, V93.out, V96.out, G28.out, G30.out, G47.out, G98.out, L.out, Uu0_0.out, Uu0_1.out, By0.out, Ey0.out, DG28_y0.out, DG30_y0.out, DG47_y0.out, DG98_y0.out⟩)
      ·skip
       refine box_step ?hg (N := 15) ?hd (cs := #[.int .i64 0, .slice none 0 0, .int .i64 0, .int .i64 0, .slice none 0 0, .int .i64 0]) (t := 47) ?hr ?_; (case hd => rfl); (case hg => rfl); (case hr => first | (go_simp; done) | (go_simp; rfl))
       intro y0 hg w1 hbox hb
       have By0 := am_ (show BX w1 y0 #[.int .i64 0, .slice none 0 0, .int .i64 0, .int .i64 0, .slice none 0 0, .int .i64 0] 47 from ⟨hbox⟩)
       have Ey0 := am_ (show w.heap.size ≤ y0 from by rw [hg]; exact L.out.size)
       have DG28_y0 := ny_ G28 hg
       have DG30_y0 := ny_ G30 hg
       have DG47_y0 := ny_ G47 hg
       have DG98_y0 := ny_ G98 hg
       replace V49 := vb_ V49 hb
       replace V50 := vb_ V50 hb
       replace V93 := vb_ V93 hb
       replace V96 := vb_ V96 hb
       replace G28 := gb_ G28 hb
       replace G30 := gb_ G30 hb
       replace G47 := gb_ G47 hb
       replace G98 := gb_ G98 hb
       replace Vt0_0 := vb_ Vt0_0 hb
       replace Vt0_1 := vb_ Vt0_1 hb
       replace Vt1_0 := vb_ Vt1_0 hb
       replace Vt1_1 := vb_ Vt1_1 hb
       replace L := lb_ L hb
       clear hb hg hbox
       refine hK.out _ _ (⟨G28.out.cell 0 _ rfl, G28.out.cell 1 _ rfl, G28.out.cell 2 _ rfl, G28.out.cell 3 _ rfl, G28.out.cell 4 _ rfl, G28.out.cell 5 _ rfl, G30.out.cell 0 _ rfl, G30.out.cell 1 _ rfl, G30.out.cell 2 _ rfl, G30.out.cell 3 _ rfl, G30.out.cell 4 _ rfl, G30.out.cell 5 _ rfl⟩) (fun hHeld => ?_)
       clear hK K
       refine nr_ ?_
       refine one_ (i := 4) (N := some 99) #[true, true, true, true, true, false, false, false, true, false, false] rfl rfl (by kernel_rfl) (by decide) (fun K hK => ?_)
       refine goes_ Tryd.func37 (by kernel_rfl) rfl #[.agg #[.int .i64 s0_0, .slice At0_0 l0_1.length ct0_0, .int .i64 s0_2, .int .i64 s0_3, .slice At0_1 l0_4.length ct0_1, .int .i64 s0_5], .agg #[.int .i64 s1_0, .slice At1_0 l1_1.length ct1_0, .int .i64 s1_2, .int .i64 s1_3, .slice At1_1 l1_4.length ct1_1, .int .i64 s1_5]] (by rfl) rfl rfl ma_ ?_
       with_reducible refine (impl_MultiplyExacts.calls s0_0 At0_0 ct0_0 l0_1 s0_2 s0_3 At0_1 ct0_1 l0_4 s0_5 s1_0 At1_0 ct1_0 l1_1 s1_2 s1_3 At1_1 ct1_1 l1_4 s1_5 r1 r2 r3 r4 r5 r6 r7 _ (Vt0_0.out.c) (Vt0_0.out.le) (Vt0_1.out.c) (Vt0_1.out.le) (Vt1_0.out.c) (Vt1_0.out.le) (Vt1_1.out.c) (Vt1_1.out.le) (HT.out.below L.out) KF.out.f3).mono ?_
       rintro x w1 ⟨v0_, v1_, rfl, hr0_, hr1_, hb⟩
       refine ⟨_, rfl, ?_⟩
       obtain ⟨Au0_0, cu0_0, rfl⟩ := Kd.R_slice hr0_
       obtain ⟨Au0_1, cu0_1, rfl⟩ := Kd.R_slice hr1_
       have Uu0_0 := am_ (RO.of (w := w) hr0_ L.out.size)
       have Uu0_1 := am_ (RO.of (w := w) hr1_ L.out.size)
       replace V49 := vb_ V49 hb
       replace V50 := vb_ V50 hb
       replace V93 := vb_ V93 hb
       replace V96 := vb_ V96 hb
       replace G28 := gb_ G28 hb
       replace G30 := gb_ G30 hb
       replace G47 := gb_ G47 hb
       replace G98 := gb_ G98 hb
       replace Vt0_0 := vb_ Vt0_0 hb
       replace Vt0_1 := vb_ Vt0_1 hb
       replace Vt1_0 := vb_ Vt1_0 hb
       replace Vt1_1 := vb_ Vt1_1 hb
       replace By0 := am_ (By0.out.below hb)
       replace L := lb_ L hb
       clear hb hr0_ hr1_
       refine hK.out _ _ (⟨G28.out.cell 0 _ rfl, G28.out.cell 1 _ rfl, G28.out.cell 2 _ rfl, G28.out.cell 3 _ rfl, G28.out.cell 4 _ rfl, G28.out.cell 5 _ rfl, G30.out.cell 0 _ rfl, G30.out.cell 1 _ rfl, G30.out.cell 2 _ rfl, G30.out.cell 3 _ rfl, G30.out.cell 4 _ rfl, G30.out.cell 5 _ rfl⟩) (fun hHeld => ?_)
       clear hK K
       refine nr_ ?_
       refine pu_ #[true, true, true, true, true, true, false, false, true, false, false] 5 94 (by kernel_rfl) ?_
       refine pu_ #[true, true, true, true, true, true, true, false, true, false, false] 6 100 (by kernel_rfl) ?_
       refine pu_ #[true, true, true, true, true, true, true, true, true, false, false] 7 101 (by kernel_rfl) ?_
       exact norm_ (by simp only [putAll, Act.put, List.setIfInBounds_toArray, List.set_cons_zero, List.set_cons_succ] <;> rfl) (hJ ((.slice At0_0 l0_1.length ct0_0), (.slice At0_1 l0_4.length ct0_1), (.slice At1_0 l1_1.length ct1_0), (.slice At1_1 l1_4.length ct1_1), (.slice Au0_0 r2.length cu0_0), (.slice Au0_1 r5.length cu0_1), y0) _ ⟨hHeld, V49.out, V50.out, V93.out, V96.out, G28.out, G30.out, G47.out, G98.out, L.out, Uu0_0.out, Uu0_1.out, By0.out, Ey0.out, DG28_y0.out, DG30_y0.out, DG47_y0.out, DG98_y0.out⟩)
     ·skip
      refine box_step ?hg (N := 15) ?hd (cs := #[.int .i64 0, .slice none 0 0, .int .i64 0, .int .i64 0, .slice none 0 0, .int .i64 0]) (t := 47) ?hr ?_; (case hd => rfl); (case hg => rfl); (case hr => first | (go_simp; done) | (go_simp; rfl))
      intro y0 hg w1 hbox hb
      have By0 := am_ (show BX w1 y0 #[.int .i64 0, .slice none 0 0, .int .i64 0, .int .i64 0, .slice none 0 0, .int .i64 0] 47 from ⟨hbox⟩)
      have Ey0 := am_ (show w.heap.size ≤ y0 from by rw [hg]; exact L.out.size)
      have DG28_y0 := ny_ G28 hg
      have DG30_y0 := ny_ G30 hg
      have DG47_y0 := ny_ G47 hg
      have DG98_y0 := ny_ G98 hg
      replace V49 := vb_ V49 hb
      replace V50 := vb_ V50 hb
      replace V93 := vb_ V93 hb
      replace V96 := vb_ V96 hb
      replace G28 := gb_ G28 hb
      replace G30 := gb_ G30 hb
      replace G47 := gb_ G47 hb
      replace G98 := gb_ G98 hb
      replace Vt0_0 := vb_ Vt0_0 hb
      replace Vt0_1 := vb_ Vt0_1 hb
      replace L := lb_ L hb
      clear hb hg hbox
      refine hK.out _ _ (⟨G28.out.cell 0 _ rfl, G28.out.cell 1 _ rfl, G28.out.cell 2 _ rfl, G28.out.cell 3 _ rfl, G28.out.cell 4 _ rfl, G28.out.cell 5 _ rfl, G30.out.cell 0 _ rfl, G30.out.cell 1 _ rfl, G30.out.cell 2 _ rfl, G30.out.cell 3 _ rfl, G30.out.cell 4 _ rfl, G30.out.cell 5 _ rfl⟩) (fun hHeld => ?_)
      clear hK K
      refine nr_ ?_
      refine one_ (i := 3) (N := some 98) #[true, true, true, true, false, false, false, false, true, false, false] rfl rfl (by kernel_rfl) (by decide) (fun K hK => ?_)
      refine goes_ Tryd.func26 (by kernel_rfl) rfl #[.agg #[.int .i64 s1_0, .slice A1_1 l1_1.length c1_1, .int .i64 s1_2, .int .i64 s1_3, .slice A1_4 l1_4.length c1_4, .int .i64 s1_5]] (by rfl) rfl rfl ma_ ?_
      obtain ⟨k, hk⟩ := KF.out.f1
      with_reducible refine (laws_toExact.calls k s1_0 A1_1 c1_1 l1_1 s1_2 s1_3 A1_4 c1_4 l1_4 s1_5 s1_0 l1_1 s1_2 s1_3 l1_4 s1_5 _ (Kd.C_below HR1_1.out L.out) (HC1_1.out) (Kd.C_below HR1_4.out L.out) (HC1_4.out) hk).mono ?_
      rintro x w1 ⟨v0_, v1_, rfl, hr0_, hr1_, hb⟩
      refine ⟨_, rfl, ?_⟩
      obtain ⟨At1_0, ct1_0, rfl⟩ := Kd.R_slice hr0_
      obtain ⟨At1_1, ct1_1, rfl⟩ := Kd.R_slice hr1_
      have Vt1_0 := am_ (RO.of (w := w) hr0_ L.out.size)
      have Vt1_1 := am_ (RO.of (w := w) hr1_ L.out.size)
      replace V49 := vb_ V49 hb
      replace V50 := vb_ V50 hb
      replace V93 := vb_ V93 hb
      replace V96 := vb_ V96 hb
      replace G28 := gb_ G28 hb
      replace G30 := gb_ G30 hb
      replace G47 := gb_ G47 hb
      replace G98 := gb_ G98 hb
      replace Vt0_0 := vb_ Vt0_0 hb
      replace Vt0_1 := vb_ Vt0_1 hb
      replace By0 := am_ (By0.out.below hb)
      replace L := lb_ L hb
      clear hb hk hr0_ hr1_
      refine hK.out _ _ (⟨G28.out.cell 0 _ rfl, G28.out.cell 1 _ rfl, G28.out.cell 2 _ rfl, G28.out.cell 3 _ rfl, G28.out.cell 4 _ rfl, G28.out.cell 5 _ rfl, G30.out.cell 0 _ rfl, G30.out.cell 1 _ rfl, G30.out.cell 2 _ rfl, G30.out.cell 3 _ rfl, G30.out.cell 4 _ rfl, G30.out.cell 5 _ rfl⟩) (fun hHeld => ?_)
      clear hK K
      refine nr_ ?_
      refine one_ (i := 4) (N := some 99) #[true, true, true, true, true, false, false, false, true, false, false] rfl rfl (by kernel_rfl) (by decide) (fun K hK => ?_)
      refine goes_ Tryd.func37 (by kernel_rfl) rfl #[.agg #[.int .i64 s0_0, .slice At0_0 l0_1.length ct0_0, .int .i64 s0_2, .int .i64 s0_3, .slice At0_1 l0_4.length ct0_1, .int .i64 s0_5], .agg #[.int .i64 s1_0, .slice At1_0 l1_1.length ct1_0, .int .i64 s1_2, .int .i64 s1_3, .slice At1_1 l1_4.length ct1_1, .int .i64 s1_5]] (by rfl) rfl rfl ma_ ?_
      with_reducible refine (impl_MultiplyExacts.calls s0_0 At0_0 ct0_0 l0_1 s0_2 s0_3 At0_1 ct0_1 l0_4 s0_5 s1_0 At1_0 ct1_0 l1_1 s1_2 s1_3 At1_1 ct1_1 l1_4 s1_5 r1 r2 r3 r4 r5 r6 r7 _ (Vt0_0.out.c) (Vt0_0.out.le) (Vt0_1.out.c) (Vt0_1.out.le) (Vt1_0.out.c) (Vt1_0.out.le) (Vt1_1.out.c) (Vt1_1.out.le) (HT.out.below L.out) KF.out.f3).mono ?_
      rintro x w1 ⟨v0_, v1_, rfl, hr0_, hr1_, hb⟩
      refine ⟨_, rfl, ?_⟩
      obtain ⟨Au0_0, cu0_0, rfl⟩ := Kd.R_slice hr0_
      obtain ⟨Au0_1, cu0_1, rfl⟩ := Kd.R_slice hr1_
      have Uu0_0 := am_ (RO.of (w := w) hr0_ L.out.size)
      have Uu0_1 := am_ (RO.of (w := w) hr1_ L.out.size)
      replace V49 := vb_ V49 hb
      replace V50 := vb_ V50 hb
      replace V93 := vb_ V93 hb
      replace V96 := vb_ V96 hb
      replace G28 := gb_ G28 hb
      replace G30 := gb_ G30 hb
      replace G47 := gb_ G47 hb
      replace G98 := gb_ G98 hb
      replace Vt0_0 := vb_ Vt0_0 hb
      replace Vt0_1 := vb_ Vt0_1 hb
      replace By0 := am_ (By0.out.below hb)
      replace Vt1_0 := vb_ Vt1_0 hb
      replace Vt1_1 := vb_ Vt1_1 hb
      replace L := lb_ L hb
      clear hb hr0_ hr1_
      refine hK.out _ _ (⟨G28.out.cell 0 _ rfl, G28.out.cell 1 _ rfl, G28.out.cell 2 _ rfl, G28.out.cell 3 _ rfl, G28.out.cell 4 _ rfl, G28.out.cell 5 _ rfl, G30.out.cell 0 _ rfl, G30.out.cell 1 _ rfl, G30.out.cell 2 _ rfl, G30.out.cell 3 _ rfl, G30.out.cell 4 _ rfl, G30.out.cell 5 _ rfl⟩) (fun hHeld => ?_)
      clear hK K
      refine nr_ ?_
      refine pu_ #[true, true, true, true, true, true, false, false, true, false, false] 5 94 (by kernel_rfl) ?_
      refine pu_ #[true, true, true, true, true, true, true, false, true, false, false] 6 100 (by kernel_rfl) ?_
      refine pu_ #[true, true, true, true, true, true, true, true, true, false, false] 7 101 (by kernel_rfl) ?_
      exact norm_ (by simp only [putAll, Act.put, List.setIfInBounds_toArray, List.set_cons_zero, List.set_cons_succ] <;> rfl) (hJ ((.slice At0_0 l0_1.length ct0_0), (.slice At0_1 l0_4.length ct0_1), (.slice At1_0 l1_1.length ct1_0), (.slice At1_1 l1_4.length ct1_1), (.slice Au0_0 r2.length cu0_0), (.slice Au0_1 r5.length cu0_1), y0) _ ⟨hHeld, V49.out, V50.out, V93.out, V96.out, G28.out, G30.out, G47.out, G98.out, L.out, Uu0_0.out, Uu0_1.out, By0.out, Ey0.out, DG28_y0.out, DG30_y0.out, DG47_y0.out, DG98_y0.out⟩)
    ·skip
     refine box_step ?hg (N := 15) ?hd (cs := #[.int .i64 0, .slice none 0 0, .int .i64 0, .int .i64 0, .slice none 0 0, .int .i64 0]) (t := 47) ?hr ?_; (case hd => rfl); (case hg => rfl); (case hr => first | (go_simp; done) | (go_simp; rfl))
     intro y0 hg w1 hbox hb
     have By0 := am_ (show BX w1 y0 #[.int .i64 0, .slice none 0 0, .int .i64 0, .int .i64 0, .slice none 0 0, .int .i64 0] 47 from ⟨hbox⟩)
     have Ey0 := am_ (show w.heap.size ≤ y0 from by rw [hg]; exact L.out.size)
     have DG28_y0 := ny_ G28 hg
     have DG30_y0 := ny_ G30 hg
     have DG47_y0 := ny_ G47 hg
     have DG98_y0 := ny_ G98 hg
     replace V49 := vb_ V49 hb
     replace V50 := vb_ V50 hb
     replace V93 := vb_ V93 hb
     replace V96 := vb_ V96 hb
     replace G28 := gb_ G28 hb
     replace G30 := gb_ G30 hb
     replace G47 := gb_ G47 hb
     replace G98 := gb_ G98 hb
     replace L := lb_ L hb
     clear hb hg hbox
     refine hK.out _ _ (⟨G28.out.cell 0 _ rfl, G28.out.cell 1 _ rfl, G28.out.cell 2 _ rfl, G28.out.cell 3 _ rfl, G28.out.cell 4 _ rfl, G28.out.cell 5 _ rfl, G30.out.cell 0 _ rfl, G30.out.cell 1 _ rfl, G30.out.cell 2 _ rfl, G30.out.cell 3 _ rfl, G30.out.cell 4 _ rfl, G30.out.cell 5 _ rfl⟩) (fun hHeld => ?_)
     clear hK K
     refine nr_ ?_
     refine one_ (i := 1) (N := some 96) #[true, true, true, false, false, false, false, false, true, false, false] rfl rfl (by kernel_rfl) (by decide) (fun K hK => ?_)
     refine goes_ Tryd.func26 (by kernel_rfl) rfl #[.agg #[.int .i64 s0_0, .slice A0_1 l0_1.length c0_1, .int .i64 s0_2, .int .i64 s0_3, .slice A0_4 l0_4.length c0_4, .int .i64 s0_5]] (by rfl) rfl rfl ma_ ?_
     obtain ⟨k, hk⟩ := KF.out.f0
     with_reducible refine (laws_toExact.calls k s0_0 A0_1 c0_1 l0_1 s0_2 s0_3 A0_4 c0_4 l0_4 s0_5 s0_0 l0_1 s0_2 s0_3 l0_4 s0_5 _ (Kd.C_below HR0_1.out L.out) (HC0_1.out) (Kd.C_below HR0_4.out L.out) (HC0_4.out) hk).mono ?_
     rintro x w1 ⟨v0_, v1_, rfl, hr0_, hr1_, hb⟩
     refine ⟨_, rfl, ?_⟩
     obtain ⟨At0_0, ct0_0, rfl⟩ := Kd.R_slice hr0_
     obtain ⟨At0_1, ct0_1, rfl⟩ := Kd.R_slice hr1_
     have Vt0_0 := am_ (RO.of (w := w) hr0_ L.out.size)
     have Vt0_1 := am_ (RO.of (w := w) hr1_ L.out.size)
     replace V49 := vb_ V49 hb
     replace V50 := vb_ V50 hb
     replace V93 := vb_ V93 hb
     replace V96 := vb_ V96 hb
     replace G28 := gb_ G28 hb
     replace G30 := gb_ G30 hb
     replace G47 := gb_ G47 hb
     replace G98 := gb_ G98 hb
     replace By0 := am_ (By0.out.below hb)
     replace L := lb_ L hb
     clear hb hk hr0_ hr1_
     refine hK.out _ _ (⟨G28.out.cell 0 _ rfl, G28.out.cell 1 _ rfl, G28.out.cell 2 _ rfl, G28.out.cell 3 _ rfl, G28.out.cell 4 _ rfl, G28.out.cell 5 _ rfl, G30.out.cell 0 _ rfl, G30.out.cell 1 _ rfl, G30.out.cell 2 _ rfl, G30.out.cell 3 _ rfl, G30.out.cell 4 _ rfl, G30.out.cell 5 _ rfl⟩) (fun hHeld => ?_)
     clear hK K
     refine nr_ ?_
     refine one_ (i := 3) (N := some 98) #[true, true, true, true, false, false, false, false, true, false, false] rfl rfl (by kernel_rfl) (by decide) (fun K hK => ?_)
     refine goes_ Tryd.func26 (by kernel_rfl) rfl #[.agg #[.int .i64 s1_0, .slice A1_1 l1_1.length c1_1, .int .i64 s1_2, .int .i64 s1_3, .slice A1_4 l1_4.length c1_4, .int .i64 s1_5]] (by rfl) rfl rfl ma_ ?_
     obtain ⟨k, hk⟩ := KF.out.f1
     with_reducible refine (laws_toExact.calls k s1_0 A1_1 c1_1 l1_1 s1_2 s1_3 A1_4 c1_4 l1_4 s1_5 s1_0 l1_1 s1_2 s1_3 l1_4 s1_5 _ (Kd.C_below HR1_1.out L.out) (HC1_1.out) (Kd.C_below HR1_4.out L.out) (HC1_4.out) hk).mono ?_
     rintro x w1 ⟨v0_, v1_, rfl, hr0_, hr1_, hb⟩
     refine ⟨_, rfl, ?_⟩
     obtain ⟨At1_0, ct1_0, rfl⟩ := Kd.R_slice hr0_
     obtain ⟨At1_1, ct1_1, rfl⟩ := Kd.R_slice hr1_
     have Vt1_0 := am_ (RO.of (w := w) hr0_ L.out.size)
     have Vt1_1 := am_ (RO.of (w := w) hr1_ L.out.size)
     replace V49 := vb_ V49 hb
     replace V50 := vb_ V50 hb
     replace V93 := vb_ V93 hb
     replace V96 := vb_ V96 hb
     replace G28 := gb_ G28 hb
     replace G30 := gb_ G30 hb
     replace G47 := gb_ G47 hb
     replace G98 := gb_ G98 hb
     replace By0 := am_ (By0.out.below hb)
     replace Vt0_0 := vb_ Vt0_0 hb
     replace Vt0_1 := vb_ Vt0_1 hb
     replace L := lb_ L hb
     clear hb hk hr0_ hr1_
     refine hK.out _ _ (⟨G28.out.cell 0 _ rfl, G28.out.cell 1 _ rfl, G28.out.cell 2 _ rfl, G28.out.cell 3 _ rfl, G28.out.cell 4 _ rfl, G28.out.cell 5 _ rfl, G30.out.cell 0 _ rfl, G30.out.cell 1 _ rfl, G30.out.cell 2 _ rfl, G30.out.cell 3 _ rfl, G30.out.cell 4 _ rfl, G30.out.cell 5 _ rfl⟩) (fun hHeld => ?_)
     clear hK K
     refine nr_ ?_
     refine one_ (i := 4) (N := some 99) #[true, true, true, true, true, false, false, false, true, false, false] rfl rfl (by kernel_rfl) (by decide) (fun K hK => ?_)
     refine goes_ Tryd.func37 (by kernel_rfl) rfl #[.agg #[.int .i64 s0_0, .slice At0_0 l0_1.length ct0_0, .int .i64 s0_2, .int .i64 s0_3, .slice At0_1 l0_4.length ct0_1, .int .i64 s0_5], .agg #[.int .i64 s1_0, .slice At1_0 l1_1.length ct1_0, .int .i64 s1_2, .int .i64 s1_3, .slice At1_1 l1_4.length ct1_1, .int .i64 s1_5]] (by rfl) rfl rfl ma_ ?_
     with_reducible refine (impl_MultiplyExacts.calls s0_0 At0_0 ct0_0 l0_1 s0_2 s0_3 At0_1 ct0_1 l0_4 s0_5 s1_0 At1_0 ct1_0 l1_1 s1_2 s1_3 At1_1 ct1_1 l1_4 s1_5 r1 r2 r3 r4 r5 r6 r7 _ (Vt0_0.out.c) (Vt0_0.out.le) (Vt0_1.out.c) (Vt0_1.out.le) (Vt1_0.out.c) (Vt1_0.out.le) (Vt1_1.out.c) (Vt1_1.out.le) (HT.out.below L.out) KF.out.f3).mono ?_
     rintro x w1 ⟨v0_, v1_, rfl, hr0_, hr1_, hb⟩
     refine ⟨_, rfl, ?_⟩
     obtain ⟨Au0_0, cu0_0, rfl⟩ := Kd.R_slice hr0_
     obtain ⟨Au0_1, cu0_1, rfl⟩ := Kd.R_slice hr1_
     have Uu0_0 := am_ (RO.of (w := w) hr0_ L.out.size)
     have Uu0_1 := am_ (RO.of (w := w) hr1_ L.out.size)
     replace V49 := vb_ V49 hb
     replace V50 := vb_ V50 hb
     replace V93 := vb_ V93 hb
     replace V96 := vb_ V96 hb
     replace G28 := gb_ G28 hb
     replace G30 := gb_ G30 hb
     replace G47 := gb_ G47 hb
     replace G98 := gb_ G98 hb
     replace By0 := am_ (By0.out.below hb)
     replace Vt0_0 := vb_ Vt0_0 hb
     replace Vt0_1 := vb_ Vt0_1 hb
     replace Vt1_0 := vb_ Vt1_0 hb
     replace Vt1_1 := vb_ Vt1_1 hb
     replace L := lb_ L hb
     clear hb hr0_ hr1_
     refine hK.out _ _ (⟨G28.out.cell 0 _ rfl, G28.out.cell 1 _ rfl, G28.out.cell 2 _ rfl, G28.out.cell 3 _ rfl, G28.out.cell 4 _ rfl, G28.out.cell 5 _ rfl, G30.out.cell 0 _ rfl, G30.out.cell 1 _ rfl, G30.out.cell 2 _ rfl, G30.out.cell 3 _ rfl, G30.out.cell 4 _ rfl, G30.out.cell 5 _ rfl⟩) (fun hHeld => ?_)
     clear hK K
     refine nr_ ?_
     refine pu_ #[true, true, true, true, true, true, false, false, true, false, false] 5 94 (by kernel_rfl) ?_
     refine pu_ #[true, true, true, true, true, true, true, false, true, false, false] 6 100 (by kernel_rfl) ?_
     refine pu_ #[true, true, true, true, true, true, true, true, true, false, false] 7 101 (by kernel_rfl) ?_
     exact norm_ (by simp only [putAll, Act.put, List.setIfInBounds_toArray, List.set_cons_zero, List.set_cons_succ] <;> rfl) (hJ ((.slice At0_0 l0_1.length ct0_0), (.slice At0_1 l0_4.length ct0_1), (.slice At1_0 l1_1.length ct1_0), (.slice At1_1 l1_4.length ct1_1), (.slice Au0_0 r2.length cu0_0), (.slice Au0_1 r5.length cu0_1), y0) _ ⟨hHeld, V49.out, V50.out, V93.out, V96.out, G28.out, G30.out, G47.out, G98.out, L.out, Uu0_0.out, Uu0_1.out, By0.out, Ey0.out, DG28_y0.out, DG30_y0.out, DG47_y0.out, DG98_y0.out⟩)
   refine two_ (i := 1) (j := 8) (Ni := some 29) (Nj := some 6) #[true, true, true, false, false, false, false, false, false, false, false] #[true, false, true, false, false, false, false, false, true, false, false] rfl rfl rfl rfl (by kernel_rfl) (by decide) (by decide) (fun K hK => ?_) (fun K hK => ?_)
   ·skip
    refine goes_ Tryd.func26 (by kernel_rfl) rfl #[.agg #[.int .i64 s0_0, .slice A0_1 l0_1.length c0_1, .int .i64 s0_2, .int .i64 s0_3, .slice A0_4 l0_4.length c0_4, .int .i64 s0_5]] (by rfl) rfl rfl ma_ ?_
    obtain ⟨k, hk⟩ := KF.out.f0
    with_reducible refine (laws_toExact.calls k s0_0 A0_1 c0_1 l0_1 s0_2 s0_3 A0_4 c0_4 l0_4 s0_5 s0_0 l0_1 s0_2 s0_3 l0_4 s0_5 _ (Kd.C_below HR0_1.out L.out) (HC0_1.out) (Kd.C_below HR0_4.out L.out) (HC0_4.out) hk).mono ?_
    rintro x w1 ⟨v0_, v1_, rfl, hr0_, hr1_, hb⟩
    refine ⟨_, rfl, ?_⟩
    obtain ⟨At0_0, ct0_0, rfl⟩ := Kd.R_slice hr0_
    obtain ⟨At0_1, ct0_1, rfl⟩ := Kd.R_slice hr1_
    have Vt0_0 := am_ (RO.of (w := w) hr0_ L.out.size)
    have Vt0_1 := am_ (RO.of (w := w) hr1_ L.out.size)
    replace G28 := gb_ G28 hb
    replace G30 := gb_ G30 hb
    replace L := lb_ L hb
    clear hb hk hr0_ hr1_
    refine hK.out _ _ (⟨G28.out.cell 0 _ rfl, G28.out.cell 1 _ rfl, G28.out.cell 2 _ rfl, G28.out.cell 3 _ rfl, G28.out.cell 4 _ rfl, G28.out.cell 5 _ rfl, G30.out.cell 0 _ rfl, G30.out.cell 1 _ rfl, G30.out.cell 2 _ rfl, G30.out.cell 3 _ rfl, G30.out.cell 4 _ rfl, G30.out.cell 5 _ rfl⟩) (fun hHeld => ?_)
    clear hK K
    refine nr_ ?_
    refine two_ (i := 3) (j := 8) (Ni := some 31) (Nj := some 6) #[true, true, true, true, false, false, false, false, false, false, false] #[true, true, true, false, false, false, false, false, true, false, false] rfl rfl rfl rfl (by kernel_rfl) (by decide) (by decide) (fun K hK => ?_) (fun K hK => ?_)
    ·skip
     refine goes_ Tryd.func26 (by kernel_rfl) rfl #[.agg #[.int .i64 s1_0, .slice A1_1 l1_1.length c1_1, .int .i64 s1_2, .int .i64 s1_3, .slice A1_4 l1_4.length c1_4, .int .i64 s1_5]] (by rfl) rfl rfl ma_ ?_
     obtain ⟨k, hk⟩ := KF.out.f1
     with_reducible refine (laws_toExact.calls k s1_0 A1_1 c1_1 l1_1 s1_2 s1_3 A1_4 c1_4 l1_4 s1_5 s1_0 l1_1 s1_2 s1_3 l1_4 s1_5 _ (Kd.C_below HR1_1.out L.out) (HC1_1.out) (Kd.C_below HR1_4.out L.out) (HC1_4.out) hk).mono ?_
     rintro x w1 ⟨v0_, v1_, rfl, hr0_, hr1_, hb⟩
     refine ⟨_, rfl, ?_⟩
     obtain ⟨At1_0, ct1_0, rfl⟩ := Kd.R_slice hr0_
     obtain ⟨At1_1, ct1_1, rfl⟩ := Kd.R_slice hr1_
     have Vt1_0 := am_ (RO.of (w := w) hr0_ L.out.size)
     have Vt1_1 := am_ (RO.of (w := w) hr1_ L.out.size)
     replace G28 := gb_ G28 hb
     replace G30 := gb_ G30 hb
     replace Vt0_0 := vb_ Vt0_0 hb
     replace Vt0_1 := vb_ Vt0_1 hb
     replace L := lb_ L hb
     clear hb hk hr0_ hr1_
     refine hK.out _ _ (⟨G28.out.cell 0 _ rfl, G28.out.cell 1 _ rfl, G28.out.cell 2 _ rfl, G28.out.cell 3 _ rfl, G28.out.cell 4 _ rfl, G28.out.cell 5 _ rfl, G30.out.cell 0 _ rfl, G30.out.cell 1 _ rfl, G30.out.cell 2 _ rfl, G30.out.cell 3 _ rfl, G30.out.cell 4 _ rfl, G30.out.cell 5 _ rfl⟩) (fun hHeld => ?_)
     clear hK K
     refine nr_ ?_
     refine two_ (i := 4) (j := 8) (Ni := some 32) (Nj := some 6) #[true, true, true, true, true, false, false, false, false, false, false] #[true, true, true, true, false, false, false, false, true, false, false] rfl rfl rfl rfl (by kernel_rfl) (by decide) (by decide) (fun K hK => ?_) (fun K hK => ?_)
     ·skip
      refine goes_ Tryd.func36 (by kernel_rfl) rfl #[.agg #[.int .i64 s0_0, .slice At0_0 l0_1.length ct0_0, .int .i64 s0_2, .int .i64 s0_3, .slice At0_1 l0_4.length ct0_1, .int .i64 s0_5], .agg #[.int .i64 s1_0, .slice At1_0 l1_1.length ct1_0, .int .i64 s1_2, .int .i64 s1_3, .slice At1_1 l1_4.length ct1_1, .int .i64 s1_5]] (by rfl) rfl rfl ma_ ?_
      obtain ⟨k, hk⟩ := KF.out.f2
      with_reducible refine (spec_MultiplyExacts.calls k s0_0 At0_0 ct0_0 l0_1 s0_2 s0_3 At0_1 ct0_1 l0_4 s0_5 s1_0 At1_0 ct1_0 l1_1 s1_2 s1_3 At1_1 ct1_1 l1_4 s1_5 r1 r2 r3 r4 r5 r6 r7 _ (Vt0_0.out.c) (Vt0_0.out.le) (Vt0_1.out.c) (Vt0_1.out.le) (Vt1_0.out.c) (Vt1_0.out.le) (Vt1_1.out.c) (Vt1_1.out.le) hk).mono ?_
      rintro x w1 ⟨v0_, v1_, rfl, hr0_, hr1_, hb⟩
      refine ⟨_, rfl, ?_⟩
      obtain ⟨Au0_0, cu0_0, rfl⟩ := Kd.R_slice hr0_
      obtain ⟨Au0_1, cu0_1, rfl⟩ := Kd.R_slice hr1_
      have Uu0_0 := am_ (RO.of (w := w) hr0_ L.out.size)
      have Uu0_1 := am_ (RO.of (w := w) hr1_ L.out.size)
      replace G28 := gb_ G28 hb
      replace G30 := gb_ G30 hb
      replace Vt0_0 := vb_ Vt0_0 hb
      replace Vt0_1 := vb_ Vt0_1 hb
      replace Vt1_0 := vb_ Vt1_0 hb
      replace Vt1_1 := vb_ Vt1_1 hb
      replace L := lb_ L hb
      clear hb hk hr0_ hr1_
      refine hK.out _ _ (⟨G28.out.cell 0 _ rfl, G28.out.cell 1 _ rfl, G28.out.cell 2 _ rfl, G28.out.cell 3 _ rfl, G28.out.cell 4 _ rfl, G28.out.cell 5 _ rfl, G30.out.cell 0 _ rfl, G30.out.cell 1 _ rfl, G30.out.cell 2 _ rfl, G30.out.cell 3 _ rfl, G30.out.cell 4 _ rfl, G30.out.cell 5 _ rfl⟩) (fun hHeld => ?_)
      clear hK K
      refine nr_ ?_
      refine pu_ #[true, true, true, true, true, true, false, false, false, false, false] 5 27 (by kernel_rfl) ?_
      refine pu_ #[true, true, true, true, true, true, true, false, false, false, false] 6 33 (by kernel_rfl) ?_
      refine pu_ #[true, true, true, true, true, true, true, true, false, false, false] 7 34 (by kernel_rfl) ?_
      refine one_ (i := 8) (N := some 6) #[true, true, true, true, true, true, true, true, true, false, false] rfl rfl (by kernel_rfl) (by decide) (fun K hK => ?_)
      refine box_step ?hg (N := 6) ?hd (cs := #[.int .i64 0, .slice none 0 0, .int .i64 0, .int .i64 0, .slice none 0 0, .int .i64 0]) (t := 47) ?hr ?_; (case hd => rfl); (case hg => rfl); (case hr => first | (go_simp; done) | (go_simp; rfl))
      intro y0 hg w1 hbox hb
      have By0 := am_ (show BX w1 y0 #[.int .i64 0, .slice none 0 0, .int .i64 0, .int .i64 0, .slice none 0 0, .int .i64 0] 47 from ⟨hbox⟩)
      have Ey0 := am_ (show w.heap.size ≤ y0 from by rw [hg]; exact L.out.size)
      have DG28_y0 := ny_ G28 hg
      have DG30_y0 := ny_ G30 hg
      replace G28 := gb_ G28 hb
      replace G30 := gb_ G30 hb
      replace Vt0_0 := vb_ Vt0_0 hb
      replace Vt0_1 := vb_ Vt0_1 hb
      replace Vt1_0 := vb_ Vt1_0 hb
      replace Vt1_1 := vb_ Vt1_1 hb
      replace Uu0_0 := am_ (Uu0_0.out.below hb)
      replace Uu0_1 := am_ (Uu0_1.out.below hb)
      replace L := lb_ L hb
      clear hb hg hbox
      refine hK.out _ _ (⟨G28.out.cell 0 _ rfl, G28.out.cell 1 _ rfl, G28.out.cell 2 _ rfl, G28.out.cell 3 _ rfl, G28.out.cell 4 _ rfl, G28.out.cell 5 _ rfl, G30.out.cell 0 _ rfl, G30.out.cell 1 _ rfl, G30.out.cell 2 _ rfl, G30.out.cell 3 _ rfl, G30.out.cell 4 _ rfl, G30.out.cell 5 _ rfl⟩) (fun hHeld => ?_)
      clear hK K
      refine nr_ ?_
      exact norm_ (by simp only [putAll, Act.put, List.setIfInBounds_toArray, List.set_cons_zero, List.set_cons_succ] <;> rfl) (hJ ((.slice At0_0 l0_1.length ct0_0), (.slice At0_1 l0_4.length ct0_1), (.slice At1_0 l1_1.length ct1_0), (.slice At1_1 l1_4.length ct1_1), (.slice Au0_0 r2.length cu0_0), (.slice Au0_1 r5.length cu0_1), y0) _ ⟨hHeld, G28.out, G30.out, L.out, Uu0_0.out, Uu0_1.out, By0.out, Ey0.out, DG28_y0.out, DG30_y0.out⟩)
     ·skip
      refine box_step ?hg (N := 6) ?hd (cs := #[.int .i64 0, .slice none 0 0, .int .i64 0, .int .i64 0, .slice none 0 0, .int .i64 0]) (t := 47) ?hr ?_; (case hd => rfl); (case hg => rfl); (case hr => first | (go_simp; done) | (go_simp; rfl))
      intro y0 hg w1 hbox hb
      have By0 := am_ (show BX w1 y0 #[.int .i64 0, .slice none 0 0, .int .i64 0, .int .i64 0, .slice none 0 0, .int .i64 0] 47 from ⟨hbox⟩)
      have Ey0 := am_ (show w.heap.size ≤ y0 from by rw [hg]; exact L.out.size)
      have DG28_y0 := ny_ G28 hg
      have DG30_y0 := ny_ G30 hg
      replace G28 := gb_ G28 hb
      replace G30 := gb_ G30 hb
      replace Vt0_0 := vb_ Vt0_0 hb
      replace Vt0_1 := vb_ Vt0_1 hb
      replace Vt1_0 := vb_ Vt1_0 hb
      replace Vt1_1 := vb_ Vt1_1 hb
      replace L := lb_ L hb
      clear hb hg hbox
      refine hK.out _ _ (⟨G28.out.cell 0 _ rfl, G28.out.cell 1 _ rfl, G28.out.cell 2 _ rfl, G28.out.cell 3 _ rfl, G28.out.cell 4 _ rfl, G28.out.cell 5 _ rfl, G30.out.cell 0 _ rfl, G30.out.cell 1 _ rfl, G30.out.cell 2 _ rfl, G30.out.cell 3 _ rfl, G30.out.cell 4 _ rfl, G30.out.cell 5 _ rfl⟩) (fun hHeld => ?_)
      clear hK K
      refine nr_ ?_
      refine one_ (i := 4) (N := some 32) #[true, true, true, true, true, false, false, false, true, false, false] rfl rfl (by kernel_rfl) (by decide) (fun K hK => ?_)
      refine goes_ Tryd.func36 (by kernel_rfl) rfl #[.agg #[.int .i64 s0_0, .slice At0_0 l0_1.length ct0_0, .int .i64 s0_2, .int .i64 s0_3, .slice At0_1 l0_4.length ct0_1, .int .i64 s0_5], .agg #[.int .i64 s1_0, .slice At1_0 l1_1.length ct1_0, .int .i64 s1_2, .int .i64 s1_3, .slice At1_1 l1_4.length ct1_1, .int .i64 s1_5]] (by rfl) rfl rfl ma_ ?_
      obtain ⟨k, hk⟩ := KF.out.f2
      with_reducible refine (spec_MultiplyExacts.calls k s0_0 At0_0 ct0_0 l0_1 s0_2 s0_3 At0_1 ct0_1 l0_4 s0_5 s1_0 At1_0 ct1_0 l1_1 s1_2 s1_3 At1_1 ct1_1 l1_4 s1_5 r1 r2 r3 r4 r5 r6 r7 _ (Vt0_0.out.c) (Vt0_0.out.le) (Vt0_1.out.c) (Vt0_1.out.le) (Vt1_0.out.c) (Vt1_0.out.le) (Vt1_1.out.c) (Vt1_1.out.le) hk).mono ?_
      rintro x w1 ⟨v0_, v1_, rfl, hr0_, hr1_, hb⟩
      refine ⟨_, rfl, ?_⟩
      obtain ⟨Au0_0, cu0_0, rfl⟩ := Kd.R_slice hr0_
      obtain ⟨Au0_1, cu0_1, rfl⟩ := Kd.R_slice hr1_
      have Uu0_0 := am_ (RO.of (w := w) hr0_ L.out.size)
      have Uu0_1 := am_ (RO.of (w := w) hr1_ L.out.size)
      replace G28 := gb_ G28 hb
      replace G30 := gb_ G30 hb
      replace Vt0_0 := vb_ Vt0_0 hb
      replace Vt0_1 := vb_ Vt0_1 hb
      replace Vt1_0 := vb_ Vt1_0 hb
      replace Vt1_1 := vb_ Vt1_1 hb
      replace By0 := am_ (By0.out.below hb)
      replace L := lb_ L hb
      clear hb hk hr0_ hr1_
      refine hK.out _ _ (⟨G28.out.cell 0 _ rfl, G28.out.cell 1 _ rfl, G28.out.cell 2 _ rfl, G28.out.cell 3 _ rfl, G28.out.cell 4 _ rfl, G28.out.cell 5 _ rfl, G30.out.cell 0 _ rfl, G30.out.cell 1 _ rfl, G30.out.cell 2 _ rfl, G30.out.cell 3 _ rfl, G30.out.cell 4 _ rfl, G30.out.cell 5 _ rfl⟩) (fun hHeld => ?_)
      clear hK K
      refine nr_ ?_
      refine pu_ #[true, true, true, true, true, true, false, false, true, false, false] 5 27 (by kernel_rfl) ?_
      refine pu_ #[true, true, true, true, true, true, true, false, true, false, false] 6 33 (by kernel_rfl) ?_
      refine pu_ #[true, true, true, true, true, true, true, true, true, false, false] 7 34 (by kernel_rfl) ?_
      exact norm_ (by simp only [putAll, Act.put, List.setIfInBounds_toArray, List.set_cons_zero, List.set_cons_succ] <;> rfl) (hJ ((.slice At0_0 l0_1.length ct0_0), (.slice At0_1 l0_4.length ct0_1), (.slice At1_0 l1_1.length ct1_0), (.slice At1_1 l1_4.length ct1_1), (.slice Au0_0 r2.length cu0_0), (.slice Au0_1 r5.length cu0_1), y0) _ ⟨hHeld, G28.out, G30.out, L.out, Uu0_0.out, Uu0_1.out, By0.out, Ey0.out, DG28_y0.out, DG30_y0.out⟩)
    ·skip
     refine box_step ?hg (N := 6) ?hd (cs := #[.int .i64 0, .slice none 0 0, .int .i64 0, .int .i64 0, .slice none 0 0, .int .i64 0]) (t := 47) ?hr ?_; (case hd => rfl); (case hg => rfl); (case hr => first | (go_simp; done) | (go_simp; rfl))
     intro y0 hg w1 hbox hb
     have By0 := am_ (show BX w1 y0 #[.int .i64 0, .slice none 0 0, .int .i64 0, .int .i64 0, .slice none 0 0, .int .i64 0] 47 from ⟨hbox⟩)
     have Ey0 := am_ (show w.heap.size ≤ y0 from by rw [hg]; exact L.out.size)
     have DG28_y0 := ny_ G28 hg
     have DG30_y0 := ny_ G30 hg
     replace G28 := gb_ G28 hb
     replace G30 := gb_ G30 hb
     replace Vt0_0 := vb_ Vt0_0 hb
     replace Vt0_1 := vb_ Vt0_1 hb
     replace L := lb_ L hb
     clear hb hg hbox
     refine hK.out _ _ (⟨G28.out.cell 0 _ rfl, G28.out.cell 1 _ rfl, G28.out.cell 2 _ rfl, G28.out.cell 3 _ rfl, G28.out.cell 4 _ rfl, G28.out.cell 5 _ rfl, G30.out.cell 0 _ rfl, G30.out.cell 1 _ rfl, G30.out.cell 2 _ rfl, G30.out.cell 3 _ rfl, G30.out.cell 4 _ rfl, G30.out.cell 5 _ rfl⟩) (fun hHeld => ?_)
     clear hK K
     refine nr_ ?_
     refine one_ (i := 3) (N := some 31) #[true, true, true, true, false, false, false, false, true, false, false] rfl rfl (by kernel_rfl) (by decide) (fun K hK => ?_)
     refine goes_ Tryd.func26 (by kernel_rfl) rfl #[.agg #[.int .i64 s1_0, .slice A1_1 l1_1.length c1_1, .int .i64 s1_2, .int .i64 s1_3, .slice A1_4 l1_4.length c1_4, .int .i64 s1_5]] (by rfl) rfl rfl ma_ ?_
     obtain ⟨k, hk⟩ := KF.out.f1
     with_reducible refine (laws_toExact.calls k s1_0 A1_1 c1_1 l1_1 s1_2 s1_3 A1_4 c1_4 l1_4 s1_5 s1_0 l1_1 s1_2 s1_3 l1_4 s1_5 _ (Kd.C_below HR1_1.out L.out) (HC1_1.out) (Kd.C_below HR1_4.out L.out) (HC1_4.out) hk).mono ?_
     rintro x w1 ⟨v0_, v1_, rfl, hr0_, hr1_, hb⟩
     refine ⟨_, rfl, ?_⟩
     obtain ⟨At1_0, ct1_0, rfl⟩ := Kd.R_slice hr0_
     obtain ⟨At1_1, ct1_1, rfl⟩ := Kd.R_slice hr1_
     have Vt1_0 := am_ (RO.of (w := w) hr0_ L.out.size)
     have Vt1_1 := am_ (RO.of (w := w) hr1_ L.out.size)
     replace G28 := gb_ G28 hb
     replace G30 := gb_ G30 hb
     replace Vt0_0 := vb_ Vt0_0 hb
     replace Vt0_1 := vb_ Vt0_1 hb
     replace By0 := am_ (By0.out.below hb)
     replace L := lb_ L hb
     clear hb hk hr0_ hr1_
     refine hK.out _ _ (⟨G28.out.cell 0 _ rfl, G28.out.cell 1 _ rfl, G28.out.cell 2 _ rfl, G28.out.cell 3 _ rfl, G28.out.cell 4 _ rfl, G28.out.cell 5 _ rfl, G30.out.cell 0 _ rfl, G30.out.cell 1 _ rfl, G30.out.cell 2 _ rfl, G30.out.cell 3 _ rfl, G30.out.cell 4 _ rfl, G30.out.cell 5 _ rfl⟩) (fun hHeld => ?_)
     clear hK K
     refine nr_ ?_
     refine one_ (i := 4) (N := some 32) #[true, true, true, true, true, false, false, false, true, false, false] rfl rfl (by kernel_rfl) (by decide) (fun K hK => ?_)
     refine goes_ Tryd.func36 (by kernel_rfl) rfl #[.agg #[.int .i64 s0_0, .slice At0_0 l0_1.length ct0_0, .int .i64 s0_2, .int .i64 s0_3, .slice At0_1 l0_4.length ct0_1, .int .i64 s0_5], .agg #[.int .i64 s1_0, .slice At1_0 l1_1.length ct1_0, .int .i64 s1_2, .int .i64 s1_3, .slice At1_1 l1_4.length ct1_1, .int .i64 s1_5]] (by rfl) rfl rfl ma_ ?_
     obtain ⟨k, hk⟩ := KF.out.f2
     with_reducible refine (spec_MultiplyExacts.calls k s0_0 At0_0 ct0_0 l0_1 s0_2 s0_3 At0_1 ct0_1 l0_4 s0_5 s1_0 At1_0 ct1_0 l1_1 s1_2 s1_3 At1_1 ct1_1 l1_4 s1_5 r1 r2 r3 r4 r5 r6 r7 _ (Vt0_0.out.c) (Vt0_0.out.le) (Vt0_1.out.c) (Vt0_1.out.le) (Vt1_0.out.c) (Vt1_0.out.le) (Vt1_1.out.c) (Vt1_1.out.le) hk).mono ?_
     rintro x w1 ⟨v0_, v1_, rfl, hr0_, hr1_, hb⟩
     refine ⟨_, rfl, ?_⟩
     obtain ⟨Au0_0, cu0_0, rfl⟩ := Kd.R_slice hr0_
     obtain ⟨Au0_1, cu0_1, rfl⟩ := Kd.R_slice hr1_
     have Uu0_0 := am_ (RO.of (w := w) hr0_ L.out.size)
     have Uu0_1 := am_ (RO.of (w := w) hr1_ L.out.size)
     replace G28 := gb_ G28 hb
     replace G30 := gb_ G30 hb
     replace Vt0_0 := vb_ Vt0_0 hb
     replace Vt0_1 := vb_ Vt0_1 hb
     replace By0 := am_ (By0.out.below hb)
     replace Vt1_0 := vb_ Vt1_0 hb
     replace Vt1_1 := vb_ Vt1_1 hb
     replace L := lb_ L hb
     clear hb hk hr0_ hr1_
     refine hK.out _ _ (⟨G28.out.cell 0 _ rfl, G28.out.cell 1 _ rfl, G28.out.cell 2 _ rfl, G28.out.cell 3 _ rfl, G28.out.cell 4 _ rfl, G28.out.cell 5 _ rfl, G30.out.cell 0 _ rfl, G30.out.cell 1 _ rfl, G30.out.cell 2 _ rfl, G30.out.cell 3 _ rfl, G30.out.cell 4 _ rfl, G30.out.cell 5 _ rfl⟩) (fun hHeld => ?_)
     clear hK K
     refine nr_ ?_
     refine pu_ #[true, true, true, true, true, true, false, false, true, false, false] 5 27 (by kernel_rfl) ?_
     refine pu_ #[true, true, true, true, true, true, true, false, true, false, false] 6 33 (by kernel_rfl) ?_
     refine pu_ #[true, true, true, true, true, true, true, true, true, false, false] 7 34 (by kernel_rfl) ?_
     exact norm_ (by simp only [putAll, Act.put, List.setIfInBounds_toArray, List.set_cons_zero, List.set_cons_succ] <;> rfl) (hJ ((.slice At0_0 l0_1.length ct0_0), (.slice At0_1 l0_4.length ct0_1), (.slice At1_0 l1_1.length ct1_0), (.slice At1_1 l1_4.length ct1_1), (.slice Au0_0 r2.length cu0_0), (.slice Au0_1 r5.length cu0_1), y0) _ ⟨hHeld, G28.out, G30.out, L.out, Uu0_0.out, Uu0_1.out, By0.out, Ey0.out, DG28_y0.out, DG30_y0.out⟩)
   ·skip
    refine box_step ?hg (N := 6) ?hd (cs := #[.int .i64 0, .slice none 0 0, .int .i64 0, .int .i64 0, .slice none 0 0, .int .i64 0]) (t := 47) ?hr ?_; (case hd => rfl); (case hg => rfl); (case hr => first | (go_simp; done) | (go_simp; rfl))
    intro y0 hg w1 hbox hb
    have By0 := am_ (show BX w1 y0 #[.int .i64 0, .slice none 0 0, .int .i64 0, .int .i64 0, .slice none 0 0, .int .i64 0] 47 from ⟨hbox⟩)
    have Ey0 := am_ (show w.heap.size ≤ y0 from by rw [hg]; exact L.out.size)
    have DG28_y0 := ny_ G28 hg
    have DG30_y0 := ny_ G30 hg
    replace G28 := gb_ G28 hb
    replace G30 := gb_ G30 hb
    replace L := lb_ L hb
    clear hb hg hbox
    refine hK.out _ _ (⟨G28.out.cell 0 _ rfl, G28.out.cell 1 _ rfl, G28.out.cell 2 _ rfl, G28.out.cell 3 _ rfl, G28.out.cell 4 _ rfl, G28.out.cell 5 _ rfl, G30.out.cell 0 _ rfl, G30.out.cell 1 _ rfl, G30.out.cell 2 _ rfl, G30.out.cell 3 _ rfl, G30.out.cell 4 _ rfl, G30.out.cell 5 _ rfl⟩) (fun hHeld => ?_)
    clear hK K
    refine nr_ ?_
    refine one_ (i := 1) (N := some 29) #[true, true, true, false, false, false, false, false, true, false, false] rfl rfl (by kernel_rfl) (by decide) (fun K hK => ?_)
    refine goes_ Tryd.func26 (by kernel_rfl) rfl #[.agg #[.int .i64 s0_0, .slice A0_1 l0_1.length c0_1, .int .i64 s0_2, .int .i64 s0_3, .slice A0_4 l0_4.length c0_4, .int .i64 s0_5]] (by rfl) rfl rfl ma_ ?_
    obtain ⟨k, hk⟩ := KF.out.f0
    with_reducible refine (laws_toExact.calls k s0_0 A0_1 c0_1 l0_1 s0_2 s0_3 A0_4 c0_4 l0_4 s0_5 s0_0 l0_1 s0_2 s0_3 l0_4 s0_5 _ (Kd.C_below HR0_1.out L.out) (HC0_1.out) (Kd.C_below HR0_4.out L.out) (HC0_4.out) hk).mono ?_
    rintro x w1 ⟨v0_, v1_, rfl, hr0_, hr1_, hb⟩
    refine ⟨_, rfl, ?_⟩
    obtain ⟨At0_0, ct0_0, rfl⟩ := Kd.R_slice hr0_
    obtain ⟨At0_1, ct0_1, rfl⟩ := Kd.R_slice hr1_
    have Vt0_0 := am_ (RO.of (w := w) hr0_ L.out.size)
    have Vt0_1 := am_ (RO.of (w := w) hr1_ L.out.size)
    replace G28 := gb_ G28 hb
    replace G30 := gb_ G30 hb
    replace By0 := am_ (By0.out.below hb)
    replace L := lb_ L hb
    clear hb hk hr0_ hr1_
    refine hK.out _ _ (⟨G28.out.cell 0 _ rfl, G28.out.cell 1 _ rfl, G28.out.cell 2 _ rfl, G28.out.cell 3 _ rfl, G28.out.cell 4 _ rfl, G28.out.cell 5 _ rfl, G30.out.cell 0 _ rfl, G30.out.cell 1 _ rfl, G30.out.cell 2 _ rfl, G30.out.cell 3 _ rfl, G30.out.cell 4 _ rfl, G30.out.cell 5 _ rfl⟩) (fun hHeld => ?_)
    clear hK K
    refine nr_ ?_
    refine one_ (i := 3) (N := some 31) #[true, true, true, true, false, false, false, false, true, false, false] rfl rfl (by kernel_rfl) (by decide) (fun K hK => ?_)
    refine goes_ Tryd.func26 (by kernel_rfl) rfl #[.agg #[.int .i64 s1_0, .slice A1_1 l1_1.length c1_1, .int .i64 s1_2, .int .i64 s1_3, .slice A1_4 l1_4.length c1_4, .int .i64 s1_5]] (by rfl) rfl rfl ma_ ?_
    obtain ⟨k, hk⟩ := KF.out.f1
    with_reducible refine (laws_toExact.calls k s1_0 A1_1 c1_1 l1_1 s1_2 s1_3 A1_4 c1_4 l1_4 s1_5 s1_0 l1_1 s1_2 s1_3 l1_4 s1_5 _ (Kd.C_below HR1_1.out L.out) (HC1_1.out) (Kd.C_below HR1_4.out L.out) (HC1_4.out) hk).mono ?_
    rintro x w1 ⟨v0_, v1_, rfl, hr0_, hr1_, hb⟩
    refine ⟨_, rfl, ?_⟩
    obtain ⟨At1_0, ct1_0, rfl⟩ := Kd.R_slice hr0_
    obtain ⟨At1_1, ct1_1, rfl⟩ := Kd.R_slice hr1_
    have Vt1_0 := am_ (RO.of (w := w) hr0_ L.out.size)
    have Vt1_1 := am_ (RO.of (w := w) hr1_ L.out.size)
    replace G28 := gb_ G28 hb
    replace G30 := gb_ G30 hb
    replace By0 := am_ (By0.out.below hb)
    replace Vt0_0 := vb_ Vt0_0 hb
    replace Vt0_1 := vb_ Vt0_1 hb
    replace L := lb_ L hb
    clear hb hk hr0_ hr1_
    refine hK.out _ _ (⟨G28.out.cell 0 _ rfl, G28.out.cell 1 _ rfl, G28.out.cell 2 _ rfl, G28.out.cell 3 _ rfl, G28.out.cell 4 _ rfl, G28.out.cell 5 _ rfl, G30.out.cell 0 _ rfl, G30.out.cell 1 _ rfl, G30.out.cell 2 _ rfl, G30.out.cell 3 _ rfl, G30.out.cell 4 _ rfl, G30.out.cell 5 _ rfl⟩) (fun hHeld => ?_)
    clear hK K
    refine nr_ ?_
    refine one_ (i := 4) (N := some 32) #[true, true, true, true, true, false, false, false, true, false, false] rfl rfl (by kernel_rfl) (by decide) (fun K hK => ?_)
    refine goes_ Tryd.func36 (by kernel_rfl) rfl #[.agg #[.int .i64 s0_0, .slice At0_0 l0_1.length ct0_0, .int .i64 s0_2, .int .i64 s0_3, .slice At0_1 l0_4.length ct0_1, .int .i64 s0_5], .agg #[.int .i64 s1_0, .slice At1_0 l1_1.length ct1_0, .int .i64 s1_2, .int .i64 s1_3, .slice At1_1 l1_4.length ct1_1, .int .i64 s1_5]] (by rfl) rfl rfl ma_ ?_
    obtain ⟨k, hk⟩ := KF.out.f2
    with_reducible refine (spec_MultiplyExacts.calls k s0_0 At0_0 ct0_0 l0_1 s0_2 s0_3 At0_1 ct0_1 l0_4 s0_5 s1_0 At1_0 ct1_0 l1_1 s1_2 s1_3 At1_1 ct1_1 l1_4 s1_5 r1 r2 r3 r4 r5 r6 r7 _ (Vt0_0.out.c) (Vt0_0.out.le) (Vt0_1.out.c) (Vt0_1.out.le) (Vt1_0.out.c) (Vt1_0.out.le) (Vt1_1.out.c) (Vt1_1.out.le) hk).mono ?_
    rintro x w1 ⟨v0_, v1_, rfl, hr0_, hr1_, hb⟩
    refine ⟨_, rfl, ?_⟩
    obtain ⟨Au0_0, cu0_0, rfl⟩ := Kd.R_slice hr0_
    obtain ⟨Au0_1, cu0_1, rfl⟩ := Kd.R_slice hr1_
    have Uu0_0 := am_ (RO.of (w := w) hr0_ L.out.size)
    have Uu0_1 := am_ (RO.of (w := w) hr1_ L.out.size)
    replace G28 := gb_ G28 hb
    replace G30 := gb_ G30 hb
    replace By0 := am_ (By0.out.below hb)
    replace Vt0_0 := vb_ Vt0_0 hb
    replace Vt0_1 := vb_ Vt0_1 hb
    replace Vt1_0 := vb_ Vt1_0 hb
    replace Vt1_1 := vb_ Vt1_1 hb
    replace L := lb_ L hb
    clear hb hk hr0_ hr1_
    refine hK.out _ _ (⟨G28.out.cell 0 _ rfl, G28.out.cell 1 _ rfl, G28.out.cell 2 _ rfl, G28.out.cell 3 _ rfl, G28.out.cell 4 _ rfl, G28.out.cell 5 _ rfl, G30.out.cell 0 _ rfl, G30.out.cell 1 _ rfl, G30.out.cell 2 _ rfl, G30.out.cell 3 _ rfl, G30.out.cell 4 _ rfl, G30.out.cell 5 _ rfl⟩) (fun hHeld => ?_)
    clear hK K
    refine nr_ ?_
    refine pu_ #[true, true, true, true, true, true, false, false, true, false, false] 5 27 (by kernel_rfl) ?_
    refine pu_ #[true, true, true, true, true, true, true, false, true, false, false] 6 33 (by kernel_rfl) ?_
    refine pu_ #[true, true, true, true, true, true, true, true, true, false, false] 7 34 (by kernel_rfl) ?_
    exact norm_ (by simp only [putAll, Act.put, List.setIfInBounds_toArray, List.set_cons_zero, List.set_cons_succ] <;> rfl) (hJ ((.slice At0_0 l0_1.length ct0_0), (.slice At0_1 l0_4.length ct0_1), (.slice At1_0 l1_1.length ct1_0), (.slice At1_1 l1_4.length ct1_1), (.slice Au0_0 r2.length cu0_0), (.slice Au0_1 r5.length cu0_1), y0) _ ⟨hHeld, G28.out, G30.out, L.out, Uu0_0.out, Uu0_1.out, By0.out, Ey0.out, DG28_y0.out, DG30_y0.out⟩)
end Go.Proofs.YtghhphndbbefjaaDoor
