/- The law FnWholes walked, with its answers known: it answers true. No conditions of ours. -/
import Derived.Test.YtlkomiiijhphnaaDoorLawD
import Derived.Test.YtlkomiiijhphnaaDoorBnd0
import Derived.Test.YtlkomiiijhphnaaDoorBnd1
import Derived.Test.YtlkomiiijhphnaaDoorG26
import Derived.Test.YtlkomiiijhphnaaDoorBndB
import Derived.Test.YtlkomiiijhphnaaDoorBnd10
import Derived.Test.YtlkomiiijhphnaaDoorG15
import Derived.Test.YtlkomiiijhphnaaDoorG16
import Derived.Test.YtlkomiiijhphnaaDoorG18
import Derived.Test.YtlkomiiijhphnaaDoorX8
import Derived.BigRegion
namespace Go.Proofs.YtlkomiiijhphnaaDoor
open Go.RowKit Go.Proofs.YtlkomiiijhphnaaDoorW.PrintWords Go.Proofs.YtlkomiiijhphnaaDoorW.PrintLast Go.Proofs.YtlkomiiijhphnaaDoorW.PrintMore Go.Proofs.YtlkomiiijhphnaaDoor.Math Go.Proofs.YtlkomiiijhphnaaDoor.Big Go.Proofs.YtlkomiiijhphnaaDoor.X Go.Proofs.YtlkomiiijhphnaaDoor.Sq
set_option linter.unusedVariables false
set_option linter.unusedSimpArgs false
structure KnownFnWholesA1 (l : List Int) (sa : Int) (la : List Int) (sb : Int) (lb : List Int) (sq : Int) (lq : List Int) (sr : Int) (lr : List Int) (e : Int) (bw : Bool) (sp : Int) (lp : List Int) : Prop where
 f0 : impl_MultiplyWholes.f sq lq sb lb = some (sp, lp, 0)
 f1 : impl_AddWholes.f sp lp sr lr = some (sa, la, 0)
 f2 : ∃ k, laws_whole5.f k sa la sa la = some true
 f3 : sr = 0 ∨ sr = sa
 f4 : impl_CompareWholes.f (wrap64 (sr * sr)) lr 1 lb = some (-1, 0)
structure KnownFnWholesA (l : List Int) (sa : Int) (la : List Int) (sb : Int) (lb : List Int) (sq : Int) (lq : List Int) (sr : Int) (lr : List Int) (e : Int) (bw : Bool) : Prop where
 f0 : ∃ k, spec_DrawDivideWholes.f k l = some (sa, la, sb, lb)
 f1 : impl_DivideWholes.f sa la sb lb = some (sq, lq, sr, lr, e)
 f2 : ∃ k, spec_DivideWholes.f k sa la sb lb = some (sq, lq, sr, lr, e)
 f3 : ∃ k, laws_whole5.f k sq lq sq lq = some true
 f4 : ∃ k, laws_whole5.f k sr lr sr lr = some true
 f5 : impl_IsWhole.f sa la = some bw
 f6 : ∃ k, spec_IsWhole.f k sa la = some bw
 f7 : e = 0 → ∃ (sp : Int) (lp : List Int), KnownFnWholesA1 l sa la sb lb sq lq sr lr e bw sp lp
structure KnownFnWholesB (l : List Int) (sc : Int) (lc : List Int) (sd : Int) (ld : List Int) (su : Int) (lu : List Int) (sv : Int) (lv : List Int) (e6 : Int) (e8 : Int) (o : Int) (e10 : Int) : Prop where
 f0 : ∃ k, spec_DrawAddWholes.f k l = some (sc, lc, sd, ld)
 f1 : impl_AddWholes.f sc lc sd ld = some (su, lu, e6)
 f2 : ∃ k, spec_AddWholes.f k sc lc sd ld = some (su, lu, e6)
 f3 : impl_SubtractWholes.f sc lc sd ld = some (sv, lv, e8)
 f4 : ∃ k, spec_SubtractWholes.f k sc lc sd ld = some (sv, lv, e8)
 f5 : impl_CompareWholes.f sc lc sd ld = some (o, e10)
 f6 : ∃ k, laws_whole5.f k su lu su lu = some true
 f7 : ∃ k, laws_whole5.f k sv lv sv lv = some true
 f8 : e6 = 0 → impl_SubtractWholes.f su lu sd ld = some (sc, lc, 0) ∧ ∃ k, laws_whole5.f k sc lc sc lc = some true
 f9 : e8 = 0 → e10 = 0 ∧ o = sv
structure KnownFnWholesC (l : List Int) (n : Int) (sm : Int) (lm : List Int) : Prop where
 f0 : ∃ k, spec_DrawWholeOf.f k l = some n
 f1 : impl_WholeOf.f n = some (sm, lm, 0)
 f2 : impl_IntegerOf.f sm lm = some (n, 0)
 f3 : impl_IsWhole.f sm lm = some true
structure KnownFnWholesD (l : List Int) (sg : Int) (lg : List Int) (y : Int) (e14 : Int) : Prop where
 f0 : ∃ k, spec_DrawIntegerOf.f k l = some (sg, lg)
 f1 : impl_IntegerOf.f sg lg = some (y, e14)
 f2 : ∃ k, spec_IntegerOf.f k sg lg = some (y, e14)
set_option maxRecDepth 100000 in
set_option maxHeartbeats 8000000 in
theorem walk_FnWholes (w : World) (A : Option Addr) (c : Nat) (l : List Int) (hr : Kd.C (Kd.int .u8) w A l.length l) (hc : l.length ≤ c) (hk : l.length ≤ 4096 → (∃ (sa : Int) (la : List Int) (sb : Int) (lb : List Int) (sq : Int) (lq : List Int) (sr : Int) (lr : List Int) (e : Int) (bw : Bool), KnownFnWholesA l sa la sb lb sq lq sr lr e bw) ∧ (∃ (sc : Int) (lc : List Int) (sd : Int) (ld : List Int) (su : Int) (lu : List Int) (sv : Int) (lv : List Int) (e6 : Int) (e8 : Int) (o : Int) (e10 : Int), KnownFnWholesB l sc lc sd ld su lu sv lv e6 e8 o e10) ∧ (∃ (n : Int) (sm : Int) (lm : List Int), KnownFnWholesC l n sm lm) ∧ (∃ (sg : Int) (lg : List Int) (y : Int) (e14 : Int), KnownFnWholesD l sg lg y e14)) :
  Calls Tryd.prog 3 #[.slice A l.length c] w fun x w' => x = .returned (.bool true) ∧ Below w.heap.size w w' := by
 have HR := am_ hr; have HC := am_ hc; clear hr hc
 cases hbig : decide ((l.length : Int) > 4096)
 case true =>
  go_enter Tryd.func3, Tryd.ntmps3
  go_wp2_with fail
  refine (laws_big.calls A c l true w HR.out HC.out (by unfold laws_big.f; rw [hbig])).mono ?_
  rintro e w1 ⟨rfl, hb⟩
  replace hb := hb.below
  go_wp2
  go_ret
  exact ⟨rfl, hb⟩
 case false =>
  replace hk := hk (by have h_ := of_decide_eq_false hbig; omega)
  have HK := am_ hk; clear hk
  go_enter Tryd.func3, Tryd.ntmps3
  go_wp2_with fail
  refine (laws_big.calls A c l false w HR.out HC.out (by unfold laws_big.f; rw [hbig])).mono ?_
  rintro e w1 ⟨rfl, hb⟩
  replace hb := hb.below
  have L := am_ hb; clear hb hbig
  obtain ⟨sa, la, sb, lb, sq, lq, sr, lr, e, bw, k_⟩ := HK.out.1
  have KA := am_ k_; clear k_
  go_wp2_with fail
  obtain ⟨k, hk⟩ := KA.out.f0
  refine (spec_DrawDivideWholes.calls k A c l sa la sb lb _ (Kd.C_below HR.out L.out) (HC.out) hk).mono ?_
  rintro x w1 ⟨v0_, v1_, rfl, hr0_, hr1_, hb⟩
  obtain ⟨A1, c2, rfl⟩ := Kd.R_slice hr0_
  obtain ⟨A4, c5, rfl⟩ := Kd.R_slice hr1_
  have V3 := am_ (RO.of (w := w) hr0_ L.out.size)
  have V6 := am_ (RO.of (w := w) hr1_ L.out.size)
  replace L := lb_ L hb
  clear hb hk hr0_ hr1_
  go_upto_region 4 with fail
  obtain ⟨w1, g7, e1, e2, hB, hb⟩ := new_box _ #[.int .i64 sa, .slice A1 la.length c2] 26
  rw [← e1]; try rw [← e2]
  have G8 := am_ hB
  replace V3 := vb_ V3 hb
  replace V6 := vb_ V6 hb
  replace L := lb_ L hb
  have z1_ : w1.heap.size = g7 + 1 := by rw [e1, e2]; simp
  clear hB hb e1 e2
  obtain ⟨w1, g9, e1, e2, hB, hb⟩ := new_box _ #[.int .i64 sb, .slice A4 lb.length c5] 26
  rw [← e1]; rw [← z1_]; rw [← e2]
  have G10 := am_ hB
  replace V3 := vb_ V3 hb
  replace V6 := vb_ V6 hb
  replace G8 := gb_ G8 hb
  replace L := lb_ L hb
  clear z1_
  clear hB hb e1 e2
  have p11 := G8.out.cell 0 _ rfl
  have p12 := G8.out.cell 1 _ rfl
  have p13 := G10.out.cell 0 _ rfl
  have p14 := G10.out.cell 1 _ rfl
  go_wp2_with fail
  refine (impl_DivideWholes.calls sa A1 c2 la sb A4 c5 lb sq lq sr lr e _ (V3.out.c) (V3.out.le) (V6.out.c) (V6.out.le) KA.out.f1).mono ?_
  rintro x w1 ⟨v0_, v1_, rfl, hr0_, hr1_, hb⟩
  clear p11 p12 p13 p14
  obtain ⟨A15, c16, rfl⟩ := Kd.R_slice hr0_
  obtain ⟨A18, c19, rfl⟩ := Kd.R_slice hr1_
  have V17 := am_ (RO.of (w := w) hr0_ L.out.size)
  have V20 := am_ (RO.of (w := w) hr1_ L.out.size)
  replace V3 := vb_ V3 hb
  replace V6 := vb_ V6 hb
  replace G8 := gb_ G8 hb
  replace G10 := gb_ G10 hb
  replace L := lb_ L hb
  clear hb hr0_ hr1_
  go_upto_region 5 with fail
  obtain ⟨w1, g21, e1, e2, hB, hb⟩ := new_box _ #[.int .i64 sq, .slice A15 lq.length c16] 26
  rw [← e1]; try rw [← e2]
  have G22 := am_ hB
  replace V3 := vb_ V3 hb
  replace V6 := vb_ V6 hb
  replace V17 := vb_ V17 hb
  replace V20 := vb_ V20 hb
  replace G8 := gb_ G8 hb
  replace G10 := gb_ G10 hb
  replace L := lb_ L hb
  have z1_ : w1.heap.size = g21 + 1 := by rw [e1, e2]; simp
  clear hB hb e1 e2
  obtain ⟨w1, g23, e1, e2, hB, hb⟩ := new_box _ #[.int .i64 sr, .slice A18 lr.length c19] 26
  rw [← e1]; rw [← z1_]; rw [← e2]
  have G24 := am_ hB
  replace V3 := vb_ V3 hb
  replace V6 := vb_ V6 hb
  replace V17 := vb_ V17 hb
  replace V20 := vb_ V20 hb
  replace G8 := gb_ G8 hb
  replace G10 := gb_ G10 hb
  replace G22 := gb_ G22 hb
  replace L := lb_ L hb
  clear z1_
  clear hB hb e1 e2
  have p25 := G8.out.cell 0 _ rfl
  have p26 := G8.out.cell 1 _ rfl
  have p27 := G10.out.cell 0 _ rfl
  have p28 := G10.out.cell 1 _ rfl
  go_wp2_with fail
  obtain ⟨k, hk⟩ := KA.out.f2
  refine (spec_DivideWholes.calls k sa A1 c2 la sb A4 c5 lb sq lq sr lr e _ (V3.out.c) (V3.out.le) (V6.out.c) (V6.out.le) hk).mono ?_
  rintro x w1 ⟨v0_, v1_, rfl, hr0_, hr1_, hb⟩
  clear p25 p26 p27 p28
  obtain ⟨A29, c30, rfl⟩ := Kd.R_slice hr0_
  obtain ⟨A32, c33, rfl⟩ := Kd.R_slice hr1_
  have V31 := am_ (RO.of (w := w) hr0_ L.out.size)
  have V34 := am_ (RO.of (w := w) hr1_ L.out.size)
  replace V3 := vb_ V3 hb
  replace V6 := vb_ V6 hb
  replace V17 := vb_ V17 hb
  replace V20 := vb_ V20 hb
  replace G8 := gb_ G8 hb
  replace G10 := gb_ G10 hb
  replace G22 := gb_ G22 hb
  replace G24 := gb_ G24 hb
  replace L := lb_ L hb
  clear hb hk hr0_ hr1_
  have ee_ : (e != e) = false := by simp
  have eb_ : (bw != bw) = false := by simp
  go_upto_region 6 with fail
  obtain ⟨w1, g35, e1, e2, hB, hb⟩ := new_box _ #[.int .i64 sq, .slice A29 lq.length c30] 26
  rw [← e1]; try rw [← e2]
  have G36 := am_ hB
  replace V3 := vb_ V3 hb
  replace V6 := vb_ V6 hb
  replace V17 := vb_ V17 hb
  replace V20 := vb_ V20 hb
  replace V31 := vb_ V31 hb
  replace V34 := vb_ V34 hb
  replace G8 := gb_ G8 hb
  replace G10 := gb_ G10 hb
  replace G22 := gb_ G22 hb
  replace G24 := gb_ G24 hb
  replace L := lb_ L hb
  have z1_ : w1.heap.size = g35 + 1 := by rw [e1, e2]; simp
  clear hB hb e1 e2
  obtain ⟨w1, g37, e1, e2, hB, hb⟩ := new_box _ #[.int .i64 sr, .slice A32 lr.length c33] 26
  rw [← e1]; rw [← z1_]; rw [← e2]
  have G38 := am_ hB
  replace V3 := vb_ V3 hb
  replace V6 := vb_ V6 hb
  replace V17 := vb_ V17 hb
  replace V20 := vb_ V20 hb
  replace V31 := vb_ V31 hb
  replace V34 := vb_ V34 hb
  replace G8 := gb_ G8 hb
  replace G10 := gb_ G10 hb
  replace G22 := gb_ G22 hb
  replace G24 := gb_ G24 hb
  replace G36 := gb_ G36 hb
  replace L := lb_ L hb
  clear z1_
  clear hB hb e1 e2
  go_upto_region 6 with fail
  refine start_ (n := 22) (S := fun w' => w'.cell? ⟨g21, 0, none⟩ = some (.int .i64 sq) ∧ w'.cell? ⟨g21, 1, none⟩ = some (.slice A15 lq.length c16) ∧ w'.cell? ⟨g35, 0, none⟩ = some (.int .i64 sq) ∧ w'.cell? ⟨g35, 1, none⟩ = some (.slice A29 lq.length c30) ∧ w'.cell? ⟨g23, 0, none⟩ = some (.int .i64 sr) ∧ w'.cell? ⟨g23, 1, none⟩ = some (.slice A18 lr.length c19) ∧ w'.cell? ⟨g37, 0, none⟩ = some (.int .i64 sr) ∧ w'.cell? ⟨g37, 1, none⟩ = some (.slice A32 lr.length c33) ∧ w'.cell? ⟨g7, 0, none⟩ = some (.int .i64 sa) ∧ w'.cell? ⟨g7, 1, none⟩ = some (.slice A1 la.length c2)) (ds := []) #[false, false, false, false, false, false, false, false, false, false, false, false, false, false, false, false, false, false, false, false, false, false] (by kernel_rfl) rfl rfl ⟨G22.out.cell 0 _ rfl, G22.out.cell 1 _ rfl, G36.out.cell 0 _ rfl, G36.out.cell 1 _ rfl, G24.out.cell 0 _ rfl, G24.out.cell 1 _ rfl, G38.out.cell 0 _ rfl, G38.out.cell 1 _ rfl, G8.out.cell 0 _ rfl, G8.out.cell 1 _ rfl⟩ (fun hHeld => ?_)
  have Dw2 := am_ ((Below.refl w1.heap.size w1).drew)
  generalize w1.drew = w2 at hHeld Dw2 ⊢
  refine pu_ #[true, false, false, false, false, false, false, false, false, false, false, false, false, false, false, false, false, false, false, false, false, false] 0 62 (by kernel_rfl) ?_
  refine pu_ #[true, true, false, false, false, false, false, false, false, false, false, false, false, false, false, false, false, false, false, false, false, false] 1 63 (by kernel_rfl) ?_
  refine pu_ #[true, true, true, false, false, false, false, false, false, false, false, false, false, false, false, false, false, false, false, false, false, false] 2 64 (by kernel_rfl) ?_
  refine pu_ #[true, true, true, true, false, false, false, false, false, false, false, false, false, false, false, false, false, false, false, false, false, false] 3 65 (by kernel_rfl) ?_
  refine tk_ #[true, true, true, true, true, false, false, false, false, false, false, false, false, false, false, false, false, false, false, false, false, false] 4 66 (by kernel_rfl) hHeld ?_
  refine tk_ #[true, true, true, true, true, true, false, false, false, false, false, false, false, false, false, false, false, false, false, false, false, false] 5 67 (by kernel_rfl) hHeld ?_
  refine one_ (i := 6) (N := some 68) #[true, true, true, true, true, true, true, false, false, false, false, false, false, false, false, false, false, false, false, false, false, false] rfl rfl (by kernel_rfl) (by decide) (fun K hK => ?_)
  replace V3 := vb_ V3 Dw2.out
  replace V6 := vb_ V6 Dw2.out
  replace V17 := vb_ V17 Dw2.out
  replace V20 := vb_ V20 Dw2.out
  replace V31 := vb_ V31 Dw2.out
  replace V34 := vb_ V34 Dw2.out
  replace G8 := gb_ G8 Dw2.out
  replace G10 := gb_ G10 Dw2.out
  replace G22 := gb_ G22 Dw2.out
  replace G24 := gb_ G24 Dw2.out
  replace G36 := gb_ G36 Dw2.out
  replace G38 := gb_ G38 Dw2.out
  replace L := lb_ L Dw2.out
  obtain ⟨k, hk⟩ := KA.out.f3
  refine goes_ Tryd.func9 (by kernel_rfl) rfl #[.agg #[.int .i64 sq, .slice A15 lq.length c16], .agg #[.int .i64 sq, .slice A29 lq.length c30]] (by rfl) rfl rfl ma_ ?_
  with_reducible refine (laws_whole5.calls k sq A15 c16 lq sq A29 c30 lq true _ (V17.out.c) (V17.out.le) (V31.out.c) (V31.out.le) hk).mono ?_
  rintro x w1 ⟨rfl, hb⟩
  refine ⟨_, rfl, ?_⟩
  replace V3 := vb_ V3 hb
  replace V6 := vb_ V6 hb
  replace V17 := vb_ V17 hb
  replace V20 := vb_ V20 hb
  replace V31 := vb_ V31 hb
  replace V34 := vb_ V34 hb
  replace G8 := gb_ G8 hb
  replace G10 := gb_ G10 hb
  replace G22 := gb_ G22 hb
  replace G24 := gb_ G24 hb
  replace G36 := gb_ G36 hb
  replace G38 := gb_ G38 hb
  replace L := lb_ L hb
  clear hb hk
  refine hK.out _ _ ⟨G22.out.cell 0 _ rfl, G22.out.cell 1 _ rfl, G36.out.cell 0 _ rfl, G36.out.cell 1 _ rfl, G24.out.cell 0 _ rfl, G24.out.cell 1 _ rfl, G38.out.cell 0 _ rfl, G38.out.cell 1 _ rfl, G8.out.cell 0 _ rfl, G8.out.cell 1 _ rfl⟩ (fun hHeld => ?_)
  clear hK K
  refine nr_ ?_
  refine pu_ #[true, true, true, true, true, true, true, true, false, false, false, false, false, false, false, false, false, false, false, false, false, false] 7 69 (by kernel_rfl) ?_
  refine pu_ #[true, true, true, true, true, true, true, true, true, false, false, false, false, false, false, false, false, false, false, false, false, false] 8 70 (by kernel_rfl) ?_
  refine pu_ #[true, true, true, true, true, true, true, true, true, true, false, false, false, false, false, false, false, false, false, false, false, false] 9 71 (by kernel_rfl) ?_
  refine tk_ #[true, true, true, true, true, true, true, true, true, true, true, false, false, false, false, false, false, false, false, false, false, false] 10 72 (by kernel_rfl) hHeld ?_
  refine tk_ #[true, true, true, true, true, true, true, true, true, true, true, true, false, false, false, false, false, false, false, false, false, false] 11 73 (by kernel_rfl) hHeld ?_
  refine one_ (i := 12) (N := some 74) #[true, true, true, true, true, true, true, true, true, true, true, true, true, false, false, false, false, false, false, false, false, false] rfl rfl (by kernel_rfl) (by decide) (fun K hK => ?_)
  obtain ⟨k, hk⟩ := KA.out.f4
  refine goes_ Tryd.func9 (by kernel_rfl) rfl #[.agg #[.int .i64 sr, .slice A18 lr.length c19], .agg #[.int .i64 sr, .slice A32 lr.length c33]] (by rfl) rfl rfl ma_ ?_
  with_reducible refine (laws_whole5.calls k sr A18 c19 lr sr A32 c33 lr true _ (V20.out.c) (V20.out.le) (V34.out.c) (V34.out.le) hk).mono ?_
  rintro x w1 ⟨rfl, hb⟩
  refine ⟨_, rfl, ?_⟩
  replace V3 := vb_ V3 hb
  replace V6 := vb_ V6 hb
  replace V17 := vb_ V17 hb
  replace V20 := vb_ V20 hb
  replace V31 := vb_ V31 hb
  replace V34 := vb_ V34 hb
  replace G8 := gb_ G8 hb
  replace G10 := gb_ G10 hb
  replace G22 := gb_ G22 hb
  replace G24 := gb_ G24 hb
  replace G36 := gb_ G36 hb
  replace G38 := gb_ G38 hb
  replace L := lb_ L hb
  clear hb hk
  refine hK.out _ _ ⟨G22.out.cell 0 _ rfl, G22.out.cell 1 _ rfl, G36.out.cell 0 _ rfl, G36.out.cell 1 _ rfl, G24.out.cell 0 _ rfl, G24.out.cell 1 _ rfl, G38.out.cell 0 _ rfl, G38.out.cell 1 _ rfl, G8.out.cell 0 _ rfl, G8.out.cell 1 _ rfl⟩ (fun hHeld => ?_)
  clear hK K
  refine nr_ ?_
  refine pu_ #[true, true, true, true, true, true, true, true, true, true, true, true, true, true, false, false, false, false, false, false, false, false] 13 75 (by kernel_rfl) ?_
  refine pu_ #[true, true, true, true, true, true, true, true, true, true, true, true, true, true, true, false, false, false, false, false, false, false] 14 76 (by kernel_rfl) ?_
  refine pu_ #[true, true, true, true, true, true, true, true, true, true, true, true, true, true, true, true, false, false, false, false, false, false] 15 77 (by kernel_rfl) ?_
  refine tk_ #[true, true, true, true, true, true, true, true, true, true, true, true, true, true, true, true, true, false, false, false, false, false] 16 78 (by kernel_rfl) hHeld ?_
  refine tk_ #[true, true, true, true, true, true, true, true, true, true, true, true, true, true, true, true, true, false, true, false, false, false] 18 80 (by kernel_rfl) hHeld ?_
  refine one_ (i := 17) (N := some 79) #[true, true, true, true, true, true, true, true, true, true, true, true, true, true, true, true, true, true, true, false, false, false] rfl rfl (by kernel_rfl) (by decide) (fun K hK => ?_)
  refine goes_ Tryd.func10 (by kernel_rfl) rfl #[.agg #[.int .i64 sa, .slice A1 la.length c2]] (by rfl) rfl rfl ma_ ?_
  with_reducible refine (impl_IsWhole.calls sa A1 c2 la bw _ (V3.out.c) (V3.out.le) KA.out.f5).mono ?_
  rintro x w1 ⟨rfl, hb⟩
  refine ⟨_, rfl, ?_⟩
  replace V3 := vb_ V3 hb
  replace V6 := vb_ V6 hb
  replace V17 := vb_ V17 hb
  replace V20 := vb_ V20 hb
  replace V31 := vb_ V31 hb
  replace V34 := vb_ V34 hb
  replace G8 := gb_ G8 hb
  replace G10 := gb_ G10 hb
  replace G22 := gb_ G22 hb
  replace G24 := gb_ G24 hb
  replace G36 := gb_ G36 hb
  replace G38 := gb_ G38 hb
  replace L := lb_ L hb
  clear hb
  refine hK.out _ _ ⟨G22.out.cell 0 _ rfl, G22.out.cell 1 _ rfl, G36.out.cell 0 _ rfl, G36.out.cell 1 _ rfl, G24.out.cell 0 _ rfl, G24.out.cell 1 _ rfl, G38.out.cell 0 _ rfl, G38.out.cell 1 _ rfl, G8.out.cell 0 _ rfl, G8.out.cell 1 _ rfl⟩ (fun hHeld => ?_)
  clear hK K
  refine nr_ ?_
  refine one_ (i := 19) (N := some 81) #[true, true, true, true, true, true, true, true, true, true, true, true, true, true, true, true, true, true, true, true, false, false] rfl rfl (by kernel_rfl) (by decide) (fun K hK => ?_)
  obtain ⟨k, hk⟩ := KA.out.f6
  refine goes_ Tryd.func11 (by kernel_rfl) rfl #[.agg #[.int .i64 sa, .slice A1 la.length c2]] (by rfl) rfl rfl ma_ ?_
  with_reducible refine (spec_IsWhole.calls k sa A1 c2 la bw _ (V3.out.c) (V3.out.le) hk).mono ?_
  rintro x w1 ⟨rfl, hb⟩
  refine ⟨_, rfl, ?_⟩
  replace V3 := vb_ V3 hb
  replace V6 := vb_ V6 hb
  replace V17 := vb_ V17 hb
  replace V20 := vb_ V20 hb
  replace V31 := vb_ V31 hb
  replace V34 := vb_ V34 hb
  replace G8 := gb_ G8 hb
  replace G10 := gb_ G10 hb
  replace G22 := gb_ G22 hb
  replace G24 := gb_ G24 hb
  replace G36 := gb_ G36 hb
  replace G38 := gb_ G38 hb
  replace L := lb_ L hb
  clear hb hk
  refine hK.out _ _ ⟨G22.out.cell 0 _ rfl, G22.out.cell 1 _ rfl, G36.out.cell 0 _ rfl, G36.out.cell 1 _ rfl, G24.out.cell 0 _ rfl, G24.out.cell 1 _ rfl, G38.out.cell 0 _ rfl, G38.out.cell 1 _ rfl, G8.out.cell 0 _ rfl, G8.out.cell 1 _ rfl⟩ (fun hHeld => ?_)
  clear hK K
  refine nr_ ?_
  refine pu_ #[true, true, true, true, true, true, true, true, true, true, true, true, true, true, true, true, true, true, true, true, true, false] 20 82 (by kernel_rfl) ?_
  refine pu_ #[true, true, true, true, true, true, true, true, true, true, true, true, true, true, true, true, true, true, true, true, true, true] 21 83 (by kernel_rfl) ?_
  refine done_ (by kernel_rfl) ?_
  clear ee_ eb_
  clear G36
  clear V31
  clear G38
  clear V34
  go_upto_if 85 with (fail)
  go_cut [] (fun wc => Aside0 (Below w.heap.size w wc))
  case first => as_aux_lemma =>
   by_cases hc_ : e = 0
   ·skip
    have hb_ : (e == 0) = true := by simpa using hc_
    obtain ⟨sp, lp, k_⟩ := (KA.out.f7 hc_)
    have KA1 := am_ k_; clear k_
    clear hc_
    have p39 := G22.out.cell 0 _ rfl
    have p40 := G22.out.cell 1 _ rfl
    have p41 := G10.out.cell 0 _ rfl
    have p42 := G10.out.cell 1 _ rfl
    go_wp2_with fail
    refine (impl_MultiplyWholes.calls sq A15 c16 lq sb A4 c5 lb sp lp 0 _ (V17.out.c) (V17.out.le) (V6.out.c) (V6.out.le) KA1.out.f0).mono ?_
    rintro x w1 ⟨v0_, rfl, hr0_, hb⟩
    clear p39 p40 p41 p42
    obtain ⟨A43, c44, rfl⟩ := Kd.R_slice hr0_
    have V45 := am_ (RO.of (w := w) hr0_ L.out.size)
    replace V3 := vb_ V3 hb
    replace V6 := vb_ V6 hb
    replace V17 := vb_ V17 hb
    replace V20 := vb_ V20 hb
    replace G8 := gb_ G8 hb
    replace G10 := gb_ G10 hb
    replace G22 := gb_ G22 hb
    replace G24 := gb_ G24 hb
    replace L := lb_ L hb
    clear hb hr0_
    go_upto_region 10 with fail
    obtain ⟨w1, g46, e1, e2, hB, hb⟩ := new_box _ #[.int .i64 sp, .slice A43 lp.length c44] 26
    rw [← e1]; try rw [← e2]
    have G47 := am_ hB
    replace V3 := vb_ V3 hb
    replace V6 := vb_ V6 hb
    replace V17 := vb_ V17 hb
    replace V20 := vb_ V20 hb
    replace V45 := vb_ V45 hb
    replace G8 := gb_ G8 hb
    replace G10 := gb_ G10 hb
    replace G22 := gb_ G22 hb
    replace G24 := gb_ G24 hb
    replace L := lb_ L hb
    clear hB hb e1 e2
    have p48 := G47.out.cell 0 _ rfl
    have p49 := G47.out.cell 1 _ rfl
    have p50 := G24.out.cell 0 _ rfl
    have p51 := G24.out.cell 1 _ rfl
    go_wp2_with fail
    refine (impl_AddWholes.calls sp A43 c44 lp sr A18 c19 lr sa la 0 _ (V45.out.c) (V45.out.le) (V20.out.c) (V20.out.le) KA1.out.f1).mono ?_
    rintro x w1 ⟨v0_, rfl, hr0_, hb⟩
    clear p48 p49 p50 p51
    obtain ⟨A52, c53, rfl⟩ := Kd.R_slice hr0_
    have V54 := am_ (RO.of (w := w) hr0_ L.out.size)
    replace V3 := vb_ V3 hb
    replace V6 := vb_ V6 hb
    replace V17 := vb_ V17 hb
    replace V20 := vb_ V20 hb
    replace V45 := vb_ V45 hb
    replace G8 := gb_ G8 hb
    replace G10 := gb_ G10 hb
    replace G22 := gb_ G22 hb
    replace G24 := gb_ G24 hb
    replace G47 := gb_ G47 hb
    replace L := lb_ L hb
    clear hb hr0_
    go_upto_region 11 with fail
    obtain ⟨w1, g55, e1, e2, hB, hb⟩ := new_box _ #[.int .i64 sa, .slice A52 la.length c53] 26
    rw [← e1]; try rw [← e2]
    have G56 := am_ hB
    replace V3 := vb_ V3 hb
    replace V6 := vb_ V6 hb
    replace V17 := vb_ V17 hb
    replace V20 := vb_ V20 hb
    replace V45 := vb_ V45 hb
    replace V54 := vb_ V54 hb
    replace G8 := gb_ G8 hb
    replace G10 := gb_ G10 hb
    replace G22 := gb_ G22 hb
    replace G24 := gb_ G24 hb
    replace G47 := gb_ G47 hb
    replace L := lb_ L hb
    clear hB hb e1 e2
    have p57 := G56.out.cell 0 _ rfl
    have p58 := G56.out.cell 1 _ rfl
    have p59 := G8.out.cell 0 _ rfl
    have p60 := G8.out.cell 1 _ rfl
    have p61 := G24.out.cell 0 _ rfl
    have p62 := G24.out.cell 1 _ rfl
    go_wp2_with fail
    obtain ⟨k, hk⟩ := KA1.out.f2
    refine (laws_whole5.calls k sa A52 c53 la sa A1 c2 la true _ (V54.out.c) (V54.out.le) (V3.out.c) (V3.out.le) hk).mono ?_
    rintro x w1 ⟨rfl, hb⟩
    clear p57 p58 p59 p60 p61 p62
    replace V3 := vb_ V3 hb
    replace V6 := vb_ V6 hb
    replace V17 := vb_ V17 hb
    replace V20 := vb_ V20 hb
    replace V45 := vb_ V45 hb
    replace V54 := vb_ V54 hb
    replace G8 := gb_ G8 hb
    replace G10 := gb_ G10 hb
    replace G22 := gb_ G22 hb
    replace G24 := gb_ G24 hb
    replace G47 := gb_ G47 hb
    replace G56 := gb_ G56 hb
    replace L := lb_ L hb
    clear hb hk
    clear G56
    clear V54
    clear G47
    clear V45
    have p63 := G8.out.cell 0 _ rfl
    have p64 := G8.out.cell 1 _ rfl
    have p65 := G10.out.cell 0 _ rfl
    have p66 := G10.out.cell 1 _ rfl
    have p67 := G24.out.cell 0 _ rfl
    have p68 := G24.out.cell 1 _ rfl
    by_cases hz_ : sr = 0
    ·skip
     have hz1_ : (sr != 0) = false := by simpa using hz_
     clear hz_
     go_wp2_with fail
     refine (impl_CompareWholes.calls (wrap64 (sr * sr)) A18 c19 lr 1 A4 c5 lb (-1) 0 _ (V20.out.c) (V20.out.le) (V6.out.c) (V6.out.le) KA1.out.f4).mono ?_
     rintro x w1 ⟨rfl, hb⟩
     clear p63 p64 p65 p66 p67 p68
     replace V3 := vb_ V3 hb
     replace V6 := vb_ V6 hb
     replace V17 := vb_ V17 hb
     replace V20 := vb_ V20 hb
     replace G8 := gb_ G8 hb
     replace G10 := gb_ G10 hb
     replace G22 := gb_ G22 hb
     replace G24 := gb_ G24 hb
     replace L := lb_ L hb
     clear hb
     go_wp2
     go_meet
     case rel => exact L
    ·skip
     have hz1_ : (sr != 0) = true := by simpa using hz_
     have hz2_ : (sr != sa) = false := by simpa using (KA1.out.f3.resolve_left hz_)
     clear hz_
     go_wp2_with fail
     refine (impl_CompareWholes.calls (wrap64 (sr * sr)) A18 c19 lr 1 A4 c5 lb (-1) 0 _ (V20.out.c) (V20.out.le) (V6.out.c) (V6.out.le) KA1.out.f4).mono ?_
     rintro x w1 ⟨rfl, hb⟩
     clear p63 p64 p65 p66 p67 p68
     replace V3 := vb_ V3 hb
     replace V6 := vb_ V6 hb
     replace V17 := vb_ V17 hb
     replace V20 := vb_ V20 hb
     replace G8 := gb_ G8 hb
     replace G10 := gb_ G10 hb
     replace G22 := gb_ G22 hb
     replace G24 := gb_ G24 hb
     replace L := lb_ L hb
     clear hb
     go_wp2
     go_meet
     case rel => exact L
   ·skip
    have hb_ : (e == 0) = false := by simpa using hc_
    go_wp2
    go_meet
    case rel => exact L
  case rest => as_aux_lemma =>
   clear V3 V6 V17 V20 G8 G10 G22 G24 L
   have L := hcut; clear hcut
   clear KA
   obtain ⟨sc, lc, sd, ld, su, lu, sv, lv, e6, e8, o, e10, k_⟩ := HK.out.2.1
   have KB := am_ k_; clear k_
   go_wp2_with fail
   obtain ⟨k, hk⟩ := KB.out.f0
   refine (spec_DrawAddWholes.calls k A c l sc lc sd ld _ (Kd.C_below HR.out L.out) (HC.out) hk).mono ?_
   rintro x w1 ⟨v0_, v1_, rfl, hr0_, hr1_, hb⟩
   obtain ⟨A69, c70, rfl⟩ := Kd.R_slice hr0_
   obtain ⟨A72, c73, rfl⟩ := Kd.R_slice hr1_
   have V71 := am_ (RO.of (w := w) hr0_ L.out.size)
   have V74 := am_ (RO.of (w := w) hr1_ L.out.size)
   replace L := lb_ L hb
   clear hb hk hr0_ hr1_
   go_upto_region 17 with fail
   obtain ⟨w1, g75, e1, e2, hB, hb⟩ := new_box _ #[.int .i64 sc, .slice A69 lc.length c70] 26
   rw [← e1]; try rw [← e2]
   have G76 := am_ hB
   replace V71 := vb_ V71 hb
   replace V74 := vb_ V74 hb
   replace L := lb_ L hb
   have z1_ : w1.heap.size = g75 + 1 := by rw [e1, e2]; simp
   clear hB hb e1 e2
   obtain ⟨w1, g77, e1, e2, hB, hb⟩ := new_box _ #[.int .i64 sd, .slice A72 ld.length c73] 26
   rw [← e1]; rw [← z1_]; rw [← e2]
   have G78 := am_ hB
   replace V71 := vb_ V71 hb
   replace V74 := vb_ V74 hb
   replace G76 := gb_ G76 hb
   replace L := lb_ L hb
   clear z1_
   clear hB hb e1 e2
   have p79 := G76.out.cell 0 _ rfl
   have p80 := G76.out.cell 1 _ rfl
   have p81 := G78.out.cell 0 _ rfl
   have p82 := G78.out.cell 1 _ rfl
   go_wp2_with fail
   refine (impl_AddWholes.calls sc A69 c70 lc sd A72 c73 ld su lu e6 _ (V71.out.c) (V71.out.le) (V74.out.c) (V74.out.le) KB.out.f1).mono ?_
   rintro x w1 ⟨v0_, rfl, hr0_, hb⟩
   clear p79 p80 p81 p82
   obtain ⟨A83, c84, rfl⟩ := Kd.R_slice hr0_
   have V85 := am_ (RO.of (w := w) hr0_ L.out.size)
   replace V71 := vb_ V71 hb
   replace V74 := vb_ V74 hb
   replace G76 := gb_ G76 hb
   replace G78 := gb_ G78 hb
   replace L := lb_ L hb
   clear hb hr0_
   go_upto_region 18 with fail
   obtain ⟨w1, g86, e1, e2, hB, hb⟩ := new_box _ #[.int .i64 su, .slice A83 lu.length c84] 26
   rw [← e1]; try rw [← e2]
   have G87 := am_ hB
   replace V71 := vb_ V71 hb
   replace V74 := vb_ V74 hb
   replace V85 := vb_ V85 hb
   replace G76 := gb_ G76 hb
   replace G78 := gb_ G78 hb
   replace L := lb_ L hb
   clear hB hb e1 e2
   have p88 := G76.out.cell 0 _ rfl
   have p89 := G76.out.cell 1 _ rfl
   have p90 := G78.out.cell 0 _ rfl
   have p91 := G78.out.cell 1 _ rfl
   go_wp2_with fail
   obtain ⟨k, hk⟩ := KB.out.f2
   refine (spec_AddWholes.calls k sc A69 c70 lc sd A72 c73 ld su lu e6 _ (V71.out.c) (V71.out.le) (V74.out.c) (V74.out.le) hk).mono ?_
   rintro x w1 ⟨v0_, rfl, hr0_, hb⟩
   clear p88 p89 p90 p91
   obtain ⟨A92, c93, rfl⟩ := Kd.R_slice hr0_
   have V94 := am_ (RO.of (w := w) hr0_ L.out.size)
   replace V71 := vb_ V71 hb
   replace V74 := vb_ V74 hb
   replace V85 := vb_ V85 hb
   replace G76 := gb_ G76 hb
   replace G78 := gb_ G78 hb
   replace G87 := gb_ G87 hb
   replace L := lb_ L hb
   clear hb hk hr0_
   go_upto_region 19 with fail
   obtain ⟨w1, g95, e1, e2, hB, hb⟩ := new_box _ #[.int .i64 su, .slice A92 lu.length c93] 26
   rw [← e1]; try rw [← e2]
   have G96 := am_ hB
   replace V71 := vb_ V71 hb
   replace V74 := vb_ V74 hb
   replace V85 := vb_ V85 hb
   replace V94 := vb_ V94 hb
   replace G76 := gb_ G76 hb
   replace G78 := gb_ G78 hb
   replace G87 := gb_ G87 hb
   replace L := lb_ L hb
   clear hB hb e1 e2
   have p97 := G76.out.cell 0 _ rfl
   have p98 := G76.out.cell 1 _ rfl
   have p99 := G78.out.cell 0 _ rfl
   have p100 := G78.out.cell 1 _ rfl
   go_wp2_with fail
   refine (impl_SubtractWholes.calls sc A69 c70 lc sd A72 c73 ld sv lv e8 _ (V71.out.c) (V71.out.le) (V74.out.c) (V74.out.le) KB.out.f3).mono ?_
   rintro x w1 ⟨v0_, rfl, hr0_, hb⟩
   clear p97 p98 p99 p100
   obtain ⟨A101, c102, rfl⟩ := Kd.R_slice hr0_
   have V103 := am_ (RO.of (w := w) hr0_ L.out.size)
   replace V71 := vb_ V71 hb
   replace V74 := vb_ V74 hb
   replace V85 := vb_ V85 hb
   replace V94 := vb_ V94 hb
   replace G76 := gb_ G76 hb
   replace G78 := gb_ G78 hb
   replace G87 := gb_ G87 hb
   replace G96 := gb_ G96 hb
   replace L := lb_ L hb
   clear hb hr0_
   go_upto_region 20 with fail
   obtain ⟨w1, g104, e1, e2, hB, hb⟩ := new_box _ #[.int .i64 sv, .slice A101 lv.length c102] 26
   rw [← e1]; try rw [← e2]
   have G105 := am_ hB
   replace V71 := vb_ V71 hb
   replace V74 := vb_ V74 hb
   replace V85 := vb_ V85 hb
   replace V94 := vb_ V94 hb
   replace V103 := vb_ V103 hb
   replace G76 := gb_ G76 hb
   replace G78 := gb_ G78 hb
   replace G87 := gb_ G87 hb
   replace G96 := gb_ G96 hb
   replace L := lb_ L hb
   clear hB hb e1 e2
   have p106 := G76.out.cell 0 _ rfl
   have p107 := G76.out.cell 1 _ rfl
   have p108 := G78.out.cell 0 _ rfl
   have p109 := G78.out.cell 1 _ rfl
   go_wp2_with fail
   obtain ⟨k, hk⟩ := KB.out.f4
   refine (spec_SubtractWholes.calls k sc A69 c70 lc sd A72 c73 ld sv lv e8 _ (V71.out.c) (V71.out.le) (V74.out.c) (V74.out.le) hk).mono ?_
   rintro x w1 ⟨v0_, rfl, hr0_, hb⟩
   clear p106 p107 p108 p109
   obtain ⟨A110, c111, rfl⟩ := Kd.R_slice hr0_
   have V112 := am_ (RO.of (w := w) hr0_ L.out.size)
   replace V71 := vb_ V71 hb
   replace V74 := vb_ V74 hb
   replace V85 := vb_ V85 hb
   replace V94 := vb_ V94 hb
   replace V103 := vb_ V103 hb
   replace G76 := gb_ G76 hb
   replace G78 := gb_ G78 hb
   replace G87 := gb_ G87 hb
   replace G96 := gb_ G96 hb
   replace G105 := gb_ G105 hb
   replace L := lb_ L hb
   clear hb hk hr0_
   go_upto_region 21 with fail
   obtain ⟨w1, g113, e1, e2, hB, hb⟩ := new_box _ #[.int .i64 sv, .slice A110 lv.length c111] 26
   rw [← e1]; try rw [← e2]
   have G114 := am_ hB
   replace V71 := vb_ V71 hb
   replace V74 := vb_ V74 hb
   replace V85 := vb_ V85 hb
   replace V94 := vb_ V94 hb
   replace V103 := vb_ V103 hb
   replace V112 := vb_ V112 hb
   replace G76 := gb_ G76 hb
   replace G78 := gb_ G78 hb
   replace G87 := gb_ G87 hb
   replace G96 := gb_ G96 hb
   replace G105 := gb_ G105 hb
   replace L := lb_ L hb
   clear hB hb e1 e2
   have p115 := G76.out.cell 0 _ rfl
   have p116 := G76.out.cell 1 _ rfl
   have p117 := G78.out.cell 0 _ rfl
   have p118 := G78.out.cell 1 _ rfl
   go_wp2_with fail
   refine (impl_CompareWholes.calls sc A69 c70 lc sd A72 c73 ld o e10 _ (V71.out.c) (V71.out.le) (V74.out.c) (V74.out.le) KB.out.f5).mono ?_
   rintro x w1 ⟨rfl, hb⟩
   clear p115 p116 p117 p118
   replace V71 := vb_ V71 hb
   replace V74 := vb_ V74 hb
   replace V85 := vb_ V85 hb
   replace V94 := vb_ V94 hb
   replace V103 := vb_ V103 hb
   replace V112 := vb_ V112 hb
   replace G76 := gb_ G76 hb
   replace G78 := gb_ G78 hb
   replace G87 := gb_ G87 hb
   replace G96 := gb_ G96 hb
   replace G105 := gb_ G105 hb
   replace G114 := gb_ G114 hb
   replace L := lb_ L hb
   clear hb
   have e6_ : (e6 != e6) = false := by simp
   have e8_ : (e8 != e8) = false := by simp
   have p119 := G87.out.cell 0 _ rfl
   have p120 := G87.out.cell 1 _ rfl
   have p121 := G96.out.cell 0 _ rfl
   have p122 := G96.out.cell 1 _ rfl
   go_wp2_with fail
   obtain ⟨k, hk⟩ := KB.out.f6
   refine (laws_whole5.calls k su A83 c84 lu su A92 c93 lu true _ (V85.out.c) (V85.out.le) (V94.out.c) (V94.out.le) hk).mono ?_
   rintro x w1 ⟨rfl, hb⟩
   clear p119 p120 p121 p122
   replace V71 := vb_ V71 hb
   replace V74 := vb_ V74 hb
   replace V85 := vb_ V85 hb
   replace V94 := vb_ V94 hb
   replace V103 := vb_ V103 hb
   replace V112 := vb_ V112 hb
   replace G76 := gb_ G76 hb
   replace G78 := gb_ G78 hb
   replace G87 := gb_ G87 hb
   replace G96 := gb_ G96 hb
   replace G105 := gb_ G105 hb
   replace G114 := gb_ G114 hb
   replace L := lb_ L hb
   clear hb hk
   have p123 := G105.out.cell 0 _ rfl
   have p124 := G105.out.cell 1 _ rfl
   have p125 := G114.out.cell 0 _ rfl
   have p126 := G114.out.cell 1 _ rfl
   go_wp2_with fail
   obtain ⟨k, hk⟩ := KB.out.f7
   refine (laws_whole5.calls k sv A101 c102 lv sv A110 c111 lv true _ (V103.out.c) (V103.out.le) (V112.out.c) (V112.out.le) hk).mono ?_
   rintro x w1 ⟨rfl, hb⟩
   clear p123 p124 p125 p126
   replace V71 := vb_ V71 hb
   replace V74 := vb_ V74 hb
   replace V85 := vb_ V85 hb
   replace V94 := vb_ V94 hb
   replace V103 := vb_ V103 hb
   replace V112 := vb_ V112 hb
   replace G76 := gb_ G76 hb
   replace G78 := gb_ G78 hb
   replace G87 := gb_ G87 hb
   replace G96 := gb_ G96 hb
   replace G105 := gb_ G105 hb
   replace G114 := gb_ G114 hb
   replace L := lb_ L hb
   clear hb hk
   clear e6_ e8_
   clear G96
   clear V94
   clear G114
   clear V112
   go_upto_if 199 with (fail)
   go_cut [] (fun wc => Aside0 (RO w wc (.slice A101 lv.length c102) lv) ∧ Aside0 (BX wc g104 #[.int .i64 sv, .slice A101 lv.length c102] 26) ∧ Aside0 (Below w.heap.size w wc))
   case first => as_aux_lemma =>
    by_cases hc_ : e6 = 0
    ·skip
     have hb_ : (e6 == 0) = true := by simpa using hc_
     obtain ⟨h1_, h2_⟩ := KB.out.f8 hc_; clear hc_; have H1 := am_ h1_; have H2 := am_ h2_; clear h1_ h2_
     have p127 := G87.out.cell 0 _ rfl
     have p128 := G87.out.cell 1 _ rfl
     have p129 := G78.out.cell 0 _ rfl
     have p130 := G78.out.cell 1 _ rfl
     go_wp2_with fail
     refine (impl_SubtractWholes.calls su A83 c84 lu sd A72 c73 ld sc lc 0 _ (V85.out.c) (V85.out.le) (V74.out.c) (V74.out.le) H1.out).mono ?_
     rintro x w1 ⟨v0_, rfl, hr0_, hb⟩
     clear p127 p128 p129 p130
     obtain ⟨A131, c132, rfl⟩ := Kd.R_slice hr0_
     have V133 := am_ (RO.of (w := w) hr0_ L.out.size)
     replace V71 := vb_ V71 hb
     replace V74 := vb_ V74 hb
     replace V85 := vb_ V85 hb
     replace V103 := vb_ V103 hb
     replace G76 := gb_ G76 hb
     replace G78 := gb_ G78 hb
     replace G87 := gb_ G87 hb
     replace G105 := gb_ G105 hb
     replace L := lb_ L hb
     clear hb hr0_
     go_upto_region 26 with fail
     obtain ⟨w1, g134, e1, e2, hB, hb⟩ := new_box _ #[.int .i64 sc, .slice A131 lc.length c132] 26
     rw [← e1]; try rw [← e2]
     have G135 := am_ hB
     replace V71 := vb_ V71 hb
     replace V74 := vb_ V74 hb
     replace V85 := vb_ V85 hb
     replace V103 := vb_ V103 hb
     replace V133 := vb_ V133 hb
     replace G76 := gb_ G76 hb
     replace G78 := gb_ G78 hb
     replace G87 := gb_ G87 hb
     replace G105 := gb_ G105 hb
     replace L := lb_ L hb
     clear hB hb e1 e2
     have p136 := G135.out.cell 0 _ rfl
     have p137 := G135.out.cell 1 _ rfl
     have p138 := G76.out.cell 0 _ rfl
     have p139 := G76.out.cell 1 _ rfl
     go_wp2_with fail
     obtain ⟨k, hk⟩ := H2.out
     refine (laws_whole5.calls k sc A131 c132 lc sc A69 c70 lc true _ (V133.out.c) (V133.out.le) (V71.out.c) (V71.out.le) hk).mono ?_
     rintro x w1 ⟨rfl, hb⟩
     clear p136 p137 p138 p139
     replace V71 := vb_ V71 hb
     replace V74 := vb_ V74 hb
     replace V85 := vb_ V85 hb
     replace V103 := vb_ V103 hb
     replace V133 := vb_ V133 hb
     replace G76 := gb_ G76 hb
     replace G78 := gb_ G78 hb
     replace G87 := gb_ G87 hb
     replace G105 := gb_ G105 hb
     replace G135 := gb_ G135 hb
     replace L := lb_ L hb
     clear hb hk
     go_wp2
     go_meet
     case rel => exact ⟨V103, G105, L⟩
    ·skip
     have hb_ : (e6 == 0) = false := by simpa using hc_
     go_wp2
     go_meet
     case rel => exact ⟨V103, G105, L⟩
   case rest => as_aux_lemma =>
    clear V71 V74 V85 V103 G76 G78 G87 G105 L
    obtain ⟨V103, G105, L⟩ := hcut
    have p140 := G105.out.cell 0 _ rfl
    have p141 := G105.out.cell 1 _ rfl
    go_upto_region 28 with fail
    go_cut [225] (fun v225 wc => v225 = .bool false ∧ Aside0 (Below w.heap.size w wc))
    case first => as_aux_lemma =>
     by_cases hc_ : e8 = 0
     ·skip
      have hb_ : (e8 == 0) = true := by simpa using hc_
      obtain ⟨h1_, h2_⟩ := KB.out.f9 hc_; subst h1_; subst h2_; clear hc_
      have ho_ : (o != o) = false := by simp
      go_wp2
      go_meet
      case rel => exact ⟨rfl, L⟩
     ·skip
      have hb_ : (e8 == 0) = false := by simpa using hc_
      clear hc_
      go_wp2
      go_meet
      case rel => exact ⟨rfl, L⟩
    case rest => as_aux_lemma =>
     clear V103 G105 L p140 p141
     obtain ⟨rfl, L⟩ := hcut
     clear KB
     obtain ⟨n, sm, lm, k_⟩ := HK.out.2.2.1
     have KC := am_ k_; clear k_
     go_wp2_with fail
     obtain ⟨k, hk⟩ := KC.out.f0
     refine (spec_DrawWholeOf.calls k A c l n _ (Kd.C_below HR.out L.out) (HC.out) hk).mono ?_
     rintro x w1 ⟨rfl, hb⟩
     replace L := lb_ L hb
     clear hb hk
     go_wp2_with fail
     refine (impl_WholeOf.calls n sm lm 0 _  KC.out.f1).mono ?_
     rintro x w1 ⟨v0_, rfl, hr0_, hb⟩
     obtain ⟨A142, c143, rfl⟩ := Kd.R_slice hr0_
     have V144 := am_ (RO.of (w := w) hr0_ L.out.size)
     replace L := lb_ L hb
     clear hb hr0_
     go_upto_region 32 with fail
     obtain ⟨w1, g145, e1, e2, hB, hb⟩ := new_box _ #[.int .i64 sm, .slice A142 lm.length c143] 26
     rw [← e1]; try rw [← e2]
     have G146 := am_ hB
     replace V144 := vb_ V144 hb
     replace L := lb_ L hb
     clear hB hb e1 e2
     have p147 := G146.out.cell 0 _ rfl
     have p148 := G146.out.cell 1 _ rfl
     go_wp2_with fail
     refine (impl_IntegerOf.calls sm A142 c143 lm n 0 _ (V144.out.c) (V144.out.le) KC.out.f2).mono ?_
     rintro x w1 ⟨rfl, hb⟩
     clear p147 p148
     replace V144 := vb_ V144 hb
     replace G146 := gb_ G146 hb
     replace L := lb_ L hb
     clear hb
     have en_ : (n != n) = false := by simp
     have p149 := G146.out.cell 0 _ rfl
     have p150 := G146.out.cell 1 _ rfl
     go_wp2_with fail
     refine (impl_IsWhole.calls sm A142 c143 lm true _ (V144.out.c) (V144.out.le) KC.out.f3).mono ?_
     rintro x w1 ⟨rfl, hb⟩
     clear p149 p150
     replace V144 := vb_ V144 hb
     replace G146 := gb_ G146 hb
     replace L := lb_ L hb
     clear hb
     clear en_ KC
     clear G146
     clear V144
     obtain ⟨sg, lg, y, e14, k_⟩ := HK.out.2.2.2
     have KD := am_ k_; clear k_
     go_wp2_with fail
     obtain ⟨k, hk⟩ := KD.out.f0
     refine (spec_DrawIntegerOf.calls k A c l sg lg _ (Kd.C_below HR.out L.out) (HC.out) hk).mono ?_
     rintro x w1 ⟨v0_, rfl, hr0_, hb⟩
     obtain ⟨A151, c152, rfl⟩ := Kd.R_slice hr0_
     have V153 := am_ (RO.of (w := w) hr0_ L.out.size)
     replace L := lb_ L hb
     clear hb hk hr0_
     go_upto_region 36 with fail
     obtain ⟨w1, g154, e1, e2, hB, hb⟩ := new_box _ #[.int .i64 sg, .slice A151 lg.length c152] 26
     rw [← e1]; try rw [← e2]
     have G155 := am_ hB
     replace V153 := vb_ V153 hb
     replace L := lb_ L hb
     clear hB hb e1 e2
     have p156 := G155.out.cell 0 _ rfl
     have p157 := G155.out.cell 1 _ rfl
     go_wp2_with fail
     refine (impl_IntegerOf.calls sg A151 c152 lg y e14 _ (V153.out.c) (V153.out.le) KD.out.f1).mono ?_
     rintro x w1 ⟨rfl, hb⟩
     clear p156 p157
     replace V153 := vb_ V153 hb
     replace G155 := gb_ G155 hb
     replace L := lb_ L hb
     clear hb
     have p158 := G155.out.cell 0 _ rfl
     have p159 := G155.out.cell 1 _ rfl
     go_wp2_with fail
     obtain ⟨k, hk⟩ := KD.out.f2
     refine (spec_IntegerOf.calls k sg A151 c152 lg y e14 _ (V153.out.c) (V153.out.le) hk).mono ?_
     rintro x w1 ⟨rfl, hb⟩
     clear p158 p159
     replace V153 := vb_ V153 hb
     replace G155 := gb_ G155 hb
     replace L := lb_ L hb
     clear hb hk
     have ey_ : (y == y) = true := by simp
     have e14_ : (e14 == e14) = true := by simp
     go_wp2
     go_ret
     exact ⟨rfl, L.out⟩
end Go.Proofs.YtlkomiiijhphnaaDoor
