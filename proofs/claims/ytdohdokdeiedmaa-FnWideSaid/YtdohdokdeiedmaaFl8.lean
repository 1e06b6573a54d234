/- The law FnWide walked: it answers true at every code. Printed by genwide.py. -/
import Derived.Test.YtdohdokdeiedmaaFl6
import Derived.Test.YtdohdokdeiedmaaFl7
namespace Go.Proofs.Ytdohdokdeiedmaa
open Go Go.RowKit Go.Proofs.Ytdohdokdeiedmaa.Fl Go.Proofs.Ytdohdokdeiedmaa.P Go.Proofs.YtdohdokdeiedmaaW.PrintWords Go.Proofs.YtdohdokdeiedmaaW.PrintLast Go.Proofs.YtdohdokdeiedmaaW.PrintMore
set_option linter.unusedVariables false
set_option linter.unusedSimpArgs false
attribute [local go_sem] run_add run_sub run_mul run_quo run_cadd run_csub run_neg run_cneg

theorem parts_mk (a b : Nat) (c : Int) : parts (a, b, c) = .tuple #[.complex .f64 a b, .int .i64 c] := rfl
theorem below_drewN {w w' : World} {n : Nat} (h : Below w.heap.size w w') : Below w.heap.size w (w'.drewN n) := pw_below_drewN h n
set_option maxRecDepth 100000 in
set_option maxHeartbeats 4000000 in
theorem FnWide_calls (w : World) (A : Option Addr) (c : Nat) (l : List Int) (h : Code8 w A c l) : Calls Try.prog 3 #[.slice A l.length c] w fun e w' => e = .returned (.bool true) ∧ Below w.heap.size w w' := by
  cases hbig : decide ((l.length : Int) > 4096)
  case true =>
    go_enter Try.func3, Try.ntmps3
    go_wp2_with fail
    refine (laws_big.calls A c l true w h.r h.c (by unfold laws_big.f; rw [hbig])).mono ?_
    rintro e w1 ⟨rfl, hd⟩
    have hb := hd.below
    clear hd
    go_wp2
    go_ret
    exact ⟨rfl, hb⟩
  case false =>
    go_enter Try.func3, Try.ntmps3
    go_wp2_with fail
    refine (laws_big.calls A c l false w h.r h.c (by unfold laws_big.f; rw [hbig])).mono ?_
    rintro e w1 ⟨rfl, hd⟩
    have L := Aside0.mk (hd.below)
    clear hd hbig
    have HC := Aside0.mk h; clear h
    go_wp2_with fail
    refine (drawMul_calls _ A c l (HC.out.below L.out)).mono ?_
    rintro e w2 ⟨⟨v, rfl, a, b, x, y, rfl, ha, hb, hx, hy⟩, hB⟩
    replace L := Aside0.mk (L.out.trans (hB.mono L.out.size)); clear hB
    obtain ⟨p1, p2, p3, hp⟩ : ∃ u v z, wide2 addO a b x y = (u, v, z) := ⟨_, _, _, rfl⟩
    obtain ⟨q1, q2, q3, hq⟩ : ∃ u v z, wide2 mulO a b x y = (u, v, z) := ⟨_, _, _, rfl⟩
    obtain ⟨m1, m2, m3, hm⟩ : ∃ u v z, wide2 subO a b x y = (u, v, z) := ⟨_, _, _, rfl⟩
    have ep : (p3 != p3) = false := by simp
    have eq : (q3 != q3) = false := by simp
    have em : (m3 != m3) = false := by simp
    have t1 := (wide2_comm addO_comm x y a b).trans hp
    have t2 := (wide2_comm mulO_comm x y a b).trans hq
    have t3 := (sub_neg a b hx hy).trans hm
    have z1 := @wide2_zero subO a b x y
    rw [hm] at z1
    simp only at z1
    have Z1 := Aside0.mk z1; clear z1
    go_wp2_with fail
    refine (AddWide_calls a b x y _).mono ?_
    rintro e w_ ⟨rfl, n, rfl⟩
    rw [hp, parts_mk]
    go_wp2_with fail
    refine (specAddWide_calls a b x y _).mono ?_
    rintro e w_ ⟨rfl, n, rfl⟩
    rw [hp, parts_mk]
    go_wp2_with fail
    refine (MultiplyWide_calls a b x y _).mono ?_
    rintro e w_ ⟨rfl, n, rfl⟩
    rw [hq, parts_mk]
    go_wp2_with fail
    refine (specMultiplyWide_calls a b x y _).mono ?_
    rintro e w_ ⟨rfl, n, rfl⟩
    rw [hq, parts_mk]
    go_wp2_with fail
    refine (SubtractWide_calls a b x y _).mono ?_
    rintro e w_ ⟨rfl, n, rfl⟩
    rw [hm, parts_mk]
    go_wp2_with fail
    refine (specSubtractWide_calls a b x y _).mono ?_
    rintro e w_ ⟨rfl, n, rfl⟩
    rw [hm, parts_mk]
    go_wp2_with fail
    refine (same5_self p1 p2 _).mono ?_
    rintro e w_ ⟨rfl, n, rfl⟩
    go_wp2_with fail
    refine (same5_self q1 q2 _).mono ?_
    rintro e w_ ⟨rfl, n, rfl⟩
    go_wp2_with fail
    refine (same5_self m1 m2 _).mono ?_
    rintro e w_ ⟨rfl, n, rfl⟩
    obtain ⟨bb, hbb⟩ : ∃ z, (isFin a && isFin b) = z := ⟨_, rfl⟩
    have ebb : (bb != bb) = false := by simp
    go_wp2_with fail
    refine (isFinite_calls a b _).mono ?_
    rintro e w_ ⟨rfl, n, rfl⟩
    rw [hbb]
    go_wp2_with fail
    refine (specIsFinite_calls a b _).mono ?_
    rintro e w_ ⟨rfl, n, rfl⟩
    rw [hbb]
    go_wp2_with fail
    refine (AddWide_calls x y a b _).mono ?_
    rintro e w_ ⟨rfl, n, rfl⟩
    rw [t1, parts_mk]
    go_wp2_with fail
    refine (MultiplyWide_calls x y a b _).mono ?_
    rintro e w_ ⟨rfl, n, rfl⟩
    rw [t2, parts_mk]
    go_wp2_with fail
    refine (same5_self p1 p2 _).mono ?_
    rintro e w_ ⟨rfl, n, rfl⟩
    go_wp2_with fail
    refine (same5_self q1 q2 _).mono ?_
    rintro e w_ ⟨rfl, n, rfl⟩
    go_wp2_with fail
    refine (AddWide_calls a b (Op.negFloat .f64 x) (Op.negFloat .f64 y) _).mono ?_
    rintro e w_ ⟨rfl, n, rfl⟩
    rw [t3, parts_mk]
    by_cases hm0 : m3 = 0
    · skip
      have em0 : (m3 == 0) = true := by simpa using hm0
      obtain ⟨n1, n2⟩ := Z1.out hm0
      have o1 := order_self n1; have o2 := order_self n2
      clear hm0 n1 n2 Z1
      go_wp2_with fail
      refine (drawDiv_calls _ A c l (HC.out.below (below_drewN L.out))).mono ?_
      rintro e w3 ⟨⟨v, rfl, a2, b2, x2, y2, rfl, ha2, hb2, hx2, hy2⟩, hB⟩
      replace L := Aside0.mk ((below_drewN L.out).trans (hB.mono (below_drewN L.out).size)); clear hB
      obtain ⟨d1, d2, d3, hd⟩ : ∃ u v z, divW a2 b2 x2 y2 = (u, v, z) := ⟨_, _, _, rfl⟩
      have ed : (d3 != d3) = false := by simp
      obtain ⟨s1, s2, s3, hs⟩ : ∃ u v z, divW a2 b2 a2 b2 = (u, v, z) := ⟨_, _, _, rfl⟩
      have z2 := @div_self a2 b2; rw [hs] at z2; simp only at z2; have Z2 := Aside0.mk z2; clear z2
      go_wp2_with fail
      refine (DivideWide_calls a2 b2 x2 y2 hx2 hy2 _).mono ?_
      rintro e w_ ⟨rfl, n, rfl⟩
      rw [hd, parts_mk]
      go_wp2_with fail
      refine (specDivideWide_calls a2 b2 x2 y2 hx2 hy2 _).mono ?_
      rintro e w_ ⟨rfl, n, rfl⟩
      rw [hd, parts_mk]
      go_wp2_with fail
      refine (same5_self d1 d2 _).mono ?_
      rintro e w_ ⟨rfl, n, rfl⟩
      go_wp2_with fail
      refine (DivideWide_calls a2 b2 a2 b2 ha2 hb2 _).mono ?_
      rintro e w_ ⟨rfl, n, rfl⟩
      rw [hs, parts_mk]
      by_cases h3 : s3 = 0
      · skip
        have es : (s3 != 0) = false := by simpa using h3
        have e1 := Z2.out h3; subst e1
        have eo : FloatKind.f64.format.order 4607182418800017408 4607182418800017408 = some .eq := order_self (by decide)
        clear h3
        go_wp2
        go_ret
        exact ⟨rfl, below_drewN L.out⟩
      · skip
        have es : (s3 != 0) = true := by simpa using h3
        clear h3
        go_wp2
        go_ret
        exact ⟨rfl, below_drewN L.out⟩
    · skip
      have em0 : (m3 == 0) = false := by simpa using hm0
      clear hm0 Z1
      go_wp2_with fail
      refine (drawDiv_calls _ A c l (HC.out.below (below_drewN L.out))).mono ?_
      rintro e w3 ⟨⟨v, rfl, a2, b2, x2, y2, rfl, ha2, hb2, hx2, hy2⟩, hB⟩
      replace L := Aside0.mk ((below_drewN L.out).trans (hB.mono (below_drewN L.out).size)); clear hB
      obtain ⟨d1, d2, d3, hd⟩ : ∃ u v z, divW a2 b2 x2 y2 = (u, v, z) := ⟨_, _, _, rfl⟩
      have ed : (d3 != d3) = false := by simp
      obtain ⟨s1, s2, s3, hs⟩ : ∃ u v z, divW a2 b2 a2 b2 = (u, v, z) := ⟨_, _, _, rfl⟩
      have z2 := @div_self a2 b2; rw [hs] at z2; simp only at z2; have Z2 := Aside0.mk z2; clear z2
      go_wp2_with fail
      refine (DivideWide_calls a2 b2 x2 y2 hx2 hy2 _).mono ?_
      rintro e w_ ⟨rfl, n, rfl⟩
      rw [hd, parts_mk]
      go_wp2_with fail
      refine (specDivideWide_calls a2 b2 x2 y2 hx2 hy2 _).mono ?_
      rintro e w_ ⟨rfl, n, rfl⟩
      rw [hd, parts_mk]
      go_wp2_with fail
      refine (same5_self d1 d2 _).mono ?_
      rintro e w_ ⟨rfl, n, rfl⟩
      go_wp2_with fail
      refine (DivideWide_calls a2 b2 a2 b2 ha2 hb2 _).mono ?_
      rintro e w_ ⟨rfl, n, rfl⟩
      rw [hs, parts_mk]
      by_cases h3 : s3 = 0
      · skip
        have es : (s3 != 0) = false := by simpa using h3
        have e1 := Z2.out h3; subst e1
        have eo : FloatKind.f64.format.order 4607182418800017408 4607182418800017408 = some .eq := order_self (by decide)
        clear h3
        go_wp2
        go_ret
        exact ⟨rfl, below_drewN L.out⟩
      · skip
        have es : (s3 != 0) = true := by simpa using h3
        clear h3
        go_wp2
        go_ret
        exact ⟨rfl, below_drewN L.out⟩
end Go.Proofs.Ytdohdokdeiedmaa
