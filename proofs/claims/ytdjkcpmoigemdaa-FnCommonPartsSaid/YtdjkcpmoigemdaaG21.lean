/- Common parts, the reference's. No conditions beyond those of each theorem. Printed by genpr4.py. -/
import Derived.Test.YtdjkcpmoigemdaaG20
namespace Go.Proofs.Ytdjkcpmoigemdaa
open Go Ieee Go.RowKit Go.Proofs.Ytdjkcpmoigemdaa.Fl Go.Proofs.Ytdjkcpmoigemdaa.Fx Go.Proofs.Ytdjkcpmoigemdaa.P Go.Proofs.YtdjkcpmoigemdaaW.PrintWords Go.Proofs.YtdjkcpmoigemdaaW.PrintLast Go.Proofs.YtdjkcpmoigemdaaW.PrintMore
set_option linter.unusedVariables false
set_option linter.unusedSimpArgs false
attribute [local go_sem] run_add run_sub run_mul run_quo run_cadd run_csub run_neg run_cneg conv_f run_store_cx
set_option maxRecDepth 100000 in
set_option maxHeartbeats 8000000 in
theorem specCommonPart_calls (A B : Option Addr) (c d : Nat) (ps qs : Cs) (t : Nat) (w : World) (hr : cxk.C w A ps.length ps) (hr2 : cxk.C w B qs.length qs) (hl : ps.length ≤ 1000000000) (hl2 : qs.length ≤ 1000000000) (hd : qs.length ≤ d) (wp : Wo ps) (wq : Wo qs) : Calls Try.prog 8 #[.slice A ps.length c, .slice B qs.length d, .float .f64 t] w fun e w' => Res w (comP ps qs t) e w' := by
 have HR := Aside0.mk hr; have HR2 := Aside0.mk hr2; have HL := Aside0.mk hl; have HL2 := Aside0.mk hl2; have HD := Aside0.mk hd; have WP := Aside0.mk wp; have WQ := Aside0.mk wq
 clear hr hr2 hl hl2 hd wp wq
 cases h1 : polyB ps
 ·rw [comP_a h1]
  go_enter Try.func8, Try.ntmps8
  go_wp2_with fail
  refine (l04Is_calls A c ps _ HR.out HL.out).mono ?_
  rintro e w1 ⟨rfl, n1, rfl⟩
  rw [h1]
  go_wp2
  go_ret2
  exact Res.none_ (by repeat (first | exact Below.refl _ _ | refine pw_below_drewN ?_ _))
 cases h2 : polyB qs
 ·rw [comP_b h1 h2]
  go_enter Try.func8, Try.ntmps8
  go_wp2_with fail
  refine (l04Is_calls A c ps _ HR.out HL.out).mono ?_
  rintro e w1 ⟨rfl, n1, rfl⟩
  rw [h1]
  go_wp2_with fail
  refine (l04Is_calls B d qs _ (Kd.C_drewN HR2.out _) HL2.out).mono ?_
  rintro e w1 ⟨rfl, n2, rfl⟩
  rw [h2]
  go_wp2
  go_ret2
  exact Res.none_ (by repeat (first | exact Below.refl _ _ | refine pw_below_drewN ?_ _))
 cases h3 : isFin t
 ·rw [comP_c h1 h2 h3]
  go_enter Try.func8, Try.ntmps8
  go_wp2_with fail
  refine (l04Is_calls A c ps _ HR.out HL.out).mono ?_
  rintro e w1 ⟨rfl, n1, rfl⟩
  rw [h1]
  go_wp2_with fail
  refine (l04Is_calls B d qs _ (Kd.C_drewN HR2.out _) HL2.out).mono ?_
  rintro e w1 ⟨rfl, n2, rfl⟩
  rw [h2]
  go_wp2_with fail
  refine (l01Real_calls t _).mono ?_
  rintro e w1 ⟨rfl, n3, rfl⟩
  rw [h3]
  go_wp2
  go_ret2
  exact Res.none_ (by repeat (first | exact Below.refl _ _ | refine pw_below_drewN ?_ _))
 cases h4 : (FloatKind.f64.format.order t 0 == some .lt)
 case true =>
  rw [comP_d h1 h2 h3 h4]
  go_enter Try.func8, Try.ntmps8
  go_wp2_with fail
  refine (l04Is_calls A c ps _ HR.out HL.out).mono ?_
  rintro e w1 ⟨rfl, n1, rfl⟩
  rw [h1]
  go_wp2_with fail
  refine (l04Is_calls B d qs _ (Kd.C_drewN HR2.out _) HL2.out).mono ?_
  rintro e w1 ⟨rfl, n2, rfl⟩
  rw [h2]
  go_wp2_with fail
  refine (l01Real_calls t _).mono ?_
  rintro e w1 ⟨rfl, n3, rfl⟩
  rw [h3]
  go_wp2
  go_ret2
  exact Res.none_ (by repeat (first | exact Below.refl _ _ | refine pw_below_drewN ?_ _))
 cases h5 : (FloatKind.f64.format.order t 4607182418800017408 == some .gt)
 case true =>
  rw [comP_e h1 h2 h3 h4 h5]
  go_enter Try.func8, Try.ntmps8
  go_wp2_with fail
  refine (l04Is_calls A c ps _ HR.out HL.out).mono ?_
  rintro e w1 ⟨rfl, n1, rfl⟩
  rw [h1]
  go_wp2_with fail
  refine (l04Is_calls B d qs _ (Kd.C_drewN HR2.out _) HL2.out).mono ?_
  rintro e w1 ⟨rfl, n2, rfl⟩
  rw [h2]
  go_wp2_with fail
  refine (l01Real_calls t _).mono ?_
  rintro e w1 ⟨rfl, n3, rfl⟩
  rw [h3]
  go_wp2
  go_ret2
  exact Res.none_ (by repeat (first | exact Below.refl _ _ | refine pw_below_drewN ?_ _))
 rw [comP_f h1 h2 h3 h4 h5]
 obtain ⟨X, hX⟩ : ∃ X, comG t qs.length ps qs = X := ⟨_, rfl⟩
 rw [hX]
 have HX := Aside0.mk hX
 have P1 := Aside0.mk (polyB_of h1); have P2 := Aside0.mk (polyB_of h2)
 have HT := Aside0.mk (tol_of h3 h4)
 clear hX
 go_enter Try.func8, Try.ntmps8
 go_wp2_with fail
 refine (l04Is_calls A c ps _ HR.out HL.out).mono ?_
 rintro e w1 ⟨rfl, n1, rfl⟩
 rw [h1]
 go_wp2_with fail
 refine (l04Is_calls B d qs _ (Kd.C_drewN HR2.out _) HL2.out).mono ?_
 rintro e w1 ⟨rfl, n2, rfl⟩
 rw [h2]
 go_wp2_with fail
 refine (l01Real_calls t _).mono ?_
 rintro e w1 ⟨rfl, n3, rfl⟩
 rw [h3]
 clear h1 h2 h3
 go_wp2_with fail
 refine (l04Own_calls A c ps _ (Kd.C_drewN HR.out _) (by have := P1.out; omega)).mono ?_
 rintro e w4 ⟨v4, rfl, o4⟩
 have O4 := Aside0.mk (o4.lower (show Below w.heap.size w _ from by repeat (first | exact Below.refl _ _ | refine pw_below_drewN ?_ _)))
 clear o4
 go_wp2_with fail
 refine (l04Own_calls B d qs _ (Kd.C_below HR2.out O4.out.low) (by have := P2.out; omega)).mono ?_
 rintro e w5 ⟨v5, rfl, o5⟩
 replace O4 := Aside0.mk (O4.out.below o5.low)
 obtain ⟨A4, c4, rfl, k1, k2⟩ := O4.out.reads
 obtain ⟨A5, c5, rfl, k3, k4⟩ := o5.reads
 have HC := Aside0.mk (And.intro k2 (And.intro k4 k3))
 clear o5 k1 k2 k3 k4
 go_wp2_with fail
 go_loopg [8, 9] qs.length (fun g v u w' => Aside0 (ComAt X t w w' v u g))
 case atStart => exact ⟨⟨A4, c4, ps, A5, c5, qs, rfl, rfl, HC.out.1, HC.out.2.1, HC.out.2.2, ⟨P1.out.2.2.1, WP.out⟩, ⟨P2.out.2.2.1, WQ.out⟩, P1.out.2.1, P2.out.2.1, by have := P2.out.1; omega, P2.out.2.2.2, HX.out, Nat.le_refl _, O4.out.low⟩⟩
 case round =>
  clear HC O4
  obtain ⟨A, ca, ys, B, cb, bs, rfl, rfl, hA, hB, hcb, ga, gb, la, lb, lb1, hz, hx, hg, hlow⟩ := hrel.out.at_
  clear hrel
  have HA := Aside0.mk hA; have HB := Aside0.mk (And.intro hB hcb); have GA := Aside0.mk ga; have GB := Aside0.mk gb
  have HLL := Aside0.mk (show ys.length ≤ 13 ∧ bs.length ≤ 13 ∧ 1 ≤ bs.length from ⟨la, lb, lb1⟩)
  have HZ := Aside0.mk hz; have HS := Aside0.mk hx; have LOW := Aside0.mk hlow; have HG := Aside0.mk hg
  obtain ⟨L, hL⟩ : ∃ L : Int, (bs.length : Int) = L := ⟨_, rfl⟩
  have HLI := Aside0.mk hL
  clear hA hB hcb ga gb la lb lb1 hz hx hlow hg
  by_cases hone : bs.length ≤ 1
  case pos =>
   have hl' : decide (L ≥ 2) = false := decide_eq_false (by omega)
   have HXE := Aside0.mk (show X = ([one_n], 0) by rw [← HS.out]; cases gk with
    | zero => rfl
    | succ m => unfold comG; rw [if_pos hone])
   obtain ⟨B1, d1, e1, k1, k2, k3⟩ := Own.one_last LOW.out one_n
   have HK := Aside0.mk (And.intro e1 (And.intro k1 (And.intro k2 k3)))
   clear hone e1 k1 k2 k3
   go_wp2
   go_ret2
   rw [HXE.out]
   exact ⟨B1, d1, by rw [← HK.out.1]; rfl, HK.out.2.1, HK.out.2.2.1, HK.out.2.2.2⟩
  have hl' : decide (L ≥ 2) = true := decide_eq_true (by omega)
  cases gk with
  | zero => exact absurd HG.out (by have := HLL.out; omega)
  | succ m =>
   have KEY := Aside0.mk (show (match divP ys bs with | none => ([], 3) | some p => if cutN t p.2 p.2.length = 0 then monX bs else comG t m bs (p.2.take (cutN t p.2 p.2.length)) : Cs × Int) = X by
    have h := HS.out
    unfold comG at h
    rw [if_neg hone] at h
    exact h)
   clear HS hone
   cases hd : divP ys bs with
   | none =>
    have HXE := Aside0.mk (show X = ([], 3) by have h := KEY.out; rw [hd] at h; exact h.symm)
    go_wp2_with fail
    refine (l04Divide_calls A B ca cb ys bs _ HA.out HB.out.1 (by have := HLL.out; omega) HLL.out.2.2 (by have := HLL.out; omega) HB.out.2 GA.out GB.out HZ.out).mono ?_
    rw [hd]
    rintro e w2 ⟨rfl, hb⟩
    replace LOW := Aside0.mk (LOW.out.trans (hb.mono LOW.out.size))
    clear hb hd
    go_wp2
    go_ret2
    rw [HXE.out]
    exact Res.none_ LOW.out
   | some p =>
    obtain ⟨quo, rs⟩ := p
    have KEY2 := Aside0.mk (show (if cutN t rs rs.length = 0 then monX bs else comG t m bs (rs.take (cutN t rs rs.length))) = X by have h := KEY.out; rw [hd] at h; exact h)
    have HRL := Aside0.mk (show rs.length < bs.length from divP_len hd HLL.out.2.2)
    have GR := Aside0.mk (show Good rs from divS_good _ _ _ _ _ GA.out hd)
    clear KEY
    go_wp2_with fail
    refine (l04Divide_calls A B ca cb ys bs _ HA.out HB.out.1 (by have := HLL.out; omega) HLL.out.2.2 (by have := HLL.out; omega) HB.out.2 GA.out GB.out HZ.out).mono ?_
    rw [hd]
    rintro e w2 ⟨A2, c2, A3, c3, rfl, k1, k2, k3, k4, hb, -, -⟩
    obtain ⟨w9, hw9⟩ : ∃ w9, w9 = w2 := ⟨_, rfl⟩
    subst hw9
    have HC := Aside0.mk (show cxk.C w9 A3 rs.length rs ∧ rs.length ≤ c3 from ⟨k3, k4⟩)
    replace LOW := Aside0.mk (LOW.out.trans (hb.mono LOW.out.size))
    replace HB := Aside0.mk (And.intro (Kd.C_below HB.out.1 hb) HB.out.2)
    obtain ⟨T, hT⟩ : ∃ T, cutN t rs rs.length = T := ⟨_, rfl⟩
    rw [hT] at KEY2
    have HTL := Aside0.mk (show T ≤ rs.length from hT ▸ cutN_le _ _ _)
    have HT2 := Aside0.mk hT
    have HTZ := Aside0.mk (show ∀ m, T = m + 1 → zero_ (at_ rs m) = false from fun m e => cutN_last HT.out GR.out.1 _ (Nat.le_refl _) m (hT.trans e))
    obtain ⟨R1, hR1⟩ : ∃ R1 : Nat, rs.length = R1 := ⟨_, rfl⟩
    have HR1 := Aside0.mk hR1
    obtain ⟨R, hR⟩ : ∃ R : Int, (R1 : Int) = R := ⟨_, rfl⟩
    have HRI := Aside0.mk hR
    clear k1 k2 k3 k4 hb hd hT
    go_wp2_with fail
    try simp only [hR1]
    try simp only [hR]
    go_loopg [13] R1 (fun g u w' => u = .int .i64 (g : Int) ∧ Aside0 (cutN t rs g = T ∧ g ≤ rs.length ∧ Below w9.heap.size w9 w'))
    case atStart => exact ⟨by first | rfl | rw [HRI.out], ⟨by rw [← HR1.out]; exact HT2.out, by have := HR1.out; omega, Below.refl _ _⟩⟩
    case round =>
     obtain ⟨rfl, hj⟩ := hrel
     have HJ := Aside0.mk hj.out
     clear hj
     have LO2 := Aside0.mk (LOW.out.trans (HJ.out.2.2.mono LOW.out.size))
     cases gk with
     | zero =>
      have hT0 : T = 0 := HJ.out.1.symm
      have hl2 : decide (((0 : Nat) : Int) > 0) = false := rfl
      have hnil : (((0 : Nat) : Int) == 0) = true := rfl
      have HXE := Aside0.mk (show monX bs = X by have h := KEY2.out; rw [hT0, if_pos rfl] at h; exact h)
      clear hT0
      cases hm : monL bs with
      | none =>
       have HXF := Aside0.mk (show X = ([], 3) by rw [← HXE.out]; unfold monX; rw [hm])
       go_wp2_with fail
       refine (l04Monic_calls B cb bs _ (Kd.C_below HB.out.1 HJ.out.2.2) HLL.out.2.1 HLL.out.2.2 GB.out.1 HZ.out).mono ?_
       rw [hm]
       rintro e w4 ⟨G, cap, rfl, k1, k2, k3⟩
       have LB := Aside0.mk (LO2.out.trans (k3.mono LO2.out.size))
       clear k1 k2 k3 hm
       go_wp2
       go_ret2
       rw [HXF.out]
       exact Res.none_ LB.out
      | some zs =>
       have HXF := Aside0.mk (show X = (zs, 0) by rw [← HXE.out]; unfold monX; rw [hm])
       go_wp2_with fail
       refine (l04Monic_calls B cb bs _ (Kd.C_below HB.out.1 HJ.out.2.2) HLL.out.2.1 HLL.out.2.2 GB.out.1 HZ.out).mono ?_
       rw [hm]
       rintro e w4 ⟨G, cap, rfl, k1, k2, k3⟩
       have LB := Aside0.mk (LO2.out.trans (k3.mono LO2.out.size))
       have HK := Aside0.mk (And.intro k1 k2)
       clear k1 k2 k3 hm
       go_wp2
       go_ret2
       rw [HXF.out]
       exact ⟨G, cap, rfl, HK.out.1, HK.out.2, LB.out⟩
     | succ n =>
      obtain ⟨k1, hk1⟩ : ∃ k1 : Nat, n + 1 = k1 := ⟨_, rfl⟩
      rw [hk1]
      have HK1 := Aside0.mk hk1
      obtain ⟨N, hN⟩ : ∃ N : Int, (k1 : Int) = N := ⟨_, rfl⟩
      have HN := Aside0.mk (show (k1 : Int) = N ∧ 1 ≤ N ∧ N ≤ 13 ∧ N - 1 = (n : Int) ∧ N ≤ R by have := HJ.out; have := HTL.out; have := HRL.out; have := HLL.out; have := HR1.out; omega)
      clear hk1
      have hl2 : decide (N > 0) = true := decide_eq_true (by have := HN.out; omega)
      obtain ⟨ad, rfl, hx⟩ := cx_at (Kd.C_below HC.out.1 HJ.out.2.2) (n : Int) (by omega) (by have := HJ.out; omega)
      rw [show (n : Int).toNat = N.toNat - 1 by have := HN.out; omega] at hx
      obtain ⟨⟨x1, x2⟩, hxx⟩ : ∃ z, at_ rs n = z := ⟨_, rfl⟩
      have hgx := GR.out.at_ (n : Int) (by omega) (by have := HJ.out; omega)
      rw [show rdOf (0, 0) rs (n : Int) = (x1, x2) from hxx] at hgx hx
      have GX := Aside0.mk hgx
      have hcut := HJ.out.1
      unfold cutN at hcut
      rw [hxx] at hcut
      have hw : wrap64 (N - 1) = N - 1 := by have := HN.out; exact w64 (by omega) (by omega)
      have p0 : 0 < N := by have := HN.out; omega
      have p1 : N ≤ 13 := HN.out.2.2.1
      have q0 := eq_true (show 1 ≤ N by omega)
      have q1 := eq_true (show N - 1 < R by have := HN.out; omega)
      clear hxx hgx
      cases hs : smal t (x1, x2)
      ·have HTE := Aside0.mk (show T = n + 1 by rw [hs] at hcut; exact hcut.symm)
       have hne : (N == 0) = false := by simp; omega
       unfold smal at hs
       obtain ⟨i0, hi1, -, -, -⟩ := info_parts info_cx
       have hsl := cut_to (P := Try.prog) 24 34 .i64 Try.underlying24 hi1 (some ad) R1 c3 N (by omega) (by have := HN.out; have := HRI.out; omega) (by have := HC.out.2; have := HR1.out; omega)
       have hlen : (rs.take T).length = T := by rw [List.length_take]; have := HTL.out; omega
       have hCt := Kd.C_take (Kd.C_below HC.out.1 HJ.out.2.2) HTL.out
       have hgt := GR.out.take T
       have hlz : lastZ (rs.take T) = false := lastZ_take (by have := HTE.out; omega) HTL.out (by rw [show T - 1 = n by have := HTE.out; omega]; exact HTZ.out n HTE.out)
       have hkx : comG t m bs (rs.take T) = X := by
        have h := KEY2.out
        rw [if_neg (by have := HTE.out; omega)] at h
        exact h
       obtain ⟨us, hus⟩ : ∃ us, rs.take T = us := ⟨_, rfl⟩
       rw [hus] at hlen hCt hgt hlz hkx
       have HLE := Aside0.mk hlen
       have HCT := Aside0.mk hCt
       have HUS := Aside0.mk (And.intro hgt (And.intro hlz hkx))
       rw [show N.toNat = us.length by rw [hlen]; have := HN.out; have := HTE.out; have := HK1.out; omega] at hsl
       clear hcut hi1 hlen hCt hgt hlz hkx hus
       go_wp2_with fail
       refine (l01Size_calls x1 x2 GX.out.2.1 GX.out.2.2 GX.out.1.1 GX.out.1.2 _).mono ?_
       rintro e w5 ⟨rfl, n5, rfl⟩
       go_wp2_with fail
       refine (l04Own_calls (some ad) c3 us _ (Kd.C_drewN HCT.out _) (by have := HLE.out; have := HTL.out; have := HRL.out; have := HLL.out; omega)).mono ?_
       rintro e w6 ⟨v6, rfl, o6⟩
       obtain ⟨A6, c6, rfl, k6, C6⟩ := o6.reads
       have H6 := Aside0.mk (And.intro k6 (And.intro C6 (show Below wr.heap.size wr w6 from by have h := o6.low; exact (pw_below_drewN (Below.refl wr.heap.size wr) n5).trans h)))
       clear o6 k6 C6 hsl
       go_wp2_with fail
       go_roundg m
       case measure => omega
       case rel =>
        have hT1 := HTE.out
        exact ⟨⟨B, cb, bs, A6, c6, us, rfl, rfl, Kd.C_below (Kd.C_below HB.out.1 HJ.out.2.2) H6.out.2.2, H6.out.2.1, H6.out.1, GB.out, HUS.out.1, HLL.out.2.1, by rw [HLE.out]; have := HTL.out; have := HRL.out; have := HLL.out; omega, by rw [HLE.out]; omega, HUS.out.2.1, HUS.out.2.2, by rw [HLE.out]; have := HTL.out; have := HRL.out; have := HG.out; omega, LO2.out.trans (H6.out.2.2.mono LO2.out.size)⟩⟩
      ·have HCT := Aside0.mk (show cutN t rs n = T by rw [hs, if_pos rfl] at hcut; exact hcut)
       unfold smal at hs
       clear hcut
       go_wp2_with fail
       refine (l01Size_calls x1 x2 GX.out.2.1 GX.out.2.2 GX.out.1.1 GX.out.1.2 _).mono ?_
       rintro e w5 ⟨rfl, n5, rfl⟩
       go_wp2_with fail
       go_roundg n
       case measure => omega
       case rel => exact ⟨by first | rw [hw, HN.out.2.2.2.1] | rw [HN.out.2.2.2.1], ⟨HCT.out, by have := HJ.out; omega, by repeat (first | exact HJ.out.2.2 | refine pw_below_drewN ?_ _)⟩⟩
end Go.Proofs.Ytdjkcpmoigemdaa
namespace Go.Proofs.Ytdjkcpmoigemdaa
open Go Ieee Go.RowKit Go.Proofs.Ytdjkcpmoigemdaa.Fl Go.Proofs.Ytdjkcpmoigemdaa.Fx Go.Proofs.Ytdjkcpmoigemdaa.P Go.Proofs.YtdjkcpmoigemdaaW.PrintWords Go.Proofs.YtdjkcpmoigemdaaW.PrintLast Go.Proofs.YtdjkcpmoigemdaaW.PrintMore
set_option linter.unusedVariables false
set_option linter.unusedSimpArgs false
attribute [local go_sem] run_add run_sub run_mul run_quo run_cadd run_csub run_neg run_cneg conv_f run_store_cx
theorem ResO.rdr {g : Nat} {w w' : World} {o : Option Cs} {e : Ending} (h : ResO w o e w') (hg : g < w.heap.size) (hw : ∀ zs, o = some zs → Wo zs ∧ zs.length ≤ 30) : ∃ (A : Option Addr) (c : Nat) (xs : Cs), e = .returned (.tuple #[.slice A xs.length c, .bool o.isSome]) ∧ Below w.heap.size w w' ∧ Rdr g w' A c xs := by
 cases o with
 | none =>
  obtain ⟨rfl, hb⟩ := h
  exact ⟨none, 0, [], rfl, hb, Kd.C_nil _ _, Nat.le_refl _, by simp, (fun p hp => by cases hp), (fun ad e => by cases e)⟩
 | some zs =>
  obtain ⟨v, rfl, ho⟩ := h
  have hz := hw zs rfl
  obtain ⟨A, c, rfl, hr⟩ := (ho.rw_ (g := g) (w := w) (Nat.le_refl _) hg hz.1).rdr hz.2
  exact ⟨A, c, zs, rfl, ho.low, hr⟩
theorem Rdr.grow {g : Nat} {w w' : World} {A : Option Addr} {c : Nat} {xs : Cs} (h : Rdr g w A c xs) (hk : Below w.heap.size w w') : Rdr g w' A c xs := h.below hk
set_option maxRecDepth 100000 in
set_option maxHeartbeats 8000000 in
theorem drawCommon_calls (w : World) (A0 : Option Addr) (c0 : Nat) (l : List Int) (h : Code8 w A0 c0 l) : Calls Try.prog 6 #[.slice A0 l.length c0] w fun e w' => ∃ A c xs B d ys t, e = .returned (.tuple #[.slice A xs.length c, .slice B ys.length d, .float .f64 t]) ∧ Inp w' A c xs ∧ Inp w' B d ys ∧ Below w.heap.size w w' := by
 go_enter Try.func6, Try.ntmps6
 go_wp2_with fail
 refine (from_calls w A0 c0 l h).mono ?_
 rintro e w1 ⟨g, rfl, hs⟩
 obtain ⟨w0, hw0⟩ : ∃ w0, w0 = w := ⟨w, rfl⟩
 rw [← hw0] at hs
 have HS := Aside0.mk hs
 clear hs h
 go_wp2_with fail
 refine (next_calls w0 _ g _ (HS.out).from_).mono ?_
 rintro e w_ ⟨r, rfl, hs, hr⟩
 replace HS := Aside0.mk ((HS.out).trans hs); clear hs
 clear hr
 go_upto_block 0 with (fail)
 go_cut [6] (fun v6 wc => ∃ b, v6 = .float .f64 b ∧ Aside0 (Src w1 w0 wc g))
 case first =>
  by_cases k0 : r = 0
  ·have d0 : (r == 0) = true := by simpa using k0
   clear k0
   go_wp2_with fail
   refine (float_calls w0 _ g (HS.out).from_).mono ?_
   rintro e w_ ⟨⟨v, rfl, b, rfl, hb⟩, hs⟩
   replace HS := Aside0.mk ((HS.out).trans hs); clear hs
   go_wp2_with fail
   go_meet
   case rel => exact ⟨b, rfl, ⟨HS.out⟩⟩
  have d0 : (r == 0) = false := by simpa using k0
  clear k0
  by_cases k1 : r = 1
  ·have d1 : (r == 1) = true := by simpa using k1
   clear k1
   go_wp2_with fail
   refine (strange_calls w0 _ g (HS.out).from_).mono ?_
   rintro e w_ ⟨⟨v, rfl, b, rfl, hb⟩, hs⟩
   replace HS := Aside0.mk ((HS.out).trans hs); clear hs
   go_wp2_with fail
   go_meet
   case rel => exact ⟨b, rfl, ⟨HS.out⟩⟩
  have d1 : (r == 1) = false := by simpa using k1
  clear k1
  by_cases k2 : r = 2
  ·have d2 : (r == 2) = true := by simpa using k2
   clear k2
   go_wp2_with fail
   refine (next_calls w0 _ g _ (HS.out).from_).mono ?_
   rintro e w_ ⟨q, rfl, hs, hr⟩
   replace HS := Aside0.mk ((HS.out).trans hs); clear hs
   clear hr
   go_wp2_with fail
   refine (scale_calls 4607182418800017408 _ (by decide) (w64in _) _).mono ?_
   rintro e w5 ⟨⟨v, rfl, b, rfl, hb⟩, n5, rfl⟩
   go_wp2_with fail
   go_meet
   case rel => exact ⟨b, rfl, ⟨HS.out.drewN _⟩⟩
  have d2 : (r == 2) = false := by simpa using k2
  clear k2
  by_cases k3 : r = 3
  ·have d3 : (r == 3) = true := by simpa using k3
   clear k3
   go_wp2_with fail
   refine (next_calls w0 _ g _ (HS.out).from_).mono ?_
   rintro e w_ ⟨q, rfl, hs, hr⟩
   replace HS := Aside0.mk ((HS.out).trans hs); clear hs
   clear hr
   go_wp2_with fail
   refine (scale_calls 4607182418800017408 _ (by decide) (w64in _) _).mono ?_
   rintro e w5 ⟨⟨v, rfl, b, rfl, hb⟩, n5, rfl⟩
   go_wp2_with fail
   go_meet
   case rel => exact ⟨b, rfl, ⟨HS.out.drewN _⟩⟩
  have d3 : (r == 3) = false := by simpa using k3
  clear k3
  go_wp2_with fail
  go_meet
  case rel => exact ⟨0, rfl, ⟨HS.out⟩⟩
 case rest => as_aux_lemma =>
  clear HS
  obtain ⟨b, rfl, hc⟩ := hcut
  obtain ⟨w_, hw_⟩ : ∃ w_, w_ = wc := ⟨_, rfl⟩
  subst hw_
  have HS := Aside0.mk hc.out
  clear hc
  go_wp2_with fail
  refine (next_calls w0 _ g _ (HS.out).from_).mono ?_
  rintro e w_ ⟨q, rfl, hs, hr⟩
  replace HS := Aside0.mk ((HS.out).trans hs); clear hs
  have HQ := Aside0.mk (hr (by omega))
  clear hr
  go_wp2_with fail
  refine (roots_calls w0 _ g q HS.out.from_ HQ.out.1 (by have := HQ.out; omega)).mono ?_
  rintro e w2 ⟨v, cs, rfl, hm, hl, hs⟩
  obtain ⟨A1, c1, rfl, hr1⟩ := hm.rdr (by have := HQ.out; omega)
  have HC := Aside0.mk hr1
  have HCL := Aside0.mk (show (cs.length : Int) ≤ 2 by have := HQ.out; omega)
  replace HS := Aside0.mk (HS.out.trans hs)
  clear hm hl hs hr1 HQ
  go_wp2_with fail
  refine (next_calls w0 _ g _ (HS.out).from_).mono ?_
  rintro e w_ ⟨q1, rfl, hs, hr⟩
  replace HC := Aside0.mk (HC.out.keep hs.keep)
  replace HS := Aside0.mk ((HS.out).trans hs); clear hs
  have HQ := Aside0.mk (hr (by omega))
  have hw : wrap64 (1 + q1) = 1 + q1 := by have := HQ.out; exact w64 (by omega) (by omega)
  clear hr
  go_wp2_with fail
  try simp only [hw]
  clear hw
  obtain ⟨wb, hwb⟩ : ∃ wb, wb = w_ := ⟨_, rfl⟩
  have HB := Aside0.mk (show wb.heap.size = w_.heap.size by rw [hwb])
  refine (roots_calls w0 _ g (1 + q1) HS.out.from_ (by have := HQ.out; omega) (by have := HQ.out; omega)).mono ?_
  rintro e w2 ⟨v, us, rfl, hm, hl, hs⟩
  rw [← hwb] at hm hs
  have HK := Aside0.mk (show Rdr g wb A1 c1 cs by rw [hwb]; exact HC.out)
  have HS2 := Aside0.mk (show Src wb w0 w2 g from hs)
  have HS3 := Aside0.mk (show Src w1 w0 w2 g from HS.out.trans (by rw [← hwb]; exact hs))
  have HG := Aside0.mk (show g < wb.heap.size ∧ w1.heap.size ≤ wb.heap.size from ⟨by rw [hwb]; exact HS.out.lt, by rw [hwb]; exact HS.out.keep.1⟩)
  have HM := Aside0.mk hm
  have HL := Aside0.mk (show (us.length : Int) ≤ 3 by have := HQ.out; omega)
  have HCW := Aside0.mk (HK.out.keep hs.keep)
  have HZ := Aside0.mk hs.keep.1
  clear hm hl hs HS
  go_wp2_with (first | ((with_reducible refine gate_builtin (b := .append) (xs := #[.tmp 40, .tmp 41]) rfl ?_); at_builtin; refine Kd.R_append_row cxv (0, 0) (h1 := fun _ => rfl) (w0 := w2) wb.heap.size rfl (.tmp 40) (.tmp 41) 24 34 (.complex .f64 0 0) 16 rfl Try.underlying24 info_cx rfl (by omega) _ us cs A1 cs.length c1 (fun b => b ≠ g) rfl rfl (fun k hk => by have := HG.out; have := HZ.out; show k ≠ g; omega) HM.out.row HCW.out.C (Below.refl _ _) HZ.out (by have := HL.out; have := HCL.out; omega) ?_; intro v1 w4 ho hb hg hat))
  have HS := Aside0.mk (HS3.out.under hb HG.out.1 HG.out.2)
  have HS4 := Aside0.mk (HS2.out.under hb HG.out.1 (Nat.le_refl _))
  have HROW := Aside0.mk (Rw.mk ho (fun p hp => by
   rcases List.mem_append.1 hp with hp | hp
   ·exact HM.out.words p hp
   ·exact HCW.out.words p hp))
  have HLS := Aside0.mk (show (us ++ cs).length ≤ 6 by rw [List.length_append]; have := HL.out; have := HCL.out; omega)
  clear ho hb hg hat
  replace HC := Aside0.mk ((HK.out).keep HS4.out.keep)
  obtain ⟨A9, c9, rfl, hr9⟩ := HROW.out.rdr (by have := HLS.out; omega)
  have HR9 := Aside0.mk hr9
  obtain ⟨zs, hzs⟩ : ∃ zs, us ++ cs = zs := ⟨_, rfl⟩
  rw [hzs] at HR9 HLS
  rw [hzs]
  clear hr9 HROW HM HCW HK HS2 HS3 HS4 HZ HQ HG HB hwb hzs HL
  go_wp2_with fail
  refine (l04OfRoots_calls A9 c9 zs _ HR9.out.C (by have := HLS.out; omega)).mono ?_
  intro e w5 h
  obtain ⟨A2, c2, ys, rfl, hb5, hr5⟩ := ResO.rdr (g := g) h HS.out.lt (fun ts ht => ⟨rootsT_wo ht, by have := rootsT_len ht; have := HLS.out; omega⟩)
  clear h
  obtain ⟨b1, hb1⟩ : ∃ b, (rootsT zs).isSome = b := ⟨_, rfl⟩
  rw [hb1]
  replace HC := Aside0.mk (HC.out.below hb5)
  replace HS := Aside0.mk (HS.out.under hb5 HS.out.lt HS.out.keep.1)
  have HA := Aside0.mk hr5
  clear hb5 hr5 hb1 HR9 HLS
  go_wp2_with fail
  refine (next_calls w0 _ g _ (HS.out).from_).mono ?_
  rintro e w_ ⟨q2, rfl, hs, hr⟩
  replace HC := Aside0.mk (HC.out.keep hs.keep)
  replace HA := Aside0.mk (HA.out.keep hs.keep)
  replace HS := Aside0.mk ((HS.out).trans hs); clear hs
  have HQ := Aside0.mk (hr (by omega))
  have hw : wrap64 (1 + q2) = 1 + q2 := by have := HQ.out; exact w64 (by omega) (by omega)
  clear hr
  go_wp2_with fail
  try simp only [hw]
  clear hw
  obtain ⟨wb, hwb⟩ : ∃ wb, wb = w_ := ⟨_, rfl⟩
  have HB := Aside0.mk (show wb.heap.size = w_.heap.size by rw [hwb])
  refine (roots_calls w0 _ g (1 + q2) HS.out.from_ (by have := HQ.out; omega) (by have := HQ.out; omega)).mono ?_
  rintro e w2 ⟨v, us, rfl, hm, hl, hs⟩
  rw [← hwb] at hm hs
  have HK := Aside0.mk (show Rdr g wb A1 c1 cs ∧ Rdr g wb A2 c2 ys by rw [hwb]; exact ⟨HC.out, HA.out⟩)
  have HS2 := Aside0.mk (show Src wb w0 w2 g from hs)
  have HS3 := Aside0.mk (show Src w1 w0 w2 g from HS.out.trans (by rw [← hwb]; exact hs))
  have HG := Aside0.mk (show g < wb.heap.size ∧ w1.heap.size ≤ wb.heap.size from ⟨by rw [hwb]; exact HS.out.lt, by rw [hwb]; exact HS.out.keep.1⟩)
  have HM := Aside0.mk hm
  have HL := Aside0.mk (show (us.length : Int) ≤ 3 by have := HQ.out; omega)
  have HCW := Aside0.mk (HK.out.1.keep hs.keep)
  have HZ := Aside0.mk hs.keep.1
  clear hm hl hs HS
  go_wp2_with (first | ((with_reducible refine gate_builtin (b := .append) (xs := #[.tmp 51, .tmp 52]) rfl ?_); at_builtin; refine Kd.R_append_row cxv (0, 0) (h1 := fun _ => rfl) (w0 := w2) wb.heap.size rfl (.tmp 51) (.tmp 52) 24 34 (.complex .f64 0 0) 16 rfl Try.underlying24 info_cx rfl (by omega) _ us cs A1 cs.length c1 (fun b => b ≠ g) rfl rfl (fun k hk => by have := HG.out; have := HZ.out; show k ≠ g; omega) HM.out.row HCW.out.C (Below.refl _ _) HZ.out (by have := HL.out; have := HCL.out; omega) ?_; intro v1 w4 ho hb hg hat))
  have HS := Aside0.mk (HS3.out.under hb HG.out.1 HG.out.2)
  have HS4 := Aside0.mk (HS2.out.under hb HG.out.1 (Nat.le_refl _))
  have HROW := Aside0.mk (Rw.mk ho (fun p hp => by
   rcases List.mem_append.1 hp with hp | hp
   ·exact HM.out.words p hp
   ·exact HCW.out.words p hp))
  have HLS := Aside0.mk (show (us ++ cs).length ≤ 6 by rw [List.length_append]; have := HL.out; have := HCL.out; omega)
  clear ho hb hg hat
  replace HC := Aside0.mk ((HK.out.1).keep HS4.out.keep)
  replace HA := Aside0.mk (HK.out.2.keep HS4.out.keep)
  obtain ⟨A9, c9, rfl, hr9⟩ := HROW.out.rdr (by have := HLS.out; omega)
  have HR9 := Aside0.mk hr9
  obtain ⟨zs, hzs⟩ : ∃ zs, us ++ cs = zs := ⟨_, rfl⟩
  rw [hzs] at HR9 HLS
  rw [hzs]
  clear hr9 HROW HM HCW HK HS2 HS3 HS4 HZ HQ HG HB hwb hzs HL
  go_wp2_with fail
  refine (l04OfRoots_calls A9 c9 zs _ HR9.out.C (by have := HLS.out; omega)).mono ?_
  intro e w5 h
  obtain ⟨A3, c3, xs, rfl, hb5, hr5⟩ := ResO.rdr (g := g) h HS.out.lt (fun ts ht => ⟨rootsT_wo ht, by have := rootsT_len ht; have := HLS.out; omega⟩)
  clear h
  obtain ⟨b2, hb2⟩ : ∃ b, (rootsT zs).isSome = b := ⟨_, rfl⟩
  rw [hb2]
  replace HC := Aside0.mk (HC.out.below hb5)
  replace HA := Aside0.mk (HA.out.below hb5)
  replace HS := Aside0.mk (HS.out.under hb5 HS.out.lt HS.out.keep.1)
  have HX := Aside0.mk hr5
  clear hb5 hr5 hb2 HR9 HLS
  clear HC HCL
  cases b1
  ·clear HA HX
   go_wp2_with fail
   refine (spoil4_calls w0 _ g HS.out.from_).mono ?_
   rintro e w_ ⟨A7, c7, us, rfl, hm, hl1, hs⟩
   have H7 := Aside0.mk hm
   replace HS := Aside0.mk (HS.out.trans hs)
   clear hm hl1 hs
   go_wp2_with fail
   refine (spoil4_calls w0 _ g HS.out.from_).mono ?_
   rintro e w_ ⟨A8, c8, vs, rfl, hm, hl1, hs⟩
   replace H7 := Aside0.mk (H7.out.keep hs.keep)
   have H8 := Aside0.mk hm
   replace HS := Aside0.mk (HS.out.trans hs)
   clear hm hl1 hs
   go_wp2
   go_ret3
   exact ⟨A7, c7, us, A8, c8, vs, b, rfl, H7.out.inp, H8.out.inp, by rw [hw0] at HS; exact HS.out.low⟩
  cases b2
  ·clear HA HX
   go_wp2_with fail
   refine (spoil4_calls w0 _ g HS.out.from_).mono ?_
   rintro e w_ ⟨A7, c7, us, rfl, hm, hl1, hs⟩
   have H7 := Aside0.mk hm
   replace HS := Aside0.mk (HS.out.trans hs)
   clear hm hl1 hs
   go_wp2_with fail
   refine (spoil4_calls w0 _ g HS.out.from_).mono ?_
   rintro e w_ ⟨A8, c8, vs, rfl, hm, hl1, hs⟩
   replace H7 := Aside0.mk (H7.out.keep hs.keep)
   have H8 := Aside0.mk hm
   replace HS := Aside0.mk (HS.out.trans hs)
   clear hm hl1 hs
   go_wp2
   go_ret3
   exact ⟨A7, c7, us, A8, c8, vs, b, rfl, H7.out.inp, H8.out.inp, by rw [hw0] at HS; exact HS.out.low⟩
  go_wp2_with fail
  refine (next_calls w0 _ g _ (HS.out).from_).mono ?_
  rintro e w_ ⟨r6, rfl, hs, hr⟩
  replace HA := Aside0.mk (HA.out.keep hs.keep)
  replace HX := Aside0.mk (HX.out.keep hs.keep)
  replace HS := Aside0.mk ((HS.out).trans hs); clear hs
  clear hr
  by_cases k6 : r6 = 0
  ·have d6 : (r6 == 0) = true := by simpa using k6
   clear k6 HA HX
   go_wp2_with fail
   refine (spoil4_calls w0 _ g HS.out.from_).mono ?_
   rintro e w_ ⟨A7, c7, us, rfl, hm, hl1, hs⟩
   have H7 := Aside0.mk hm
   replace HS := Aside0.mk (HS.out.trans hs)
   clear hm hl1 hs
   go_wp2_with fail
   refine (spoil4_calls w0 _ g HS.out.from_).mono ?_
   rintro e w_ ⟨A8, c8, vs, rfl, hm, hl1, hs⟩
   replace H7 := Aside0.mk (H7.out.keep hs.keep)
   have H8 := Aside0.mk hm
   replace HS := Aside0.mk (HS.out.trans hs)
   clear hm hl1 hs
   go_wp2
   go_ret3
   exact ⟨A7, c7, us, A8, c8, vs, b, rfl, H7.out.inp, H8.out.inp, by rw [hw0] at HS; exact HS.out.low⟩
  ·have d6 : (r6 == 0) = false := by simpa using k6
   clear k6
   go_wp2
   go_ret3
   exact ⟨A2, c2, ys, A3, c3, xs, b, rfl, HA.out.inp, HX.out.inp, by rw [hw0] at HS; exact HS.out.low⟩
end Go.Proofs.Ytdjkcpmoigemdaa
namespace Go.Proofs.Ytdjkcpmoigemdaa
open Go Ieee Go.RowKit Go.Proofs.Ytdjkcpmoigemdaa.Fl Go.Proofs.Ytdjkcpmoigemdaa.Fx Go.Proofs.Ytdjkcpmoigemdaa.P Go.Proofs.YtdjkcpmoigemdaaW.PrintWords Go.Proofs.YtdjkcpmoigemdaaW.PrintLast Go.Proofs.YtdjkcpmoigemdaaW.PrintMore
set_option linter.unusedVariables false
set_option linter.unusedSimpArgs false
def feq (x y : Nat) : Bool := FloatKind.f64.format.order x y == some .eq
def lawS (f g : Cs × Int) (h : Cs × Int) (a b c : Nat) : Bool := f.2 == 0 && (g.2 == 0 && (h.2 == 0 && (if feq b c && feq 0 0 then h.1.length == 3 else h.1.length == 2 && ((feq (at_ h.1 1).1 4607182418800017408 && feq (at_ h.1 1).2 0) && (feq (at_ h.1 0).1 (Op.negFloat .f64 a) && feq (at_ h.1 0).2 (Op.negFloat .f64 0))))))
def lawA (a b c : Nat) : Bool :=
 (fun f g => lawS f g (comP f.1 g.1 0) a b c) (rootsP [(a, 0), (b, 0)]) (rootsP [(a, 0), (c, 0)])
set_option maxRecDepth 100000 in
theorem lawA_all : ([-2, -1, 0, 1, 2] : List Int).all (fun a => ([-2, -1, 0, 1, 2] : List Int).all fun b => ([-2, -1, 0, 1, 2] : List Int).all fun c => lawA (floatOfInt .f64 a) (floatOfInt .f64 b) (floatOfInt .f64 c)) = true := by kernel_rfl
theorem lawA_at {a b c : Int} (ha : -2 ≤ a ∧ a ≤ 2) (hb : -2 ≤ b ∧ b ≤ 2) (hc : -2 ≤ c ∧ c ≤ 2) : lawA (floatOfInt .f64 a) (floatOfInt .f64 b) (floatOfInt .f64 c) = true := by
 have mem : ∀ x : Int, -2 ≤ x → x ≤ 2 → x ∈ ([-2, -1, 0, 1, 2] : List Int) := by
  intro x h0 h1
  simp only [List.mem_cons, List.not_mem_nil, or_false]
  omega
 exact List.all_eq_true.1 (List.all_eq_true.1 (List.all_eq_true.1 lawA_all a (mem a ha.1 ha.2)) b (mem b hb.1 hb.2)) c (mem c hc.1 hc.2)
end Go.Proofs.Ytdjkcpmoigemdaa
namespace Go.Proofs.Ytdjkcpmoigemdaa
open Go Ieee Go.RowKit Go.Proofs.Ytdjkcpmoigemdaa.Fl Go.Proofs.Ytdjkcpmoigemdaa.Fx Go.Proofs.Ytdjkcpmoigemdaa.P Go.Proofs.YtdjkcpmoigemdaaW.PrintWords Go.Proofs.YtdjkcpmoigemdaaW.PrintLast Go.Proofs.YtdjkcpmoigemdaaW.PrintMore
set_option linter.unusedVariables false
set_option linter.unusedSimpArgs false
def Dice (w0 w : World) (g : Nat) : Prop := ∃ (l : List Int) (a h : Int), IsS65 w0 w g l a h ∧ 0 ≤ a ∧ l.length ≤ 140737488351232 ∧ (∀ x ∈ l, 0 ≤ x ∧ x < 256) ∧ Below w0.heap.size w0 w
theorem Dice.below {w0 w w1 : World} {g : Nat} (h : Dice w0 w g) (hb : Below w.heap.size w w1) : Dice w0 w1 g := by
 obtain ⟨l, a, k, h1, h2, h3, h4, h5⟩ := h
 exact ⟨l, a, k, h1.below hb, h2, h3, h4, h5.trans (hb.mono h5.size)⟩
theorem Dice.low {w0 w : World} {g : Nat} (h : Dice w0 w g) : Below w0.heap.size w0 w := by
 obtain ⟨l, a, k, h1, h2, h3, h4, h5⟩ := h
 exact h5
theorem below_key (hx : ∀ X, 0 ≤ bits .and .u64 (IntKind.u64.wrap X / 8589934592) 16777215 ∧ bits .and .u64 (IntKind.u64.wrap X / 8589934592) 16777215 < 16777216) (a : Int) (l : List Int) (k n : Int) (ha : 0 ≤ a) (hl : l.length ≤ 140737488351232) (hb : ∀ x ∈ l, 0 ≤ x ∧ x < 256) :
  ∃ r1 r2 r3, laws_dice_below.f l a k n = some (r1, r2, r3) ∧ 0 ≤ r2 ∧ (1 ≤ n → 0 ≤ r1 ∧ r1 < n) := by
 unfold laws_dice_below.f
 by_cases h1 : n < 1
 ·rw [if_pos h1]
  exact ⟨_, _, _, rfl, ha, fun h => by omega⟩
 ·rw [if_neg h1]
  have hX := hx (IntKind.u64.wrap (k * 6364136223846793005) + 1442695040888963407)
  generalize bits .and .u64 (IntKind.u64.wrap (IntKind.u64.wrap (k * 6364136223846793005) + 1442695040888963407) / 8589934592) 16777215 = X at hX
  have hr := rd_byte hb a
  have e1 : wrap64 X = X := w64 (by omega) (by omega)
  by_cases h2 : a < (l.length : Int)
  ·rw [if_pos h2, if_pos ha, if_neg (by omega)]
   have e2 : wrap64 (rd l a) = rd l a := w64 (by omega) (by omega)
   have e3 : wrap64 (X + rd l a) = X + rd l a := w64 (by omega) (by omega)
   rw [e1, e2, e3]
   refine ⟨_, _, _, rfl, ?_, fun h => tmod_range (by omega) h⟩
   rw [w64 (by omega) (by omega)]
   omega
  ·rw [if_neg h2, if_neg (by omega), e1]
   exact ⟨_, _, _, rfl, ha, fun h => tmod_range (by omega) h⟩
theorem below_calls (w0 w : World) (g : Nat) (n : Int) (h : Dice w0 w g) (hn : 1 ≤ n) : Calls Try.prog 11 #[.pointer (some ⟨g, 0, none⟩), .int .i64 n] w fun e w' => ∃ r, e = .returned (.int .i64 r) ∧ Dice w0 w' g ∧ 0 ≤ r ∧ r < n ∧ KeepBut w w' g none := by
 obtain ⟨l, a, k, hs, ha, hl, hb, hB⟩ := h
 obtain ⟨r1, r2, r3, hf, h2, h3⟩ := below_key mask_all a l k n ha hl hb
 refine (laws_dice_below.calls g l a k n r1 r2 r3 w0 w hs hB hf).mono ?_
 rintro e w' ⟨rfl, hs', hB', hk⟩
 exact ⟨r1, rfl, ⟨l, r2, r3, hs', h2, hl, hb, hB'⟩, (h3 hn).1, (h3 hn).2, hk⟩
theorem roll_ev (l : List Int) (hl : l.length ≤ 140737488351232) (d : Nat) : ∀ (k i : Nat) (h : Int), l.length - i = d → d < k → i ≤ l.length → ∃ r3, laws_roll.l0 k l (i : Int) l 0 h = some (l, 0, r3) := by
 induction d with
 | zero =>
  intro k i h h1 h2 h3
  obtain ⟨k, rfl⟩ : ∃ k', k = k' + 1 := ⟨k - 1, by omega⟩
  simp only [laws_roll.l0]
  rw [if_neg (by omega)]
  exact ⟨_, rfl⟩
 | succ d ih =>
  intro k i h h1 h2 h3
  obtain ⟨k, rfl⟩ : ∃ k', k = k' + 1 := ⟨k - 1, by omega⟩
  simp only [laws_roll.l0]
  rw [if_pos (by omega), if_pos (Int.natCast_nonneg _), show wrap64 ((i : Int) + 1) = ((i + 1 : Nat) : Int) from by rw [w64 (by omega) (by omega)]; omega]
  exact ih k (i + 1) _ (by omega) (by omega) (by omega)
theorem roll_calls (w : World) (A : Option Addr) (c : Nat) (l : List Int) (s : Int) (h : Code8 w A c l) : Calls Try.prog 10 #[.slice A l.length c, .int .u64 s] w fun e w' => ∃ g, e = .returned (.pointer (some ⟨g, 0, none⟩)) ∧ Dice w w' g := by
 obtain ⟨r3, hf⟩ := roll_ev l h.n l.length (l.length + 1) 0 (IntKind.u64.wrap ((IntKind.u64.wrap (s * 6257)) + (IntKind.u64.wrap ((l.length : Int))))) (by omega) (by omega) (by omega)
 refine (laws_roll.calls (l.length + 1) A c l s l 0 r3 w h.r h.c hf).mono ?_
 rintro e w' ⟨g, rfl, hs, hB, -⟩
 exact ⟨g, rfl, l, 0, r3, hs, Int.le_refl _, h.n, h.b, hB⟩
end Go.Proofs.Ytdjkcpmoigemdaa
namespace Go.Proofs.Ytdjkcpmoigemdaa
open Go Ieee Go.RowKit Go.Proofs.Ytdjkcpmoigemdaa.Fl Go.Proofs.Ytdjkcpmoigemdaa.Fx Go.Proofs.Ytdjkcpmoigemdaa.P Go.Proofs.YtdjkcpmoigemdaaW.PrintWords Go.Proofs.YtdjkcpmoigemdaaW.PrintLast Go.Proofs.YtdjkcpmoigemdaaW.PrintMore
set_option linter.unusedVariables false
set_option linter.unusedSimpArgs false
attribute [local go_sem] run_add run_sub run_mul run_quo run_cadd run_csub run_neg run_cneg conv_f run_store_cx
theorem Res.elim {w w' : World} {zs : Cs} {k : Int} {e : Ending} (h : Res w (zs, k) e w') : ∃ (B : Option Addr) (d : Nat), e = .returned (.tuple #[.slice B zs.length d, .int .i64 k]) ∧ cxk.C w' B zs.length zs ∧ zs.length ≤ d ∧ Below w.heap.size w w' := h
theorem zero_eq : (FloatKind.f64.format.order 0 0 == some .eq) = true := by rw [order_self (by decide)]; rfl
theorem lit2 (w : World) (z1 z2 : Nat × Nat) : cxk.C (w.alloc (.cells #[.complex .f64 z1.1 z1.2, .complex .f64 z2.1 z2.2] 34)) (some ⟨w.heap.size, 0, none⟩) 2 [z1, z2] := by
 have k := World.ownsRow_lit (base := 0) (e := 34) (size := 1) w #[.complex .f64 z1.1 z1.2, .complex .f64 z2.1 z2.2] 2 (Nat.zero_le _) (by unfold maxLen; omega) (by simp)
 have h : cxk.R 34 (w.alloc (.cells #[.complex .f64 z1.1 z1.2, .complex .f64 z2.1 z2.2] 34)) 0 (fun _ => True) (.slice (some ⟨w.heap.size, 0, none⟩) 2 2) [z1, z2] := Kd.R_of_own (by simpa [encs, cxv] using k) (fun k hk => trivial)
 exact (Kd.R_reads' h).2.2
theorem rootsP_wo {xs zs : Cs} {k : Int} (h : rootsP xs = (zs, k)) : Wo zs ∧ zs.length ≤ 13 := by
 have hn : Wo [] := fun p hp => by cases hp
 cases h0 : decide (1 ≤ xs.length ∧ xs.length ≤ 12)
 ·rw [rootsP_big h0] at h; cases h; exact ⟨hn, by simp⟩
 cases h1 : finL xs
 ·rw [rootsP_inf h0 h1] at h; cases h; exact ⟨hn, by simp⟩
 rw [rootsP_of h0 h1] at h
 cases hm : rootsT xs with
 | none => rw [hm] at h; cases h; exact ⟨hn, by simp⟩
 | some ys =>
  rw [hm] at h
  cases h
  exact ⟨rootsT_wo hm, by have := rootsT_len hm; have := of_decide_eq_true h0; omega⟩
set_option maxRecDepth 100000 in
set_option maxHeartbeats 8000000 in
theorem FnCommonParts_calls (w : World) (A : Option Addr) (c : Nat) (l : List Int) (h : Code8 w A c l) : Calls Try.prog 3 #[.slice A l.length c] w fun e w' => e = .returned (.bool true) ∧ Below w.heap.size w w' := by
 cases hbig : decide ((l.length : Int) > 4096)
 case true =>
  go_enter Try.func3, Try.ntmps3
  go_wp2_with fail
  refine (laws_big.calls A c l true w h.r h.c (by unfold laws_big.f; rw [hbig])).mono ?_
  rintro e w1 ⟨rfl, hd⟩
  have hb := hd.below
  clear hd
  go_wp2
  go_ret
  exact ⟨rfl, hb⟩
 case false =>
  go_enter Try.func3, Try.ntmps3
  go_wp2_with fail
  refine (laws_big.calls A c l false w h.r h.c (by unfold laws_big.f; rw [hbig])).mono ?_
  rintro e w1 ⟨rfl, hd⟩
  have L := Aside0.mk (hd.below)
  clear hd hbig
  have HC := Aside0.mk h; clear h
  go_wp2_with fail
  refine (drawCommon_calls _ A c l (HC.out.below L.out)).mono ?_
  rintro e w_ ⟨A1, c1, xs, A2, c2, ys, t, rfl, hi, hi2, k3⟩
  replace L := Aside0.mk (L.out.trans (k3.mono L.out.size))
  have I1 := Aside0.mk hi
  have I2 := Aside0.mk hi2
  clear hi hi2 k3
  obtain ⟨zs, k, hp⟩ : ∃ u v, comP xs ys t = (u, v) := ⟨_, _, rfl⟩
  have HP := Aside0.mk hp
  have hne : (k != k) = false := by simp
  clear hp
  go_wp2_with fail
  refine (CommonPart_calls A1 A2 c1 c2 xs ys t _ I1.out.C I2.out.C (by have := I1.out.len; omega) (by have := I2.out.len; omega) I2.out.cap I1.out.words I2.out.words).mono ?_
  rw [HP.out]
  intro e w_ h
  obtain ⟨G1, d1, rfl, k1, k2, k3⟩ := Res.elim h
  clear h
  replace I1 := Aside0.mk (I1.out.below k3)
  replace I2 := Aside0.mk (I2.out.below k3)
  replace L := Aside0.mk (L.out.trans (k3.mono L.out.size))
  have Z1 := Aside0.mk k1
  clear k1 k2 k3
  go_wp2_with fail
  refine (specCommonPart_calls A1 A2 c1 c2 xs ys t _ I1.out.C I2.out.C (by have := I1.out.len; omega) (by have := I2.out.len; omega) I2.out.cap I1.out.words I2.out.words).mono ?_
  rw [HP.out]
  intro e w_ h
  obtain ⟨G2, d2, rfl, k1, k2, k3⟩ := Res.elim h
  clear h
  replace I1 := Aside0.mk (I1.out.below k3)
  replace I2 := Aside0.mk (I2.out.below k3)
  replace Z1 := Aside0.mk (Kd.C_below Z1.out k3)
  replace L := Aside0.mk (L.out.trans (k3.mono L.out.size))
  have Z2 := Aside0.mk k1
  clear k1 k2 k3
  go_wp2_with fail
  refine (list5_self G1 G2 d1 d2 zs _ Z1.out Z2.out).mono ?_
  rintro e w_ ⟨rfl, k3⟩
  replace L := Aside0.mk (L.out.trans (k3.mono L.out.size))
  clear k3
  go_upto_if 50 with (fail)
  go_cut [] (fun wc => Aside0 (Below w.heap.size w wc))
  case first => as_aux_lemma =>
   go_wp2
   go_meet
   case rel => exact ⟨by repeat (first | exact L.out | refine pw_below_drewN ?_ _)⟩
  case rest =>
  clear L HP Z1 Z2 I1 I2 hne
  have L := Aside0.mk hcut.out
  clear hcut
  go_wp2_with fail
  refine (roll_calls _ A c l 922 (HC.out.below L.out)).mono ?_
  rintro e w2 ⟨g, rfl, hd⟩
  obtain ⟨w0, hw0⟩ : ∃ w0, w0 = wc := ⟨_, rfl⟩
  rw [← hw0] at hd L
  have DI := Aside0.mk hd
  clear hd hw0
  go_wp2_with fail
  refine (below_calls w0 _ g 5 DI.out (by omega)).mono ?_
  rintro e w_ ⟨r1, rfl, hd, h0, h1, -⟩
  replace DI := Aside0.mk hd
  obtain ⟨a, ha⟩ : ∃ a, r1 - 2 = a := ⟨_, rfl⟩
  have ea : wrap64 (r1 - 2) = a := by rw [← ha]; exact w64 (by omega) (by omega)
  have Ra := Aside0.mk (show -2 ≤ a ∧ a ≤ 2 by omega)
  obtain ⟨fa, hfa⟩ : ∃ fa, floatOfInt .f64 a = fa := ⟨_, rfl⟩
  have Hfa := Aside0.mk hfa
  clear hd h0 h1 ha
  go_wp2_with fail
  try simp only [ea, hfa]
  refine (below_calls w0 _ g 5 DI.out (by omega)).mono ?_
  rintro e w_ ⟨r2, rfl, hd, h0, h1, -⟩
  replace DI := Aside0.mk hd
  obtain ⟨b, hb⟩ : ∃ b, r2 - 2 = b := ⟨_, rfl⟩
  have eb : wrap64 (r2 - 2) = b := by rw [← hb]; exact w64 (by omega) (by omega)
  have Rb := Aside0.mk (show -2 ≤ b ∧ b ≤ 2 by omega)
  obtain ⟨fb, hfb⟩ : ∃ fb, floatOfInt .f64 b = fb := ⟨_, rfl⟩
  have Hfb := Aside0.mk hfb
  clear hd h0 h1 hb
  go_wp2_with fail
  try simp only [eb, hfb]
  refine (below_calls w0 _ g 5 DI.out (by omega)).mono ?_
  rintro e w_ ⟨r3, rfl, hd, h0, h1, -⟩
  replace DI := Aside0.mk hd
  obtain ⟨cc, hcc⟩ : ∃ cc, r3 - 2 = cc := ⟨_, rfl⟩
  have ecc : wrap64 (r3 - 2) = cc := by rw [← hcc]; exact w64 (by omega) (by omega)
  have Rcc := Aside0.mk (show -2 ≤ cc ∧ cc ≤ 2 by omega)
  obtain ⟨fc, hfc⟩ : ∃ fc, floatOfInt .f64 cc = fc := ⟨_, rfl⟩
  have Hfc := Aside0.mk hfc
  clear hd h0 h1 hcc
  have HL0 := Aside0.mk (show Below w.heap.size w _ from L.out.trans (DI.out.low.mono L.out.size))
  have LAW := Aside0.mk (lawA_at Ra.out Rb.out Rcc.out)
  rw [Hfa.out, Hfb.out, Hfc.out] at LAW
  obtain ⟨f, k1, hp1⟩ : ∃ u v, rootsP [(fa, 0), (fb, 0)] = (u, v) := ⟨_, _, rfl⟩
  obtain ⟨h, k2, hp2⟩ : ∃ u v, rootsP [(fa, 0), (fc, 0)] = (u, v) := ⟨_, _, rfl⟩
  obtain ⟨own, k3, hp3⟩ : ∃ u v, comP f h 0 = (u, v) := ⟨_, _, rfl⟩
  have HP1 := Aside0.mk hp1; have HP2 := Aside0.mk hp2; have HP3 := Aside0.mk hp3
  have LS := Aside0.mk (show lawS (f, k1) (h, k2) (own, k3) fa fb fc = true by
   have hh : lawS (rootsP [(fa, 0), (fb, 0)]) (rootsP [(fa, 0), (fc, 0)]) (comP (rootsP [(fa, 0), (fb, 0)]).1 (rootsP [(fa, 0), (fc, 0)]).1 0) fa fb fc = true := LAW.out
   rw [hp1, hp2] at hh
   rw [← hp3]
   exact hh)
  have W1 := Aside0.mk (rootsP_wo hp1); have W2 := Aside0.mk (rootsP_wo hp2)
  clear hp1 hp2 hp3 LAW
  go_wp2_with fail
  try simp only [ecc, hfc]
  clear ea eb ecc hfa hfb hfc
  replace L := HL0
  clear HL0 DI
  obtain ⟨w5, hw5⟩ : ∃ w5, w5 = w_ := ⟨_, rfl⟩
  subst hw5
  replace L := Aside0.mk (show Below w.heap.size w (w5.alloc (.cells #[.complex .f64 fa 0, .complex .f64 fb 0] 34)) from below_alloc L.out _)
  refine (PolynomialOfRoots_calls (some ⟨w5.heap.size, 0, none⟩) 2 [(fa, 0), (fb, 0)] _ (lit2 w5 (fa, 0) (fb, 0)) (by simp)).mono ?_
  rw [HP1.out]
  intro e w_ h
  obtain ⟨G1, d1, rfl, k1, k2, k3⟩ := Res.elim h
  clear h
  replace L := Aside0.mk (L.out.trans (k3.mono L.out.size))
  have Z1 := Aside0.mk k1
  have Y1 := Aside0.mk k2
  clear k1 k2 k3
  go_wp2_with fail
  obtain ⟨w6, hw6⟩ : ∃ w6, w6 = w_ := ⟨_, rfl⟩
  subst hw6
  replace L := Aside0.mk (show Below w.heap.size w (w6.alloc (.cells #[.complex .f64 fa 0, .complex .f64 fc 0] 34)) from below_alloc L.out _)
  replace Z1 := Aside0.mk (Kd.C_alloc Z1.out (.cells #[.complex .f64 fa 0, .complex .f64 fc 0] 34))
  refine (PolynomialOfRoots_calls (some ⟨w6.heap.size, 0, none⟩) 2 [(fa, 0), (fc, 0)] _ (lit2 w6 (fa, 0) (fc, 0)) (by simp)).mono ?_
  rw [HP2.out]
  intro e w_ h
  obtain ⟨G2, d2, rfl, k1, k2, k3⟩ := Res.elim h
  clear h
  replace Z1 := Aside0.mk (Kd.C_below Z1.out k3)
  replace L := Aside0.mk (L.out.trans (k3.mono L.out.size))
  have Z2 := Aside0.mk k1
  have Y2 := Aside0.mk k2
  clear k1 k2 k3
  go_wp2_with fail
  refine (CommonPart_calls G1 G2 d1 d2 f h 0 _ Z1.out Z2.out (by have := W1.out; omega) (by have := W2.out; omega) Y2.out W1.out.1 W2.out.1).mono ?_
  rw [HP3.out]
  intro e w_ h
  obtain ⟨G3, d3, rfl, k1, k2, k3⟩ := Res.elim h
  clear h
  replace L := Aside0.mk (L.out.trans (k3.mono L.out.size))
  have Z3 := Aside0.mk k1
  clear k1 k2 k3
  have hs := LS.out
  unfold lawS at hs
  rw [Bool.and_eq_true, Bool.and_eq_true, Bool.and_eq_true] at hs
  obtain ⟨s1, s2, s3, s4⟩ := hs
  have z1 : k1 = 0 := by simpa using s1
  have z2 : k2 = 0 := by simpa using s2
  have z3 : k3 = 0 := by simpa using s3
  subst z1 z2 z3
  have ne0 : ((0 : Int) != 0) = false := rfl
  obtain ⟨M, hM⟩ : ∃ M : Int, (own.length : Int) = M := ⟨_, rfl⟩
  have o2 := zero_eq
  clear s1 s2 s3 LS
  cases hbc : feq fb fc
  ·rw [hbc] at s4
   rw [Bool.false_and, if_neg (by decide), Bool.and_eq_true, Bool.and_eq_true, Bool.and_eq_true, Bool.and_eq_true] at s4
   obtain ⟨t1, ⟨t2, t3⟩, t4, t5⟩ := s4
   have t1' : own.length = 2 := by simpa using t1
   have hm : M = 2 := by omega
   subst hm
   have hm2 : ((2 : Int) == 2) = true := rfl
   obtain ⟨ad, rfl, hx1⟩ := cx_at Z3.out 1 (by omega) (by omega)
   obtain ⟨ad', ea, hx0⟩ := cx_at Z3.out 0 (by omega) (by omega)
   cases ea
   obtain ⟨⟨x1, x2⟩, hxx⟩ : ∃ z, rdOf (0, 0) own 1 = z := ⟨_, rfl⟩
   obtain ⟨⟨y1, y2⟩, hyy⟩ : ∃ z, rdOf (0, 0) own 0 = z := ⟨_, rfl⟩
   rw [show at_ own 1 = (x1, x2) from hxx] at t2 t3
   rw [show at_ own 0 = (y1, y2) from hyy] at t4 t5
   rw [hxx] at hx1
   rw [hyy] at hx0
   rw [show (1 : Int).toNat = 1 from rfl] at hx1
   rw [show (0 : Int).toNat = 0 from rfl] at hx0
   have hx0' : w_.cell? ad = some (.complex .f64 y1 y2) := hx0
   have hx1' : w_.cell? ⟨ad.block, ad.off + 1, none⟩ = some (.complex .f64 x1 x2) := hx1
   unfold feq at t2 t3 t4 t5 hbc
   clear hxx hyy t1 t1'
   go_wp2
   go_ret
   exact ⟨rfl, by repeat (first | exact L.out | refine pw_below_drewN ?_ _)⟩
  ·rw [hbc] at s4
   rw [Bool.true_and, show feq 0 0 = true from zero_eq, if_pos rfl] at s4
   have t1' : own.length = 3 := by simpa using s4
   have hm : M = 3 := by omega
   subst hm
   have hm2 : ((3 : Int) == 3) = true := rfl
   unfold feq at hbc
   clear s4 t1'
   go_wp2
   go_ret
   exact ⟨rfl, by repeat (first | exact L.out | refine pw_below_drewN ?_ _)⟩
end Go.Proofs.Ytdjkcpmoigemdaa
