/- Common parts, the reference's. No conditions beyond those of each theorem. Printed by genpr4.py. -/
import Derived.Test.YtdjkcpmoigemdaaG20
namespace Go.Proofs.Ytdjkcpmoigemdaa
open Go Ieee Go.RowKit Go.Proofs.Ytdjkcpmoigemdaa.Fl Go.Proofs.Ytdjkcpmoigemdaa.Fx Go.Proofs.Ytdjkcpmoigemdaa.P Go.Proofs.YtdjkcpmoigemdaaW.PrintWords Go.Proofs.YtdjkcpmoigemdaaW.PrintLast Go.Proofs.YtdjkcpmoigemdaaW.PrintMore
set_option linter.unusedVariables false
set_option linter.unusedSimpArgs false
attribute [local go_sem] run_add run_sub run_mul run_quo run_cadd run_csub run_neg run_cneg conv_f run_store_cx
set_option maxRecDepth 100000 in
set_option maxHeartbeats 8000000 in
theorem specCommonPart_calls (A B : Option Addr) (c d : Nat) (ps qs : Cs) (t : Nat) (w : World) (hr : cxk.C w A ps.length ps) (hr2 : cxk.C w B qs.length qs) (hl : ps.length ≤ 1000000000) (hl2 : qs.length ≤ 1000000000) (hd : qs.length ≤ d) (wp : Wo ps) (wq : Wo qs) : Calls Try.prog 8 #[.slice A ps.length c, .slice B qs.length d, .float .f64 t] w fun e w' => Res w (comP ps qs t) e w' := by
 have HR := Aside0.mk hr; have HR2 := Aside0.mk hr2; have HL := Aside0.mk hl; have HL2 := Aside0.mk hl2; have HD := Aside0.mk hd; have WP := Aside0.mk wp; have WQ := Aside0.mk wq
 clear hr hr2 hl hl2 hd wp wq
 cases h1 : polyB ps
 ·rw [comP_a h1]
  go_enter Try.func8, Try.ntmps8
  go_wp2_with fail
  refine (l04Is_calls A c ps _ HR.out HL.out).mono ?_
  rintro e w1 ⟨rfl, n1, rfl⟩
  rw [h1]
  go_wp2
  go_ret2
  exact Res.none_ (by repeat (first | exact Below.refl _ _ | refine pw_below_drewN ?_ _))
 cases h2 : polyB qs
 ·rw [comP_b h1 h2]
  go_enter Try.func8, Try.ntmps8
  go_wp2_with fail
  refine (l04Is_calls A c ps _ HR.out HL.out).mono ?_
  rintro e w1 ⟨rfl, n1, rfl⟩
  rw [h1]
  go_wp2_with fail
  refine (l04Is_calls B d qs _ (Kd.C_drewN HR2.out _) HL2.out).mono ?_
  rintro e w1 ⟨rfl, n2, rfl⟩
  rw [h2]
  go_wp2
  go_ret2
  exact Res.none_ (by repeat (first | exact Below.refl _ _ | refine pw_below_drewN ?_ _))
 cases h3 : isFin t
 ·rw [comP_c h1 h2 h3]
  go_enter Try.func8, Try.ntmps8
  go_wp2_with fail
  refine (l04Is_calls A c ps _ HR.out HL.out).mono ?_
  rintro e w1 ⟨rfl, n1, rfl⟩
  rw [h1]
  go_wp2_with fail
  refine (l04Is_calls B d qs _ (Kd.C_drewN HR2.out _) HL2.out).mono ?_
  rintro e w1 ⟨rfl, n2, rfl⟩
  rw [h2]
  go_wp2_with fail
  refine (l01Real_calls t _).mono ?_
  rintro e w1 ⟨rfl, n3, rfl⟩
  rw [h3]
  go_wp2
  go_ret2
  exact Res.none_ (by repeat (first | exact Below.refl _ _ | refine pw_below_drewN ?_ _))
 cases h4 : (FloatKind.f64.format.order t 0 == some .lt)
 case true =>
  rw [comP_d h1 h2 h3 h4]
  go_enter Try.func8, Try.ntmps8
  go_wp2_with fail
  refine (l04Is_calls A c ps _ HR.out HL.out).mono ?_
  rintro e w1 ⟨rfl, n1, rfl⟩
  rw [h1]
  go_wp2_with fail
  refine (l04Is_calls B d qs _ (Kd.C_drewN HR2.out _) HL2.out).mono ?_
  rintro e w1 ⟨rfl, n2, rfl⟩
  rw [h2]
  go_wp2_with fail
  refine (l01Real_calls t _).mono ?_
  rintro e w1 ⟨rfl, n3, rfl⟩
  rw [h3]
  go_wp2
  go_ret2
  exact Res.none_ (by repeat (first | exact Below.refl _ _ | refine pw_below_drewN ?_ _))
 cases h5 : (FloatKind.f64.format.order t 4607182418800017408 == some .gt)
 case true =>
  rw [comP_e h1 h2 h3 h4 h5]
  go_enter Try.func8, Try.ntmps8
  go_wp2_with fail
  refine (l04Is_calls A c ps _ HR.out HL.out).mono ?_
  rintro e w1 ⟨rfl, n1, rfl⟩
  rw [h1]
  go_wp2_with fail
  refine (l04Is_calls B d qs _ (Kd.C_drewN HR2.out _) HL2.out).mono ?_
  rintro e w1 ⟨rfl, n2, rfl⟩
  rw [h2]
  go_wp2_with fail
  refine (l01Real_calls t _).mono ?_
  rintro e w1 ⟨rfl, n3, rfl⟩
  rw [h3]
  go_wp2
  go_ret2
  exact Res.none_ (by repeat (first | exact Below.refl _ _ | refine pw_below_drewN ?_ _))
 rw [comP_f h1 h2 h3 h4 h5]
 obtain ⟨X, hX⟩ : ∃ X, comG t qs.length ps qs = X := ⟨_, rfl⟩
 rw [hX]
 have HX := Aside0.mk hX
 have P1 := Aside0.mk (polyB_of h1); have P2 := Aside0.mk (polyB_of h2)
 have HT := Aside0.mk (tol_of h3 h4)
 clear hX
 go_enter Try.func8, Try.ntmps8
 go_wp2_with fail
 refine (l04Is_calls A c ps _ HR.out HL.out).mono ?_
 rintro e w1 ⟨rfl, n1, rfl⟩
 rw [h1]
 go_wp2_with fail
 refine (l04Is_calls B d qs _ (Kd.C_drewN HR2.out _) HL2.out).mono ?_
 rintro e w1 ⟨rfl, n2, rfl⟩
 rw [h2]
 go_wp2_with fail
 refine (l01Real_calls t _).mono ?_
 rintro e w1 ⟨rfl, n3, rfl⟩
 rw [h3]
 clear h1 h2 h3
 go_wp2_with fail
 refine (l04Own_calls A c ps _ (Kd.C_drewN HR.out _) (by have := P1.out; omega)).mono ?_
 rintro e w4 ⟨v4, rfl, o4⟩
 have O4 := Aside0.mk (o4.lower (show Below w.heap.size w _ from by repeat (first | exact Below.refl _ _ | refine pw_below_drewN ?_ _)))
 clear o4
 go_wp2_with fail
 refine (l04Own_calls B d qs _ (Kd.C_below HR2.out O4.out.low) (by have := P2.out; omega)).mono ?_
 rintro e w5 ⟨v5, rfl, o5⟩
 replace O4 := Aside0.mk (O4.out.below o5.low)
 obtain ⟨A4, c4, rfl, k1, k2⟩ := O4.out.reads
 obtain ⟨A5, c5, rfl, k3, k4⟩ := o5.reads
 have HC := Aside0.mk (And.intro k2 (And.intro k4 k3))
 clear o5 k1 k2 k3 k4
 go_wp2_with fail
 go_loopg [8, 9] qs.length (fun g v u w' => Aside0 (ComAt X t w w' v u g))
 case atStart => exact ⟨⟨A4, c4, ps, A5, c5, qs, rfl, rfl, HC.out.1, HC.out.2.1, HC.out.2.2, ⟨P1.out.2.2.1, WP.out⟩, ⟨P2.out.2.2.1, WQ.out⟩, P1.out.2.1, P2.out.2.1, by have := P2.out.1; omega, P2.out.2.2.2, HX.out, Nat.le_refl _, O4.out.low⟩⟩
 case round =>
  clear HC O4
  obtain ⟨A, ca, ys, B, cb, bs, rfl, rfl, hA, hB, hcb, ga, gb, la, lb, lb1, hz, hx, hg, hlow⟩ := hrel.out.at_
  clear hrel
  have HA := Aside0.mk hA; have HB := Aside0.mk (And.intro hB hcb); have GA := Aside0.mk ga; have GB := Aside0.mk gb
  have HLL := Aside0.mk (show ys.length ≤ 13 ∧ bs.length ≤ 13 ∧ 1 ≤ bs.length from ⟨la, lb, lb1⟩)
  have HZ := Aside0.mk hz; have HS := Aside0.mk hx; have LOW := Aside0.mk hlow; have HG := Aside0.mk hg
  obtain ⟨L, hL⟩ : ∃ L : Int, (bs.length : Int) = L := ⟨_, rfl⟩
  have HLI := Aside0.mk hL
  clear hA hB hcb ga gb la lb lb1 hz hx hlow hg
  by_cases hone : bs.length ≤ 1
  case pos =>
   have hl' : decide (L ≥ 2) = false := decide_eq_false (by omega)
   have HXE := Aside0.mk (show X = ([one_n], 0) by rw [← HS.out]; cases gk with
    | zero => rfl
    | succ m => unfold comG; rw [if_pos hone])
   obtain ⟨B1, d1, e1, k1, k2, k3⟩ := Own.one_last LOW.out one_n
   have HK := Aside0.mk (And.intro e1 (And.intro k1 (And.intro k2 k3)))
   clear hone e1 k1 k2 k3
   go_wp2
   go_ret2
   rw [HXE.out]
   exact ⟨B1, d1, by rw [← HK.out.1]; rfl, HK.out.2.1, HK.out.2.2.1, HK.out.2.2.2⟩
  have hl' : decide (L ≥ 2) = true := decide_eq_true (by omega)
  cases gk with
  | zero => exact absurd HG.out (by have := HLL.out; omega)
  | succ m =>
   have KEY := Aside0.mk (show (match divP ys bs with | none => ([], 3) | some p => if cutN t p.2 p.2.length = 0 then monX bs else comG t m bs (p.2.take (cutN t p.2 p.2.length)) : Cs × Int) = X by
    have h := HS.out
    unfold comG at h
    rw [if_neg hone] at h
    exact h)
   clear HS hone
   cases hd : divP ys bs with
   | none =>
    have HXE := Aside0.mk (show X = ([], 3) by have h := KEY.out; rw [hd] at h; exact h.symm)
    go_wp2_with fail
    refine (l04Divide_calls A B ca cb ys bs _ HA.out HB.out.1 (by have := HLL.out; omega) HLL.out.2.2 (by have := HLL.out; omega) HB.out.2 GA.out GB.out HZ.out).mono ?_
    rw [hd]
    rintro e w2 ⟨rfl, hb⟩
    replace LOW := Aside0.mk (LOW.out.trans (hb.mono LOW.out.size))
    clear hb hd
    go_wp2
    go_ret2
    rw [HXE.out]
    exact Res.none_ LOW.out
   | some p =>
    obtain ⟨quo, rs⟩ := p
    have KEY2 := Aside0.mk (show (if cutN t rs rs.length = 0 then monX bs else comG t m bs (rs.take (cutN t rs rs.length))) = X by have h := KEY.out; rw [hd] at h; exact h)
    have HRL := Aside0.mk (show rs.length < bs.length from divP_len hd HLL.out.2.2)
    have GR := Aside0.mk (show Good rs from divS_good _ _ _ _ _ GA.out hd)
    clear KEY
    go_wp2_with fail
    refine (l04Divide_calls A B ca cb ys bs _ HA.out HB.out.1 (by have := HLL.out; omega) HLL.out.2.2 (by have := HLL.out; omega) HB.out.2 GA.out GB.out HZ.out).mono ?_
    rw [hd]
    rintro e w2 ⟨A2, c2, A3, c3, rfl, k1, k2, k3, k4, hb, -, -⟩
    obtain ⟨w9, hw9⟩ : ∃ w9, w9 = w2 := ⟨_, rfl⟩
    subst hw9
    have HC := Aside0.mk (show cxk.C w9 A3 rs.length rs ∧ rs.length ≤ c3 from ⟨k3, k4⟩)
    replace LOW := Aside0.mk (LOW.out.trans (hb.mono LOW.out.size))
    replace HB := Aside0.mk (And.intro (Kd.C_below HB.out.1 hb) HB.out.2)
    obtain ⟨T, hT⟩ : ∃ T, cutN t rs rs.length = T := ⟨_, rfl⟩
    rw [hT] at KEY2
    have HTL := Aside0.mk (show T ≤ rs.length from hT ▸ cutN_le _ _ _)
    have HT2 := Aside0.mk hT
    have HTZ := Aside0.mk (show ∀ m, T = m + 1 → zero_ (at_ rs m) = false from fun m e => cutN_last HT.out GR.out.1 _ (Nat.le_refl _) m (hT.trans e))
    obtain ⟨R1, hR1⟩ : ∃ R1 : Nat, rs.length = R1 := ⟨_, rfl⟩
    have HR1 := Aside0.mk hR1
    obtain ⟨R, hR⟩ : ∃ R : Int, (R1 : Int) = R := ⟨_, rfl⟩
    have HRI := Aside0.mk hR
    clear k1 k2 k3 k4 hb hd hT
    go_wp2_with fail
    try simp only [hR1]
    try simp only [hR]
    go_loopg [13] R1 (fun g u w' => u = .int .i64 (g : Int) ∧ Aside0 (cutN t rs g = T ∧ g ≤ rs.length ∧ Below w9.heap.size w9 w'))
    case atStart => exact ⟨by first | rfl | rw [HRI.out], ⟨by rw [← HR1.out]; exact HT2.out, by have := HR1.out; omega, Below.refl _ _⟩⟩
    case round =>
     obtain ⟨rfl, hj⟩ := hrel
     have HJ := Aside0.mk hj.out
     clear hj
     have LO2 := Aside0.mk (LOW.out.trans (HJ.out.2.2.mono LOW.out.size))
     cases gk with
     | zero =>
      have hT0 : T = 0 := HJ.out.1.symm
      have hl2 : decide (((0 : Nat) : Int) > 0) = false := rfl
      have hnil : (((0 : Nat) : Int) == 0) = true := rfl
      have HXE := Aside0.mk (show monX bs = X by have h := KEY2.out; rw [hT0, if_pos rfl] at h; exact h)
      clear hT0
      cases hm : monL bs with
      | none =>
       have HXF := Aside0.mk (show X = ([], 3) by rw [← HXE.out]; unfold monX; rw [hm])
       go_wp2_with fail
       refine (l04Monic_calls B cb bs _ (Kd.C_below HB.out.1 HJ.out.2.2) HLL.out.2.1 HLL.out.2.2 GB.out.1 HZ.out).mono ?_
       rw [hm]
       rintro e w4 ⟨G, cap, rfl, k1, k2, k3⟩
       have LB := Aside0.mk (LO2.out.trans (k3.mono LO2.out.size))
       clear k1 k2 k3 hm
       go_wp2
       go_ret2
       rw [HXF.out]
       exact Res.none_ LB.out
      | some zs =>
       have HXF := Aside0.mk (show X = (zs, 0) by rw [← HXE.out]; unfold monX; rw [hm])
       go_wp2_with fail
       refine (l04Monic_calls B cb bs _ (Kd.C_below HB.out.1 HJ.out.2.2) HLL.out.2.1 HLL.out.2.2 GB.out.1 HZ.out).mono ?_
       rw [hm]
       rintro e w4 ⟨G, cap, rfl, k1, k2, k3⟩
       have LB := Aside0.mk (LO2.out.trans (k3.mono LO2.out.size))
       have HK := Aside0.mk (And.intro k1 k2)
       clear k1 k2 k3 hm
       go_wp2
       go_ret2
       rw [HXF.out]
       exact ⟨G, cap, rfl, HK.out.1, HK.out.2, LB.out⟩
     | succ n =>
      obtain ⟨k1, hk1⟩ : ∃ k1 : Nat, n + 1 = k1 := ⟨_, rfl⟩
      rw [hk1]
      have HK1 := Aside0.mk hk1
      obtain ⟨N, hN⟩ : ∃ N : Int, (k1 : Int) = N := ⟨_, rfl⟩
      have HN := Aside0.mk (show (k1 : Int) = N ∧ 1 ≤ N ∧ N ≤ 13 ∧ N - 1 = (n : Int) ∧ N ≤ R by have := HJ.out; have := HTL.out; have := HRL.out; have := HLL.out; have := HR1.out; omega)
      clear hk1
      have hl2 : decide (N > 0) = true := decide_eq_true (by have := HN.out; omega)
      obtain ⟨ad, rfl, hx⟩ := cx_at (Kd.C_below HC.out.1 HJ.out.2.2) (n : Int) (by omega) (by have := HJ.out; omega)
      rw [show (n : Int).toNat = N.toNat - 1 by have := HN.out; omega] at hx
      obtain ⟨⟨x1, x2⟩, hxx⟩ : ∃ z, at_ rs n = z := ⟨_, rfl⟩
      have hgx := GR.out.at_ (n : Int) (by omega) (by have := HJ.out; omega)
      rw [show rdOf (0, 0) rs (n : Int) = (x1, x2) from hxx] at hgx hx
      have GX := Aside0.mk hgx
      have hcut := HJ.out.1
      unfold cutN at hcut
      rw [hxx] at hcut
      have hw : wrap64 (N - 1) = N - 1 := by have := HN.out; exact w64 (by omega) (by omega)
      have p0 : 0 < N := by have := HN.out; omega
      have p1 : N ≤ 13 := HN.out.2.2.1
      have q0 := eq_true (show 1 ≤ N by omega)
      have q1 := eq_true (show N - 1 < R by have := HN.out; omega)
      clear hxx hgx
      cases hs : smal t (x1, x2)
      ·have HTE := Aside0.mk (show T = n + 1 by rw [hs] at hcut; exact hcut.symm)
       have hne : (N == 0) = false := by simp; omega
       unfold smal at hs
       obtain ⟨i0, hi1, -, -, -⟩ := info_parts info_cx
       have hsl := cut_to (P := Try.prog) 24 34 .i64 Try.underlying24 hi1 (some ad) R1 c3 N (by omega) (by have := HN.out; have := HRI.out; omega) (by have := HC.out.2; have := HR1.out; omega)
       have hlen : (rs.take T).length = T := by rw [List.length_take]; have := HTL.out; omega
       have hCt := Kd.C_take (Kd.C_below HC.out.1 HJ.out.2.2) HTL.out
       have hgt := GR.out.take T
       have hlz : lastZ (rs.take T) = false := lastZ_take (by have := HTE.out; omega) HTL.out (by rw [show T - 1 = n by have := HTE.out; omega]; exact HTZ.out n HTE.out)
       have hkx : comG t m bs (rs.take T) = X := by
        have h := KEY2.out
        rw [if_neg (by have := HTE.out; omega)] at h
        exact h
       obtain ⟨us, hus⟩ : ∃ us, rs.take T = us := ⟨_, rfl⟩
       rw [hus] at hlen hCt hgt hlz hkx
       have HLE := Aside0.mk hlen
       have HCT := Aside0.mk hCt
       have HUS := Aside0.mk (And.intro hgt (And.intro hlz hkx))
       rw [show N.toNat = us.length by rw [hlen]; have := HN.out; have := HTE.out; have := HK1.out; omega] at hsl
       clear hcut hi1 hlen hCt hgt hlz hkx hus
       go_wp2_with fail
       refine (l01Size_calls x1 x2 GX.out.2.1 GX.out.2.2 GX.out.1.1 GX.out.1.2 _).mono ?_
       rintro e w5 ⟨rfl, n5, rfl⟩
       go_wp2_with fail
       refine (l04Own_calls (some ad) c3 us _ (Kd.C_drewN HCT.out _) (by have := HLE.out; have := HTL.out; have := HRL.out; have := HLL.out; omega)).mono ?_
       rintro e w6 ⟨v6, rfl, o6⟩
       obtain ⟨A6, c6, rfl, k6, C6⟩ := o6.reads
       have H6 := Aside0.mk (And.intro k6 (And.intro C6 (show Below wr.heap.size wr w6 from by have h := o6.low; exact (pw_below_drewN (Below.refl wr.heap.size wr) n5).trans h)))
       clear o6 k6 C6 hsl
       go_wp2_with fail
       go_roundg m
       case measure => omega
       case rel =>
        have hT1 := HTE.out
        exact ⟨⟨B, cb, bs, A6, c6, us, rfl, rfl, Kd.C_below (Kd.C_below HB.out.1 HJ.out.2.2) H6.out.2.2, H6.out.2.1, H6.out.1, GB.out, HUS.out.1, HLL.out.2.1, by rw [HLE.out]; have := HTL.out; have := HRL.out; have := HLL.out; omega, by rw [HLE.out]; omega, HUS.out.2.1, HUS.out.2.2, by rw [HLE.out]; have := HTL.out; have := HRL.out; have := HG.out; omega, LO2.out.trans (H6.out.2.2.mono LO2.out.size)⟩⟩
      ·have HCT := Aside0.mk (show cutN t rs n = T by rw [hs, if_pos rfl] at hcut; exact hcut)
       unfold smal at hs
       clear hcut
       go_wp2_with fail
       refine (l01Size_calls x1 x2 GX.out.2.1 GX.out.2.2 GX.out.1.1 GX.out.1.2 _).mono ?_
       rintro e w5 ⟨rfl, n5, rfl⟩
       go_wp2_with fail
       go_roundg n
       case measure => omega
       case rel => exact ⟨by first | rw [hw, HN.out.2.2.2.1] | rw [HN.out.2.2.2.1], ⟨HCT.out, by have := HJ.out; omega, by repeat (first | exact HJ.out.2.2 | refine pw_below_drewN ?_ _)⟩⟩
end Go.Proofs.Ytdjkcpmoigemdaa
namespace Go.Proofs.Ytdjkcpmoigemdaa
open Go Ieee Go.RowKit Go.Proofs.Ytdjkcpmoigemdaa.Fl Go.Proofs.Ytdjkcpmoigemdaa.Fx Go.Proofs.Ytdjkcpmoigemdaa.P Go.Proofs.YtdjkcpmoigemdaaW.PrintWords Go.Proofs.YtdjkcpmoigemdaaW.PrintLast Go.Proofs.YtdjkcpmoigemdaaW.PrintMore
set_option linter.unusedVariables false
set_option linter.unusedSimpArgs false
attribute [local go_sem] run_add run_sub run_mul run_quo run_cadd run_csub run_neg run_cneg conv_f run_store_cx
theorem ResO.rdr {g : Nat} {w w' : World} {o : Option Cs} {e : Ending} (h : ResO w o e w') (hg : g < w.heap.size) (hw : ∀ zs, o = some zs → Wo zs ∧ zs.length ≤ 30) : ∃ (A : Option Addr) (c : Nat) (xs : Cs), e = .returned (.tuple #[.slice A xs.length c, .bool o.isSome]) ∧ Below w.heap.size w w' ∧ Rdr g w' A c xs := by
 cases o with
 | none =>
  obtain ⟨rfl, hb⟩ := h
  exact ⟨none, 0, [], rfl, hb, Kd.C_nil _ _, Nat.le_refl _, by simp, (fun p hp => by cases hp), (fun ad e => by cases e)⟩
 | some zs =>
  obtain ⟨v, rfl, ho⟩ := h
  have hz := hw zs rfl
  obtain ⟨A, c, rfl, hr⟩ := (ho.rw_ (g := g) (w := w) (Nat.le_refl _) hg hz.1).rdr hz.2
  exact ⟨A, c, zs, rfl, ho.low, hr⟩
theorem Rdr.grow {g : Nat} {w w' : World} {A : Option Addr} {c : Nat} {xs : Cs} (h : Rdr g w A c xs) (hk : Below w.heap.size w w') : Rdr g w' A c xs := h.below hk
set_option maxRecDepth 100000 in
set_option maxHeartbeats 8000000 in
theorem drawCommon_calls (w : World) (A0 : Option Addr) (c0 : Nat) (l : List Int) (h : Code8 w A0 c0 l) : Calls Try.prog 6 #[.slice A0 l.length c0] w fun e w' => ∃ A c xs B d ys t, e = .returned (.tuple #[.slice A xs.length c, .slice B ys.length d, .float .f64 t]) ∧ Inp w' A c xs ∧ Inp w' B d ys ∧ Below w.heap.size w w' := by
 go_enter Try.func6, Try.ntmps6
 go_wp2_with fail
 refine (from_calls w A0 c0 l h).mono ?_
 rintro e w1 ⟨g, rfl, hs⟩
 obtain ⟨w0, hw0⟩ : ∃ w0, w0 = w := ⟨w, rfl⟩
 rw [← hw0] at hs
 have HS := Aside0.mk hs
 clear hs h
 go_wp2_with fail
 refine (next_calls w0 _ g _ (HS.out).from_).mono ?_
 rintro e w_ ⟨r, rfl, hs, hr⟩
 replace HS := Aside0.mk ((HS.out).trans hs); clear hs
 clear hr
 go_upto_block 0 with (fail)
 go_cut [6] (fun v6 wc => ∃ b, v6 = .float .f64 b ∧ Aside0 (Src w1 w0 wc g))
 case first =>
  by_cases k0 : r = 0
  ·have d0 : (r == 0) = true := by simpa using k0
   clear k0
   go_wp2_with fail
   refine (float_calls w0 _ g (HS.out).from_).mono ?_
   rintro e w_ ⟨⟨v, rfl, b, rfl, hb⟩, hs⟩
   replace HS := Aside0.mk ((HS.out).trans hs); clear hs
   go_wp2_with fail
   go_meet
   case rel => exact ⟨b, rfl, ⟨HS.out⟩⟩
  have d0 : (r == 0) = false := by simpa using k0
  clear k0
  by_cases k1 : r = 1
  ·have d1 : (r == 1) = true := by simpa using k1
   clear k1
   go_wp2_with fail
   refine (strange_calls w0 _ g (HS.out).from_).mono ?_
   rintro e w_ ⟨⟨v, rfl, b, rfl, hb⟩, hs⟩
   replace HS := Aside0.mk ((HS.out).trans hs); clear hs
   go_wp2_with fail
   go_meet
   case rel => exact ⟨b, rfl, ⟨HS.out⟩⟩
  have d1 : (r == 1) = false := by simpa using k1
  clear k1
  by_cases k2 : r = 2
  ·have d2 : (r == 2) = true := by simpa using k2
   clear k2
   go_wp2_with fail
   refine (next_calls w0 _ g _ (HS.out).from_).mono ?_
   rintro e w_ ⟨q, rfl, hs, hr⟩
   replace HS := Aside0.mk ((HS.out).trans hs); clear hs
   clear hr
   go_wp2_with fail
   refine (scale_calls 4607182418800017408 _ (by decide) (w64in _) _).mono ?_
   rintro e w5 ⟨⟨v, rfl, b, rfl, hb⟩, n5, rfl⟩
   go_wp2_with fail
   go_meet
   case rel => exact ⟨b, rfl, ⟨HS.out.drewN _⟩⟩
  have d2 : (r == 2) = false := by simpa using k2
  clear k2
  by_cases k3 : r = 3
  ·have d3 : (r == 3) = true := by simpa using k3
   clear k3
   go_wp2_with fail
   refine (next_calls w0 _ g _ (HS.out).from_).mono ?_
   rintro e w_ ⟨q, rfl, hs, hr⟩
   replace HS := Aside0.mk ((HS.out).trans hs); clear hs
   clear hr
   go_wp2_with fail
   refine (scale_calls 4607182418800017408 _ (by decide) (w64in _) _).mono ?_
   rintro e w5 ⟨⟨v, rfl, b, rfl, hb⟩, n5, rfl⟩
   go_wp2_with fail
   go_meet
   case rel => exact ⟨b, rfl, ⟨HS.out.drewN _⟩⟩
  have d3 : (r == 3) = false := by simpa using k3
  clear k3
  go_wp2_with fail
  go_meet
  case rel => exact ⟨0, rfl, ⟨HS.out⟩⟩
 case rest => as_aux_lemma =>
  clear HS
  obtain ⟨b, rfl, hc⟩ := hcut
  obtain ⟨w_, hw_⟩ : ∃ w_, w_ = wc := ⟨_, rfl⟩
  subst hw_
  have HS := Aside0.mk hc.out
  clear hc
  go_wp2_with fail
  refine (next_calls w0 _ g _ (HS.out).from_).mono ?_
  rintro e w_ ⟨q, rfl, hs, hr⟩
  replace HS := Aside0.mk ((HS.out).trans hs); clear hs
  have HQ := Aside0.mk (hr (by omega))
  clear hr
  go_wp2_with fail
  refine (roots_calls w0 _ g q HS.out.from_ HQ.out.1 (by have := HQ.out; omega)).mono ?_
  rintro e w2 ⟨v, cs, rfl, hm, hl, hs⟩
  obtain ⟨A1, c1, rfl, hr1⟩ := hm.rdr (by have := HQ.out; omega)
  have HC := Aside0.mk hr1
  have HCL := Aside0.mk (show (cs.length : Int) ≤ 2 by have := HQ.out; omega)
  replace HS := Aside0.mk (HS.out.trans hs)
  clear hm hl hs hr1 HQ
  go_wp2_with fail
  refine (next_calls w0 _ g _ (HS.out).from_).mono ?_
  rintro e w_ ⟨q1, rfl, hs, hr⟩
  replace HC := Aside0.mk (HC.out.keep hs.keep)
  replace HS := Aside0.mk ((HS.out).trans hs); clear hs
  have HQ := Aside0.mk (hr (by omega))
  have hw : wrap64 (1 + q1) = 1 + q1 := by have := HQ.out; exact w64 (by omega) (by omega)
  clear hr
  go_wp2_with fail
  try simp only [hw]
  clear hw
  obtain ⟨wb, hwb⟩ : ∃ wb, wb = w_ := ⟨_, rfl⟩
  have HB := Aside0.mk (show wb.heap.size = w_.heap.size by rw [hwb])
  refine (roots_calls w0 _ g (1 + q1) HS.out.from_ (by have := HQ.out; omega) (by have := HQ.out; omega)).mono ?_
  rintro e w2 ⟨v, us, rfl, hm, hl, hs⟩
  rw [← hwb] at hm hs
  have HK := Aside0.mk (show Rdr g wb A1 c1 cs by rw [hwb]; exact HC.out)
  have HS2 := Aside0.mk (show Src wb w0 w2 g from hs)
  have HS3 := Aside0.mk (show Src w1 w0 w2 g from HS.out.trans (by rw [← hwb]; exact hs))
  have HG := Aside0.mk (show g < wb.heap.size ∧ w1.heap.size ≤ wb.heap.size from ⟨by rw [hwb]; exact HS.out.lt, by rw [hwb]; exact HS.out.keep.1⟩)
  have HM := Aside0.mk hm
  have HL := Aside0.mk (show (us.length : Int) ≤ 3 by have := HQ.out; omega)
  have HCW := Aside0.mk (HK.out.keep hs.keep)
  have HZ := Aside0.mk hs.keep.1
  clear hm hl hs HS
  go_wp2_with (first | ((with_reducible refine gate_builtin (b := .append) (xs := #[.tmp 40, .tmp 41]) rfl ?_); at_builtin; refine Kd.R_append_row cxv (0, 0) (h1 := fun _ => rfl) (w0 := w2) wb.heap.size rfl (.tmp 40) (.tmp 41) 24 34 (.complex .f64 0 0) 16 rfl Try.underlying24 info_cx rfl (by omega) _ us cs A1 cs.length c1 (fun b => b ≠ g) rfl rfl (fun k hk => by have := HG.out; have := HZ.out; show k ≠ g; omega) HM.out.row HCW.out.C (Below.refl _ _) HZ.out (by have := HL.out; have := HCL.out; omega) ?_; intro v1 w4 ho hb hg hat))
  have HS := Aside0.mk (HS3.out.under hb HG.out.1 HG.out.2)
  have HS4 := Aside0.mk (HS2.out.under hb HG.out.1 (Nat.le_refl _))
  have HROW := Aside0.mk (Rw.mk ho (fun p hp => by
   rcases List.mem_append.1 hp with hp | hp
   ·exact HM.out.words p hp
   ·exact HCW.out.words p hp))
  have HLS := Aside0.mk (show (us ++ cs).length ≤ 6 by rw [List.length_append]; have := HL.out; have := HCL.out; omega)
  clear ho hb hg hat
  replace HC := Aside0.mk ((HK.out).keep HS4.out.keep)
  obtain ⟨A9, c9, rfl, hr9⟩ := HROW.out.rdr (by have := HLS.out; omega)
  have HR9 := Aside0.mk hr9
  obtain ⟨zs, hzs⟩ : ∃ zs, us ++ cs = zs := ⟨_, rfl⟩
  rw [hzs] at HR9 HLS
  rw [hzs]
  clear hr9 HROW HM HCW HK HS2 HS3 HS4 HZ HQ HG HB hwb hzs HL
  go_wp2_with fail
  refine (l04OfRoots_calls A9 c9 zs _ HR9.out.C (by have := HLS.out; omega)).mono ?_
  intro e w5 h
  obtain ⟨A2, c2, ys, rfl, hb5, hr5⟩ := ResO.rdr (g := g) h HS.out.lt (fun ts ht => ⟨rootsT_wo ht, by have := rootsT_len ht; have := HLS.out; omega⟩)
  clear h
  obtain ⟨b1, hb1⟩ : ∃ b, (rootsT zs).isSome = b := ⟨_, rfl⟩
  rw [hb1]
  replace HC := Aside0.mk (HC.out.below hb5)
  replace HS := Aside0.mk (HS.out.under hb5 HS.out.lt HS.out.keep.1)
  have HA := Aside0.mk hr5
  clear hb5 hr5 hb1 HR9 HLS
  go_wp2_with fail
  refine (next_calls w0 _ g _ (HS.out).from_).mono ?_
  rintro e w_ ⟨q2, rfl, hs, hr⟩
  replace HC := Aside0.mk (HC.out.keep hs.keep)
  replace HA := Aside0.mk (HA.out.keep hs.keep)
  replace HS := Aside0.mk ((HS.out).trans hs); clear hs
  have HQ := Aside0.mk (hr (by omega))
  have hw : wrap64 (1 + q2) = 1 + q2 := by have := HQ.out; exact w64 (by omega) (by omega)
  clear hr
  go_wp2_with fail
  try simp only [hw]
  clear hw
  obtain ⟨wb, hwb⟩ : ∃ wb, wb = w_ := ⟨_, rfl⟩
  have HB := Aside0.mk (show wb.heap.size = w_.heap.size by rw [hwb])
  refine (roots_calls w0 _ g (1 + q2) HS.out.from_ (by have := HQ.out; omega) (by have := HQ.out; omega)).mono ?_
  rintro e w2 ⟨v, us, rfl, hm, hl, hs⟩
  rw [← hwb] at hm hs
  have HK := Aside0.mk (show Rdr g wb A1 c1 cs ∧ Rdr g wb A2 c2 ys by rw [hwb]; exact ⟨HC.out, HA.out⟩)
  have HS2 := Aside0.mk (show Src wb w0 w2 g from hs)
  have HS3 := Aside0.mk (show Src w1 w0 w2 g from HS.out.trans (by rw [← hwb]; exact hs))
  have HG := Aside0.mk (show g < wb.heap.size ∧ w1.heap.size ≤ wb.heap.size from ⟨by rw [hwb]; exact HS.out.lt, by rw [hwb]; exact HS.out.keep.1⟩)
  have HM := Aside0.mk hm
  have HL := Aside0.mk (show (us.length : Int) ≤ 3 by have := HQ.out; omega)
  have HCW := Aside0.mk (HK.out.1.keep hs.keep)
  have HZ := Aside0.mk hs.keep.1
  clear hm hl hs HS
  go_wp2_with (first | ((with_reducible refine gate_builtin (b := .append) (xs := #[.tmp 51, .tmp 52]) rfl ?_); at_builtin; refine Kd.R_append_row cxv (0, 0) (h1 := fun _ => rfl) (w0 := w2) wb.heap.size rfl (.tmp 51) (.tmp 52) 24 34 (.complex .f64 0 0) 16 rfl Try.underlying24 info_cx rfl (by omega) _ us cs A1 cs.length c1 (fun b => b ≠ g) rfl rfl (fun k hk => by have := HG.out; have := HZ.out; show k ≠ g; omega) HM.out.row HCW.out.C (Below.refl _ _) HZ.out (by have := HL.out; have := HCL.out; omega) ?_; intro v1 w4 ho hb hg hat))
  have HS := Aside0.mk (HS3.out.under hb HG.out.1 HG.out.2)
  have HS4 := Aside0.mk (HS2.out.under hb HG.out.1 (Nat.le_refl _))
  have HROW := Aside0.mk (Rw.mk ho (fun p hp => by
   rcases List.mem_append.1 hp with hp | hp
   ·exact HM.out.words p hp
   ·exact HCW.out.words p hp))
  have HLS := Aside0.mk (show (us ++ cs).length ≤ 6 by rw [List.length_append]; have := HL.out; have := HCL.out; omega)
  clear ho hb hg hat
  replace HC := Aside0.mk ((HK.out.1).keep HS4.out.keep)
  replace HA := Aside0.mk (HK.out.2.keep HS4.out.keep)
  obtain ⟨A9, c9, rfl, hr9⟩ := HROW.out.rdr (by have := HLS.out; omega)
  have HR9 := Aside0.mk hr9
  obtain ⟨zs, hzs⟩ : ∃ zs, us ++ cs = zs := ⟨_, rfl⟩
  rw [hzs] at HR9 HLS
  rw [hzs]
  clear hr9 HROW HM HCW HK HS2 HS3 HS4 HZ HQ HG HB hwb hzs HL
  go_wp2_with fail
  refine (l04OfRoots_calls A9 c9 zs _ HR9.out.C (by have := HLS.out; omega)).mono ?_
  intro e w5 h
  obtain ⟨A3, c3, xs, rfl, hb5, hr5⟩ := ResO.rdr (g := g) h HS.out.lt (fun ts ht => ⟨rootsT_wo ht, by have := rootsT_len ht; have := HLS.out; omega⟩)
  clear h
  obtain ⟨b2, hb2⟩ : ∃ b, (rootsT zs).isSome = b := ⟨_, rfl⟩
  rw [hb2]
  replace HC := Aside0.mk (HC.out.below hb5)
  replace HA := Aside0.mk (HA.out.below hb5)
  replace HS := Aside0.mk (HS.out.under hb5 HS.out.lt HS.out.keep.1)
  have HX := Aside0.mk hr5
  clear hb5 hr5 hb2 HR9 HLS
  clear HC HCL
  cases b1
  ·clear HA HX
   go_wp2_with fail
   refine (spoil4_calls w0 _ g HS.out.from_).mono ?_
   rintro e w_ ⟨A7, c7, us, rfl, hm, hl1, hs⟩
   have H7 := Aside0.mk hm
   replace HS := Aside0.mk (HS.out.trans hs)
   clear hm hl1 hs
   go_wp2_with fail
   refine (spoil4_calls w0 _ g HS.out.from_).mono ?_
   rintro e w_ ⟨A8, c8, vs, rfl, hm, hl1, hs⟩
   replace H7 := Aside0.mk (H7.out.keep hs.keep)
   have H8 := Aside0.mk hm
   replace HS := Aside0.mk (HS.out.trans hs)
   clear hm hl1 hs
   go_wp2
   go_ret3
   exact ⟨A7, c7, us, A8, c8, vs, b, rfl, H7.out.inp, H8.out.inp, by rw [hw0] at HS; exact HS.out.low⟩
  cases b2
  ·clear HA HX
   go_wp2_with fail
   refine (spoil4_calls w0 _ g HS.out.from_).mono ?_
   rintro e w_ ⟨A7, c7, us, rfl, hm, hl1, hs⟩
   have H7 := Aside0.mk hm
   replace HS := Aside0.mk (HS.out.trans hs)
   clear hm hl1 hs
   go_wp2_with fail
   refine (spoil4_calls w0 _ g HS.out.from_).mono ?_
   rintro e w_ ⟨A8, c8, vs, rfl, hm, hl1, hs⟩
   replace H7 := Aside0.mk (H7.out.keep hs.keep)
   have H8 := Aside0.mk hm
   replace HS := Aside0.mk (HS.out.trans hs)
   clear hm hl1 hs
   go_wp2
   go_ret3
   exact ⟨A7, c7, us, A8, c8, vs, b, rfl, H7.out.inp, H8.out.inp, by rw [hw0] at HS; exact HS.out.low⟩
  go_wp2_with fail
  refine (next_calls w0 _ g _ (HS.out).from_).mono ?_
  rintro e w_ ⟨r6, rfl, hs, hr⟩
  replace HA := Aside0.mk (HA.out.keep hs.keep)
  replace HX := Aside0.mk (HX.out.keep hs.keep)
  replace HS := Aside0.mk ((HS.out).trans hs); clear hs
  clear hr
  by_cases k6 : r6 = 0
  ·have d6 : (r6 == 0) = true := by simpa using k6
   clear k6 HA HX
   go_wp2_with fail
   refine (spoil4_calls w0 _ g HS.out.from_).mono ?_
   rintro e w_ ⟨A7, c7, us, rfl, hm, hl1, hs⟩
   have H7 := Aside0.mk hm
   replace HS := Aside0.mk (HS.out.trans hs)
   clear hm hl1 hs
   go_wp2_with fail
   refine (spoil4_calls w0 _ g HS.out.from_).mono ?_
   rintro e w_ ⟨A8, c8, vs, rfl, hm, hl1, hs⟩
   replace H7 := Aside0.mk (H7.out.keep hs.keep)
   have H8 := Aside0.mk hm
   replace HS := Aside0.mk (HS.out.trans hs)
   clear hm hl1 hs
   go_wp2
   go_ret3
   exact ⟨A7, c7, us, A8, c8, vs, b, rfl, H7.out.inp, H8.out.inp, by rw [hw0] at HS; exact HS.out.low⟩
  ·have d6 : (r6 == 0) = false := by simpa using k6
   clear k6
   go_wp2
   go_ret3
   exact ⟨A2, c2, ys, A3, c3, xs, b, rfl, HA.out.inp, HX.out.inp, by rw [hw0] at HS; exact HS.out.low⟩
end Go.Proofs.Ytdjkcpmoigemdaa
namespace Go.Proofs.Ytdjkcpmoigemdaa
open Go Ieee Go.RowKit Go.Proofs.Ytdjkcpmoigemdaa.Fl Go.Proofs.Ytdjkcpmoigemdaa.Fx Go.Proofs.Ytdjkcpmoigemdaa.P Go.Proofs.YtdjkcpmoigemdaaW.PrintWords Go.Proofs.YtdjkcpmoigemdaaW.PrintLast Go.Proofs.YtdjkcpmoigemdaaW.PrintMore
set_option linter.unusedVariables false
set_option linter.unusedSimpArgs false
def hornE (now z p : Nat × Nat) : Option (Nat × Nat) := stp (fun c d _ _ => (fop .add (mulO now.1 now.2 z.1 z.2).1 (can c), fop .add (mulO now.1 now.2 z.1 z.2).2 (can d))) p.1 p.2 0 0
theorem hornE_of {now z p : Nat × Nat} {r i : Nat} (hr : can r = fop .add (mulO now.1 now.2 z.1 z.2).1 (can p.1)) (hi : can i = fop .add (mulO now.1 now.2 z.1 z.2).2 (can p.2)) : hornE now z p = if isFin r && isFin i then some (r, i) else none := stp_of hr hi
theorem hornE_wo {now z p r : Nat × Nat} (h : hornE now z p = some r) : (isFin r.1 && isFin r.2) = true ∧ r.1 < 2 ^ 64 ∧ r.2 < 2 ^ 64 := by
 unfold hornE stp at h
 split at h
 ·rename_i a b h1 h2
  split at h
  ·rename_i hf
   cases h
   exact ⟨hf, fop_lt h1, fop_lt h2⟩
  ·cases h
 ·cases h
def defS (z : Nat × Nat) (p : Cs) : Nat → Nat × Nat → Cs → Option (Cs × (Nat × Nat))
 | 0, now, out => some (out, now)
 | i + 1, now, out => (hornE now z (at_ p i)).bind fun r => defS z p i r (now :: out)
def defP (p : Cs) (z : Nat × Nat) : Option (Cs × (Nat × Nat)) := defS z p (p.length - 1) (at_ p ((p.length : Int) - 1)) []
theorem defS_len (z : Nat × Nat) (p : Cs) : ∀ (i : Nat) (now : Nat × Nat) (out : Cs) (r : Cs × (Nat × Nat)), defS z p i now out = some r → r.1.length = out.length + i
 | 0, now, out, r, h => by cases h; rfl
 | i + 1, now, out, r, h => by
  unfold defS at h
  obtain ⟨t, _, h2⟩ := Option.bind_eq_some_iff.1 h
  rw [defS_len z p i t _ r h2, List.length_cons]
  omega
def ResF (w : World) (o : Option (Cs × (Nat × Nat))) : Ending → World → Prop := fun e w' => match o with
 | none => e = .returned (.tuple #[.slice none 0 0, .complex .f64 0 0, .int .i64 3]) ∧ Below w.heap.size w w'
 | some p => ∃ (A : Option Addr) (c : Nat), e = .returned (.tuple #[.slice A p.1.length c, .complex .f64 p.2.1 p.2.2, .int .i64 0]) ∧ cxk.C w' A p.1.length p.1 ∧ p.1.length ≤ c ∧ Below w.heap.size w w'
theorem ResF.none_ {w w' : World} (h : Below w.heap.size w w') : ResF w none (.returned (.tuple #[.slice none 0 0, .complex .f64 0 0, .int .i64 3])) w' := ⟨rfl, h⟩
theorem replicate_set (i : Nat) (out : Cs) (z : Nat × Nat) : (List.replicate (i + 1) ((0, 0) : Nat × Nat) ++ out).set i z = List.replicate i (0, 0) ++ (z :: out) := by
 rw [List.replicate_succ', List.append_assoc, List.set_append_right _ _ (by rw [List.length_replicate]; omega), List.length_replicate, Nat.sub_self]
 rfl
end Go.Proofs.Ytdjkcpmoigemdaa
namespace Go.Proofs.Ytdjkcpmoigemdaa
open Go Ieee Go.RowKit Go.Proofs.Ytdjkcpmoigemdaa.Fl Go.Proofs.Ytdjkcpmoigemdaa.Fx Go.Proofs.Ytdjkcpmoigemdaa.P Go.Proofs.YtdjkcpmoigemdaaW.PrintWords Go.Proofs.YtdjkcpmoigemdaaW.PrintLast Go.Proofs.YtdjkcpmoigemdaaW.PrintMore
set_option linter.unusedVariables false
set_option linter.unusedSimpArgs false
theorem pow_ex (k : Nat) : ∃ p : Nat, p = 2 ^ k := ⟨_, rfl⟩
noncomputable def P74 : Nat := Classical.choose (pow_ex 1074)
theorem P74_eq : P74 = 2 ^ 1074 := Classical.choose_spec (pow_ex 1074)
theorem P74_pos : 0 < P74 := by rw [P74_eq]; exact Nat.two_pow_pos 1074
def V (x : Nat) (n : Int) : Prop := x < 2 ^ 64 ∧ isFin x = true ∧ U x = n * (P74 : Int)
theorem V.can {x : Nat} {n : Int} (h : V x n) : can x = some x := can_fin h.2.1
theorem signed_P (s : Bool) (m : Nat) : signed s m 1074 = if s then -((m : Int) * P74) else (m : Int) * P74 := by
 unfold signed
 rw [Nat.shiftLeft_eq, ← P74_eq]
 cases s
 ·show ((m * P74 : Nat) : Int) = _
  rw [Int.natCast_mul]; rfl
 ·show -((m * P74 : Nat) : Int) = _
  rw [Int.natCast_mul]; rfl
theorem signed_abs {s : Bool} {n : Int} (h : n ≠ 0 → s = decide (n < 0)) : signed s n.natAbs 1074 = n * P74 := by
 rw [signed_P]
 rcases Int.lt_trichotomy n 0 with hn | hn | hn
 ·have e : s = true := by rw [h (by omega)]; exact decide_eq_true hn
  rw [e, if_pos rfl, ← Int.neg_mul]
  congr 1
  omega
 ·subst hn
  cases s <;> simp
 ·have e : s = false := by rw [h (by omega)]; exact decide_eq_false (by omega)
  rw [e, if_neg (by decide)]
  congr 1
  omega
theorem V_nearest {s : Bool} {n : Int} (h : n.natAbs < 2 ^ 53) (hs : n ≠ 0 → s = decide (n < 0)) : isFin (double.nearest s n.natAbs 0) = true ∧ U (double.nearest s n.natAbs 0) = n * (P74 : Int) := by
 have hl : n.natAbs ≠ 0 → (0 : Int) + n.natAbs.log2 < 1024 := by
  intro h0
  have := log2_53 h0 h
  omega
 have := U_nearest s (m := n.natAbs) (p := 0) h (by decide) hl
 refine ⟨this.1, ?_⟩
 rw [this.2, show ((0 : Int) + 1074).toNat = 1074 from rfl]
 exact signed_abs hs
theorem natAbs_P (n : Int) : (n * (P74 : Int)).natAbs = n.natAbs * P74 := by rw [Int.natAbs_mul, Int.natAbs_natCast]
theorem mulP_neg {n : Int} : n * (P74 : Int) < 0 ↔ n < 0 := by
 have hp : (0 : Int) < P74 := by exact_mod_cast P74_pos
 constructor
 ·intro h
  rcases Int.lt_or_le n 0 with h1 | h1
  ·exact h1
  ·exact absurd (Int.mul_nonneg h1 (Int.le_of_lt hp)) (by omega)
 ·intro h
  exact Int.mul_neg_of_neg_of_pos h hp
theorem mulP_zero {n : Int} (h : n ≠ 0) : n * (P74 : Int) ≠ 0 := by
 have hp : (P74 : Int) ≠ 0 := by have := P74_pos; omega
 exact Int.mul_ne_zero h hp
theorem fadd_V {x y : Nat} {a b : Int} (hx : V x a) (hy : V y b) (h : (a + b).natAbs < 2 ^ 53) : ∃ r, fop .add (can x) (can y) = some r ∧ V r (a + b) := by
 obtain ⟨s, e, hs⟩ := add_U hx.2.1 hy.2.1
 rw [hx.2.2, hy.2.2, ← Int.add_mul] at e hs
 rw [natAbs_P, P74_eq] at e
 have e2 := nearest_shift s (a + b).natAbs 0 1074
 rw [show (0 : Int) - ((1074 : Nat) : Int) = -1074 from rfl] at e2
 rw [e2] at e
 have hv := V_nearest (s := s) h (fun h0 => by rw [hs (mulP_zero h0)]; exact decide_eq_decide.2 mulP_neg)
 rw [hx.can, hy.can]
 exact ⟨_, e, fb_lt e, hv.1, hv.2⟩
theorem V.neg {x : Nat} {a : Int} (h : V x a) : V (Op.negFloat .f64 x) (-a) := by
 refine ⟨neg_lt h.1, by rw [isFin_neg h.1]; exact h.2.1, ?_⟩
 rw [U_neg h.1 h.2.1, h.2.2, Int.neg_mul]
theorem fsub_V {x y : Nat} {a b : Int} (hx : V x a) (hy : V y b) (h : (a - b).natAbs < 2 ^ 53) : ∃ r, fop .sub (can x) (can y) = some r ∧ V r (a - b) := by
 rw [← fop_neg (can x) hy.1]
 exact fadd_V hx hy.neg h
theorem signed_sign {s : Bool} {m u : Nat} (h : signed s m u ≠ 0) : s = decide (signed s m u < 0) := by
 cases s
 ·rw [signed_pos]
  exact (decide_eq_false (by omega)).symm
 ·have hn : signed true m u = -((m * 2 ^ u : Nat) : Int) := by
   unfold signed
   rw [Nat.shiftLeft_eq]
   rfl
  rw [hn] at h ⊢
  exact (decide_eq_true (by omega)).symm
theorem xor_sign {a b : Int} (ha : a ≠ 0) (hb : b ≠ 0) : (decide (a < 0) ^^ decide (b < 0)) = decide (a * b < 0) := by
 rcases Int.lt_or_gt_of_ne ha with h1 | h1 <;> rcases Int.lt_or_gt_of_ne hb with h2 | h2
 ·rw [decide_eq_true h1, decide_eq_true h2, decide_eq_false (by have := Int.mul_pos_of_neg_of_neg h1 h2; omega)]; rfl
 ·rw [decide_eq_true h1, decide_eq_false (by omega), decide_eq_true (Int.mul_neg_of_neg_of_pos h1 h2)]; rfl
 ·rw [decide_eq_false (by omega), decide_eq_true h2, decide_eq_true (Int.mul_neg_of_pos_of_neg h1 h2)]; rfl
 ·rw [decide_eq_false (by omega), decide_eq_false (by omega), decide_eq_false (by have := Int.mul_pos h1 h2; omega)]; rfl
theorem pw2 (a b c : Nat) (h : c = a + b) : 2 ^ c = 2 ^ a * 2 ^ b := by subst h; exact Nat.pow_add 2 a b
theorem fmul_V {x y : Nat} {a b : Int} (hx : V x a) (hy : V y b) (h : (a * b).natAbs < 2 ^ 53) : ∃ r, fop .mul (can x) (can y) = some r ∧ V r (a * b) := by
 obtain ⟨s, m, p, h1, h2, h3, h4, h5, h6⟩ := U_bound hx.2.1
 obtain ⟨t, n, q, g1, g2, g3, g4, g5, g6⟩ := U_bound hy.2.1
 rw [hx.2.2] at h6
 rw [hy.2.2] at g6
 have e : fb .mul x y = some (double.nearest (s ^^ t) (m * n) (p + q)) := by
  show ((double.read x).product (double.read y)).map double.write = _
  rw [h1, g1]
  rfl
 have ha : m * 2 ^ (p + 1074).toNat = a.natAbs * 2 ^ 1074 := by rw [← P74_eq, ← natAbs_P, h6, signed_natAbs]
 have hb : n * 2 ^ (q + 1074).toNat = b.natAbs * 2 ^ 1074 := by rw [← P74_eq, ← natAbs_P, g6, signed_natAbs]
 have sa : a ≠ 0 → s = decide (a < 0) := by
  intro h0
  rw [show decide (a < 0) = decide (a * (P74 : Int) < 0) from decide_eq_decide.2 mulP_neg.symm, h6]
  exact signed_sign (by rw [← h6]; exact mulP_zero h0)
 have sb : b ≠ 0 → t = decide (b < 0) := by
  intro h0
  rw [show decide (b < 0) = decide (b * (P74 : Int) < 0) from decide_eq_decide.2 mulP_neg.symm, g6]
  exact signed_sign (by rw [← g6]; exact mulP_zero h0)
 have key : m * n * 2 ^ ((p + 1074).toNat + (q + 1074).toNat) = (a * b).natAbs * 2 ^ 2148 := by
  rw [pw2 1074 1074 2148 rfl, Nat.pow_add, Nat.mul_mul_mul_comm, ha, hb, Int.natAbs_mul, Nat.mul_mul_mul_comm]
 have e1 := nearest_shift (s ^^ t) (m * n) (p + q) ((p + 1074).toNat + (q + 1074).toNat)
 rw [key, show p + q - (((p + 1074).toNat + (q + 1074).toNat : Nat) : Int) = -2148 by omega] at e1
 have e2 := nearest_shift (s ^^ t) (a * b).natAbs 0 2148
 rw [show (0 : Int) - ((2148 : Nat) : Int) = -2148 from rfl] at e2
 rw [← e1, e2] at e
 have hv := V_nearest (s := s ^^ t) (n := a * b) h (fun h0 => by
  have ha0 : a ≠ 0 := fun h => h0 (by rw [h, Int.zero_mul])
  have hb0 : b ≠ 0 := fun h => h0 (by rw [h, Int.mul_zero])
  rw [sa ha0, sb hb0]
  exact xor_sign ha0 hb0)
 rw [hx.can, hy.can]
 exact ⟨_, e, fb_lt e, hv.1, hv.2⟩
end Go.Proofs.Ytdjkcpmoigemdaa
namespace Go.Proofs.Ytdjkcpmoigemdaa
open Go Ieee Go.RowKit Go.Proofs.Ytdjkcpmoigemdaa.Fl Go.Proofs.Ytdjkcpmoigemdaa.Fx Go.Proofs.Ytdjkcpmoigemdaa.P Go.Proofs.YtdjkcpmoigemdaaW.PrintWords Go.Proofs.YtdjkcpmoigemdaaW.PrintLast Go.Proofs.YtdjkcpmoigemdaaW.PrintMore
set_option linter.unusedVariables false
set_option linter.unusedSimpArgs false
def gm (a b : Int × Int) : Int × Int := (a.1 * b.1 - a.2 * b.2, a.1 * b.2 + a.2 * b.1)
def gs (a b : Int × Int) : Int × Int := (a.1 - b.1, a.2 - b.2)
def ga (a b : Int × Int) : Int × Int := (a.1 + b.1, a.2 + b.2)
def nm (a : Int × Int) : Nat := a.1.natAbs + a.2.natAbs
theorem nm_ga (a b : Int × Int) : nm (ga a b) ≤ nm a + nm b := by unfold nm ga; omega
theorem nm_gs (a b : Int × Int) : nm (gs a b) ≤ nm a + nm b := by unfold nm gs; omega
theorem nm_parts (a b : Int × Int) : (a.1 * b.1).natAbs + (a.2 * b.2).natAbs + ((a.1 * b.2).natAbs + (a.2 * b.1).natAbs) = nm a * nm b := by
 unfold nm
 rw [Int.natAbs_mul, Int.natAbs_mul, Int.natAbs_mul, Int.natAbs_mul, Nat.add_mul, Nat.mul_add, Nat.mul_add]
 omega
theorem nm_gm (a b : Int × Int) : nm (gm a b) ≤ nm a * nm b := by
 have h := nm_parts a b
 show (a.1 * b.1 - a.2 * b.2).natAbs + (a.1 * b.2 + a.2 * b.1).natAbs ≤ _
 omega
def GV (z : Nat × Nat) (g : Int × Int) : Prop := V z.1 g.1 ∧ V z.2 g.2
theorem GV.fin {z : Nat × Nat} {g : Int × Int} (h : GV z g) : (isFin z.1 && isFin z.2) = true := by rw [h.1.2.1, h.2.2.1]; rfl
theorem V_zero : V 0 0 := ⟨by decide, by decide, by rw [Int.zero_mul]; decide⟩
theorem GV_zero : GV (0, 0) (0, 0) := ⟨V_zero, V_zero⟩
theorem mulO_V {x y : Nat × Nat} {a b : Int × Int} (hx : GV x a) (hy : GV y b) (h : nm a * nm b < 2 ^ 53) : ∃ r i, mulO x.1 x.2 y.1 y.2 = (some r, some i) ∧ V r (gm a b).1 ∧ V i (gm a b).2 := by
 have hp := nm_parts a b
 obtain ⟨p, e1, h1⟩ := fmul_V hx.1 hy.1 (by omega)
 obtain ⟨q, e2, h2⟩ := fmul_V hx.2 hy.2 (by omega)
 obtain ⟨s, e3, h3⟩ := fmul_V hx.1 hy.2 (by omega)
 obtain ⟨t, e4, h4⟩ := fmul_V hx.2 hy.1 (by omega)
 obtain ⟨r, e5, h5⟩ := fsub_V h1 h2 (by omega)
 obtain ⟨i, e6, h6⟩ := fadd_V h3 h4 (by omega)
 refine ⟨r, i, ?_, h5, h6⟩
 unfold mulO
 rw [e1, e2, e3, e4, ← h1.can, ← h2.can, ← h3.can, ← h4.can, e5, e6]
theorem stp_V {f : Nat → Nat → Nat → Nat → Option Nat × Option Nat} {p q c d r i : Nat} (h : f p q c d = (some r, some i)) (hr : isFin r = true) (hi : isFin i = true) : stp f p q c d = some (r, i) := by
 unfold stp
 rw [h]
 simp [hr, hi]
theorem subE_V {p c z : Nat × Nat} {a b d : Int × Int} (hp : GV p a) (hc : GV c b) (hz : GV z d) (h : nm a + nm b * nm d < 2 ^ 53) : ∃ r, subE p c z = some r ∧ GV r (gs a (gm b d)) := by
 obtain ⟨u, v, e, hu, hv⟩ := mulO_V hc hz (by omega)
 have hg := nm_gm b d
 have hn : nm (gm b d) = (gm b d).1.natAbs + (gm b d).2.natAbs := rfl
 have ha : nm a = a.1.natAbs + a.2.natAbs := rfl
 obtain ⟨r, e1, h1⟩ := fsub_V hp.1 hu (by omega)
 obtain ⟨i, e2, h2⟩ := fsub_V hp.2 hv (by omega)
 refine ⟨(r, i), ?_, h1, h2⟩
 unfold subE
 refine stp_V ?_ h1.2.1 h2.2.1
 show (fop .sub (can p.1) (mulO c.1 c.2 z.1 z.2).1, fop .sub (can p.2) (mulO c.1 c.2 z.1 z.2).2) = _
 rw [e]
 show (fop .sub (can p.1) (some u), fop .sub (can p.2) (some v)) = _
 rw [← hu.can, ← hv.can, e1, e2]
theorem sumE_V {s x y : Nat × Nat} {a b d : Int × Int} (hp : GV s a) (hc : GV x b) (hz : GV y d) (h : nm a + nm b * nm d < 2 ^ 53) : ∃ r, sumE s x y = some r ∧ GV r (ga a (gm b d)) := by
 obtain ⟨u, v, e, hu, hv⟩ := mulO_V hc hz (by omega)
 have hg := nm_gm b d
 have hn : nm (gm b d) = (gm b d).1.natAbs + (gm b d).2.natAbs := rfl
 have ha : nm a = a.1.natAbs + a.2.natAbs := rfl
 obtain ⟨r, e1, h1⟩ := fadd_V hp.1 hu (by omega)
 obtain ⟨i, e2, h2⟩ := fadd_V hp.2 hv (by omega)
 refine ⟨(r, i), ?_, h1, h2⟩
 unfold sumE
 refine stp_V ?_ h1.2.1 h2.2.1
 show (fop .add (can s.1) (mulO x.1 x.2 y.1 y.2).1, fop .add (can s.2) (mulO x.1 x.2 y.1 y.2).2) = _
 rw [e]
 show (fop .add (can s.1) (some u), fop .add (can s.2) (some v)) = _
 rw [← hu.can, ← hv.can, e1, e2]
theorem hornE_V {now z p : Nat × Nat} {a b d : Int × Int} (hp : GV p a) (hc : GV now b) (hz : GV z d) (h : nm a + nm b * nm d < 2 ^ 53) : ∃ r, hornE now z p = some r ∧ GV r (ga (gm b d) a) := by
 obtain ⟨u, v, e, hu, hv⟩ := mulO_V hc hz (by omega)
 have hg := nm_gm b d
 have hn : nm (gm b d) = (gm b d).1.natAbs + (gm b d).2.natAbs := rfl
 have ha : nm a = a.1.natAbs + a.2.natAbs := rfl
 obtain ⟨r, e1, h1⟩ := fadd_V hu hp.1 (by omega)
 obtain ⟨i, e2, h2⟩ := fadd_V hv hp.2 (by omega)
 refine ⟨(r, i), ?_, h1, h2⟩
 unfold hornE
 refine stp_V ?_ h1.2.1 h2.2.1
 show (fop .add (mulO now.1 now.2 z.1 z.2).1 (can p.1), fop .add (mulO now.1 now.2 z.1 z.2).2 (can p.2)) = _
 rw [e]
 show (fop .add (some u) (can p.1), fop .add (some v) (can p.2)) = _
 rw [← hu.can, ← hv.can, e1, e2]
theorem one_read : double.read 4607182418800017408 = .number false 4503599627370496 (-52) := by decide
theorem quo_one {y : Nat} {s : Bool} {m : Nat} {p : Int} (h : double.read y = .number s m p) (h53 : m < 2 ^ 53) : fb .quo y 4607182418800017408 = some (double.nearest s m p) := by
 show ((double.read y).quotient (double.fractionBits + 2) (double.read 4607182418800017408)).map double.write = _
 rw [h, one_read]
 simp only [Datum.quotient]
 rw [if_neg (by decide)]
 simp only [Option.map_some]
 have hl : m.log2 ≤ 52 := by
  by_cases hm : m = 0
  ·subst hm; decide
  ·exact log2_53 hm h53
 have e0 : double.fractionBits + 2 + Nat.log2 4503599627370496 - m.log2 = 106 - m.log2 := by
  rw [show Nat.log2 4503599627370496 = 52 from by decide]; rfl
 rw [e0]
 have e1 : m <<< (106 - m.log2) = (m * 2 ^ (54 - m.log2)) * 4503599627370496 := by
  rw [Nat.shiftLeft_eq, show (4503599627370496 : Nat) = 2 ^ 52 from by decide, Nat.mul_assoc, ← Nat.pow_add]
  congr 2
  omega
 rw [e1, Nat.mul_div_cancel _ (by decide), Nat.mul_mod_left]
 show some (double.nearest (s ^^ false) (2 * (m * 2 ^ (54 - m.log2)) + 0) (p - -52 - ((106 - m.log2 : Nat) : Int) - 1)) = _
 have := nearest_shift (s ^^ false) m p (55 - m.log2)
 rw [show (p - ((55 - m.log2 : Nat) : Int)) = p - -52 - ((106 - m.log2 : Nat) : Int) - 1 from by omega] at this
 rw [Nat.add_zero, show 2 * (m * 2 ^ (54 - m.log2)) = m * 2 ^ (55 - m.log2) from by rw [show 55 - m.log2 = (54 - m.log2) + 1 from by omega, Nat.pow_succ]; generalize 2 ^ (54 - m.log2) = q; rw [Nat.mul_left_comm, Nat.mul_comm 2 q], this]
 cases s <;> rfl
theorem V_quo {x : Nat} {a : Int} (hx : V x a) : ∃ r, fop .quo (can x) (can 4607182418800017408) = some r ∧ V r a := by
 obtain ⟨s, m, p, h1, h2, h3, h4, h5, h6⟩ := U_bound hx.2.1
 have e := quo_one h1 h2
 have hu := U_nearest s (m := m) (p := p) h2 h3 (fun h0 => by have := log2_53 h0 h2; omega)
 refine ⟨double.nearest s m p, ?_, fb_lt e, hu.1, ?_⟩
 ·rw [hx.can, show can 4607182418800017408 = some 4607182418800017408 from by decide]
  exact e
 ·rw [hu.2, ← h6]
  exact hx.2.2
theorem V_one : V 4607182418800017408 1 := by
 refine ⟨by decide, by decide, ?_⟩
 rw [U_of one_read, Int.one_mul, show ((-52 : Int) + 1074).toNat = 1022 from rfl, signed_pos]
 have e52 : (2 : Nat) ^ 52 = 4503599627370496 := by decide
 have e : 4503599627370496 * 2 ^ 1022 = P74 := by rw [P74_eq, pw2 52 1022 1074 rfl, e52]
 rw [e]
theorem GV_one : GV one_n (1, 0) := ⟨V_one, V_zero⟩
theorem quoO_V {x : Nat × Nat} {a : Int × Int} (hx : GV x a) (h : nm a < 2 ^ 53) : ∃ r i, quoO x.1 x.2 4607182418800017408 0 = (some r, some i) ∧ V r a.1 ∧ V i a.2 := by
 have ha : nm a = a.1.natAbs + a.2.natAbs := rfl
 have e0 : fop .quo (can 0) (can 4607182418800017408) = some 0 := by kernel_rfl
 have e1 : fop .add (can 4607182418800017408) (fop .mul (some 0) (can 0)) = some 4607182418800017408 := by kernel_rfl
 have z0 : can 0 = some 0 := by decide
 obtain ⟨p, k1, h1⟩ := fmul_V hx.2 V_zero (by rw [Int.mul_zero]; decide)
 obtain ⟨q, k2, h2⟩ := fmul_V hx.1 V_zero (by rw [Int.mul_zero]; decide)
 rw [Int.mul_zero] at h1 h2
 obtain ⟨r, k3, h3⟩ := fadd_V hx.1 h1 (by omega)
 obtain ⟨i, k4, h4⟩ := fsub_V hx.2 h2 (by omega)
 rw [Int.add_zero] at h3
 rw [Int.sub_zero] at h4
 obtain ⟨r', k5, h5⟩ := V_quo h3
 obtain ⟨i', k6, h6⟩ := V_quo h4
 refine ⟨r', i', ?_, h5, h6⟩
 unfold quoO
 rw [if_pos (by kernel_rfl), e0, e1, ← z0, k1, k2, ← h1.can, ← h2.can, k3, k4, ← h3.can, ← h4.can, show (some 4607182418800017408 : Option Nat) = can 4607182418800017408 from by decide, k5, k6]
theorem V_eq {x y : Nat} {a : Int} (hx : V x a) (hy : V y a) : FloatKind.f64.format.order x y = some .eq := order_refl hx.2.1 hy.2.1 (by rw [hx.2.2, hy.2.2])
theorem V_ne {x : Nat} {a : Int} (hx : V x a) (h : a ≠ 0) : (FloatKind.f64.format.order x 0 == some .eq) = false := by
 have hg := (gt_U (a := 0) (b := x) (by decide) hx.2.1).2.2
 cases ho : (FloatKind.f64.format.order x 0 == some .eq)
 ·rfl
 ·rw [beq_iff_eq] at ho
  have := hg.1 ho
  rw [hx.2.2, show U 0 = 0 from by decide] at this
  exact absurd this (mulP_zero h)
end Go.Proofs.Ytdjkcpmoigemdaa
namespace Go.Proofs.Ytdjkcpmoigemdaa
open Go Ieee Go.RowKit Go.Proofs.Ytdjkcpmoigemdaa.Fl Go.Proofs.Ytdjkcpmoigemdaa.Fx Go.Proofs.Ytdjkcpmoigemdaa.P Go.Proofs.YtdjkcpmoigemdaaW.PrintWords Go.Proofs.YtdjkcpmoigemdaaW.PrintLast Go.Proofs.YtdjkcpmoigemdaaW.PrintMore
set_option linter.unusedVariables false
set_option linter.unusedSimpArgs false
def RF (xs : Cs) (u : Int → Int × Int) : Prop := ∀ i : Int, 0 ≤ i → i < xs.length → GV (rdOf (0, 0) xs i) (u i)
def Off (n : Nat) (u : Int → Int × Int) : Prop := ∀ i : Int, (i < 0 ∨ n ≤ i) → u i = (0, 0)
def mlin (d : Int × Int) (u : Int → Int × Int) : Int → Int × Int := fun i => gs (u (i - 1)) (gm (u i) d)
theorem gm_zero (d : Int × Int) : gm (0, 0) d = (0, 0) := by unfold gm; simp
theorem gm_zero' (d : Int × Int) : gm d (0, 0) = (0, 0) := by unfold gm; simp
theorem gs_zero (a : Int × Int) : gs a (0, 0) = a := by unfold gs; simp
theorem ga_zero (a : Int × Int) : ga a (0, 0) = a := by unfold ga; simp
theorem ga_zero' (a : Int × Int) : ga (0, 0) a = a := by unfold ga; simp
theorem rdOf_cons0 (z : Nat × Nat) (zs : Cs) : rdOf (0, 0) (z :: zs) 0 = z := rfl
theorem rdOf_cons (z : Nat × Nat) (zs : Cs) (i : Int) (h : 1 ≤ i) : rdOf (0, 0) (z :: zs) i = rdOf (0, 0) zs (i - 1) := by
 show (z :: zs).getD i.toNat (0, 0) = zs.getD (i - 1).toNat (0, 0)
 rw [show i.toNat = (i - 1).toNat + 1 by omega]
 rfl
theorem RF.tail {c : Nat × Nat} {cs : Cs} {u : Int → Int × Int} (h : RF (c :: cs) u) : GV c (u 0) ∧ RF cs (fun i => u (i + 1)) := by
 refine ⟨h 0 (by omega) (by rw [List.length_cons]; omega), fun i h0 h1 => ?_⟩
 have := h (i + 1) (by omega) (by rw [List.length_cons]; omega)
 rw [rdOf_cons _ _ _ (by omega), show i + 1 - 1 = i by omega] at this
 exact this
theorem RF.cons {c : Nat × Nat} {cs : Cs} {u : Int → Int × Int} (h0 : GV c (u 0)) (h : RF cs (fun i => u (i + 1))) : RF (c :: cs) u := by
 intro i hi h1
 by_cases e : i = 0
 ·subst e; exact h0
 ·rw [rdOf_cons _ _ _ (by omega)]
  have := h (i - 1) (by omega) (by rw [List.length_cons] at h1; omega)
  have e2 : i - 1 + 1 = i := by omega
  have e3 : u (i - 1 + 1) = u i := by rw [e2]
  rw [← e3]
  exact this
theorem stpR_V {z : Nat × Nat} {d : Int × Int} (hz : GV z d) {B : Nat} (hB : B + B * nm d < 2 ^ 53) : ∀ (cs : Cs) (p : Nat × Nat) (u : Int → Int × Int), GV p (u (-1)) → RF cs u → (∀ i, nm (u i) ≤ B) → u cs.length = (0, 0) → ∃ zs, stpR z p cs = some zs ∧ zs.length = cs.length + 1 ∧ RF zs (mlin d u)
 | [], p, u, hp, _, _, h0 => ⟨[p], rfl, rfl, fun i hi h1 => by
   have e : i = 0 := by simp at h1; omega
   subst e
   show GV p (gs (u (0 - 1)) (gm (u 0) d))
   rw [show u 0 = (0, 0) from h0, gm_zero, gs_zero]
   exact hp⟩
 | c :: cs, p, u, hp, hc, hb, h0 => by
  obtain ⟨hc0, hct⟩ := hc.tail
  have b1 := hb (-1)
  have b2 := Nat.mul_le_mul_right (nm d) (hb 0)
  obtain ⟨r, e, hr⟩ := subE_V hp hc0 hz (by omega)
  obtain ⟨zs, e2, l2, h2⟩ := stpR_V hz hB cs c (fun i => u (i + 1)) (by show GV c (u (-1 + 1)); rw [show (-1 : Int) + 1 = 0 from rfl]; exact hc0) hct (fun i => hb (i + 1)) (by rw [List.length_cons] at h0; exact_mod_cast h0)
  refine ⟨r :: zs, ?_, by rw [List.length_cons, l2, List.length_cons], RF.cons ?_ ?_⟩
  ·unfold stpR
   rw [e]
   show (stpR z c cs).map (r :: ·) = some (r :: zs)
   rw [e2]
   rfl
  ·exact hr
  ·intro i h3 h4
   have := h2 i h3 h4
   show GV _ (gs (u (i + 1 - 1)) (gm (u (i + 1)) d))
   rw [show i + 1 - 1 = i - 1 + 1 by omega]
   exact this
theorem mlin_off {d : Int × Int} {u : Int → Int × Int} {n : Nat} (h : Off n u) : Off (n + 1) (mlin d u) := by
 intro i hi
 show gs (u (i - 1)) (gm (u i) d) = _
 rw [h (i - 1) (by omega), h i (by omega), gm_zero, gs_zero]
theorem mlin_nm {d : Int × Int} {u : Int → Int × Int} {B : Nat} (h : ∀ i, nm (u i) ≤ B) (i : Int) : nm (mlin d u i) ≤ B + B * nm d := by
 have h1 := nm_gs (u (i - 1)) (gm (u i) d)
 have h2 := nm_gm (u i) d
 have h3 := Nat.mul_le_mul_right (nm d) (h i)
 have h4 := h (i - 1)
 show nm (gs (u (i - 1)) (gm (u i) d)) ≤ _
 omega
def rootF : List (Int × Int) → (Int → Int × Int) → (Int → Int × Int)
 | [], u => u
 | d :: ds, u => rootF ds (mlin d u)
def delta : Int → Int × Int := fun i => if i = 0 then (1, 0) else (0, 0)
theorem ofR_V : ∀ (ps : List ((Nat × Nat) × (Int × Int))) (os : Cs) (u : Int → Int × Int) (B n : Nat), (∀ q ∈ ps, GV q.1 q.2 ∧ nm q.2 ≤ 5) → RF os u → os.length = n + 1 → Off (n + 1) u → u n = (1, 0) → (∀ i, nm (u i) ≤ B) → B * 6 ^ ps.length < 2 ^ 53 →
  ∃ out, ofR (ps.map (·.1)) os = some out ∧ out.length = n + ps.length + 1 ∧ RF out (rootF (ps.map (·.2)) u) ∧ Off (n + ps.length + 1) (rootF (ps.map (·.2)) u) ∧ rootF (ps.map (·.2)) u (n + ps.length : Nat) = (1, 0) ∧ ∀ i, nm (rootF (ps.map (·.2)) u i) ≤ B * 6 ^ ps.length
 | [], os, u, B, n, _, h1, h2, h3, h4, h5, _ => ⟨os, rfl, h2, h1, h3, h4, fun i => by rw [List.length_nil, Nat.pow_zero, Nat.mul_one]; exact h5 i⟩
 | q :: ps, os, u, B, n, hq, h1, h2, h3, h4, h5, h6 => by
  obtain ⟨hz, hd⟩ := hq q List.mem_cons_self
  rw [List.length_cons, Nat.pow_succ] at h6
  have hpos : 1 ≤ 6 ^ ps.length := Nat.one_le_pow _ _ (by omega)
  have hBn : B * nm q.2 ≤ B * 5 := Nat.mul_le_mul_left B hd
  have hle : B * 6 ≤ B * 6 * 6 ^ ps.length := Nat.le_mul_of_pos_right _ (by omega)
  have heq : B * (6 ^ ps.length * 6) = B * 6 * 6 ^ ps.length := by rw [Nat.mul_comm (6 ^ ps.length) 6, ← Nat.mul_assoc]
  rw [heq] at h6
  obtain ⟨zs, e, l, hr⟩ := stpR_V hz (B := B) (by omega) os (0, 0) u (by rw [h3 (-1) (by omega)]; exact GV_zero) h1 h5 (by rw [h2]; exact h3 _ (by omega))
  obtain ⟨out, e2, l2, r2, o2, t2, n2⟩ := ofR_V ps zs (mlin q.2 u) (B * 6) (n + 1) (fun x hx => hq x (List.mem_cons_of_mem _ hx)) hr (by omega) (mlin_off h3) (by
    show gs (u ((n + 1 : Nat) - 1 : Int)) (gm (u (n + 1 : Nat)) q.2) = _
    rw [show (((n + 1 : Nat) : Int) - 1) = n by omega, h4, h3 _ (by omega), gm_zero, gs_zero]) (fun i => by have := mlin_nm (d := q.2) h5 i; omega) h6
  have hl : n + (q :: ps).length = n + 1 + ps.length := by rw [List.length_cons]; omega
  refine ⟨out, ?_, ?_, r2, ?_, ?_, fun i => ?_⟩
  ·show (stpR q.1 (0, 0) os).bind (fun os' => ofR (ps.map (·.1)) os') = _
   rw [e]
   exact e2
  ·rw [l2, hl]
  ·rw [hl]; exact o2
  ·rw [hl]; exact t2
  ·have := n2 i
   rw [List.length_cons, Nat.pow_succ, heq]
   exact this
def sumF (F : Int → Int × Int) : Nat → Int → Int × Int
 | 0, _ => (0, 0)
 | k + 1, i => ga (F i) (sumF F k (i + 1))
theorem ga_assoc (a b c : Int × Int) : ga (ga a b) c = ga a (ga b c) := by unfold ga; simp [Int.add_assoc]
theorem sumF_add (F : Int → Int × Int) : ∀ (a b : Nat) (i : Int), sumF F (a + b) i = ga (sumF F a i) (sumF F b (i + a))
 | 0, b, i => by rw [Nat.zero_add, show i + ((0 : Nat) : Int) = i by omega]; exact (ga_zero' _).symm
 | a + 1, b, i => by
  rw [show a + 1 + b = (a + b) + 1 by omega]
  show ga (F i) (sumF F (a + b) (i + 1)) = ga (ga (F i) (sumF F a (i + 1))) _
  rw [sumF_add F a b (i + 1), ga_assoc, show i + 1 + (a : Int) = i + ((a + 1 : Nat) : Int) by omega]
theorem sumF_zero (F : Int → Int × Int) : ∀ (k : Nat) (i : Int), (∀ j, i ≤ j → j < i + k → F j = (0, 0)) → sumF F k i = (0, 0)
 | 0, i, _ => rfl
 | k + 1, i, h => by
  show ga (F i) (sumF F k (i + 1)) = _
  rw [h i (by omega) (by omega), sumF_zero F k (i + 1) (fun j h1 h2 => h j (by omega) (by omega))]
  rfl
theorem sumF_congr (F H : Int → Int × Int) : ∀ (k : Nat) (i : Int), (∀ j, i ≤ j → j < i + k → F j = H j) → sumF F k i = sumF H k i
 | 0, i, _ => rfl
 | k + 1, i, h => by
  show ga (F i) (sumF F k (i + 1)) = ga (H i) (sumF H k (i + 1))
  rw [h i (by omega) (by omega), sumF_congr F H k (i + 1) (fun j h1 h2 => h j (by omega) (by omega))]
def conv (u v : Int → Int × Int) (n : Nat) : Int → Int × Int := fun j => sumF (fun i => gm (u i) (v (j - i))) n 0
theorem mulS_V {xs ys : Cs} {u v : Int → Int × Int} (hx : RF xs u) (hy : RF ys v) {C : Nat} (n : Int) (hC : ∀ i j, nm (u i) * nm (v j) ≤ C) : ∀ (k : Nat) (i : Int) (s : Nat × Nat) (a : Int × Int), GV s a → 0 ≤ i → i + k ≤ xs.length → n - i < ys.length → i + k ≤ n + 1 → nm a + (k + 1) * C < 2 ^ 53 → ∃ r, mulS xs ys n k i s = some r ∧ GV r (ga a (sumF (fun j => gm (u j) (v (n - j))) k i))
 | 0, i, s, a, hs, _, _, _, _, _ => ⟨s, rfl, by show GV s (ga a (0, 0)); rw [ga_zero]; exact hs⟩
 | k + 1, i, s, a, hs, h0, h1, h2, h3, h4 => by
  have hc := hC i (n - i)
  have e4 : (k + 1 + 1) * C = (k + 1) * C + C := by rw [Nat.succ_mul]
  have e5 : (k + 1) * C = k * C + C := by rw [Nat.succ_mul]
  obtain ⟨r, e, hr⟩ := sumE_V hs (hx i h0 (by omega)) (hy (n - i) (by omega) h2) (by omega)
  have hn := nm_ga a (gm (u i) (v (n - i)))
  have hm := nm_gm (u i) (v (n - i))
  obtain ⟨t, e2, ht⟩ := mulS_V hx hy n hC k (i + 1) r _ hr (by omega) (by omega) (by omega) (by omega) (by omega)
  refine ⟨t, ?_, ?_⟩
  ·unfold mulS
   rw [show sumE s (at_ xs i) (at_ ys (n - i)) = some r from e]
   exact e2
  ·rw [ga_assoc] at ht
   exact ht
end Go.Proofs.Ytdjkcpmoigemdaa
namespace Go.Proofs.Ytdjkcpmoigemdaa
open Go Ieee Go.RowKit Go.Proofs.Ytdjkcpmoigemdaa.Fl Go.Proofs.Ytdjkcpmoigemdaa.Fx Go.Proofs.Ytdjkcpmoigemdaa.P Go.Proofs.YtdjkcpmoigemdaaW.PrintWords Go.Proofs.YtdjkcpmoigemdaaW.PrintLast Go.Proofs.YtdjkcpmoigemdaaW.PrintMore
set_option linter.unusedVariables false
set_option linter.unusedSimpArgs false
theorem gm_swap (a b d : Int × Int) : gm (gm a d) b = gm (gm a b) d := by
 unfold gm
 refine Prod.ext ?_ ?_
 ·show (a.1 * d.1 - a.2 * d.2) * b.1 - (a.1 * d.2 + a.2 * d.1) * b.2 = (a.1 * b.1 - a.2 * b.2) * d.1 - (a.1 * b.2 + a.2 * b.1) * d.2
  grind
 ·show (a.1 * d.1 - a.2 * d.2) * b.2 + (a.1 * d.2 + a.2 * d.1) * b.1 = (a.1 * b.1 - a.2 * b.2) * d.2 + (a.1 * b.2 + a.2 * b.1) * d.1
  grind
theorem gm_gs (a b d : Int × Int) : gm (gs a b) d = gs (gm a d) (gm b d) := by
 unfold gm gs
 refine Prod.ext ?_ ?_
 ·show (a.1 - b.1) * d.1 - (a.2 - b.2) * d.2 = (a.1 * d.1 - a.2 * d.2) - (b.1 * d.1 - b.2 * d.2)
  grind
 ·show (a.1 - b.1) * d.2 + (a.2 - b.2) * d.1 = (a.1 * d.2 + a.2 * d.1) - (b.1 * d.2 + b.2 * d.1)
  grind
theorem gm_ga (a b d : Int × Int) : gm (ga a b) d = ga (gm a d) (gm b d) := by
 unfold gm ga
 refine Prod.ext ?_ ?_
 ·show (a.1 + b.1) * d.1 - (a.2 + b.2) * d.2 = (a.1 * d.1 - a.2 * d.2) + (b.1 * d.1 - b.2 * d.2)
  grind
 ·show (a.1 + b.1) * d.2 + (a.2 + b.2) * d.1 = (a.1 * d.2 + a.2 * d.1) + (b.1 * d.2 + b.2 * d.1)
  grind
theorem gm_one (a : Int × Int) : gm a (1, 0) = a := by unfold gm; simp
theorem gs_ga (a b : Int × Int) : gs (ga a b) b = a := by
 unfold gs ga
 refine Prod.ext ?_ ?_ <;> simp
theorem mlin_comm (d e : Int × Int) (u : Int → Int × Int) : mlin d (mlin e u) = mlin e (mlin d u) := by
 funext i
 show gs (gs (u (i - 1 - 1)) (gm (u (i - 1)) e)) (gm (gs (u (i - 1)) (gm (u i) e)) d) = gs (gs (u (i - 1 - 1)) (gm (u (i - 1)) d)) (gm (gs (u (i - 1)) (gm (u i) d)) e)
 rw [gm_gs, gm_gs, gm_swap (u i) e d]
 unfold gs
 refine Prod.ext ?_ ?_
 ·show _ - _ - (_ - _) = _ - _ - (_ - _)
  omega
 ·show _ - _ - (_ - _) = _ - _ - (_ - _)
  omega
theorem rootF_mlin (d : Int × Int) : ∀ (ds : List (Int × Int)) (u : Int → Int × Int), rootF ds (mlin d u) = mlin d (rootF ds u)
 | [], u => rfl
 | e :: ds, u => by
  show rootF ds (mlin e (mlin d u)) = mlin d (rootF ds (mlin e u))
  rw [mlin_comm, rootF_mlin d ds (mlin e u)]
theorem conv_succ (u v : Int → Int × Int) (k : Nat) (j : Int) : conv u v (k + 1) j = ga (conv u v k j) (gm (u k) (v (j - k))) := by
 show sumF _ (k + 1) 0 = _
 rw [sumF_add _ k 1 0, Int.zero_add]
 show ga _ (ga (gm (u (k : Int)) (v (j - (k : Int)))) (0, 0)) = _
 rw [ga_zero]
 rfl
theorem conv_high {u v : Int → Int × Int} {L : Nat} (hv : Off L v) {k : Nat} {j : Int} (h : (k : Int) - 1 + L ≤ j) : conv u v k j = (0, 0) :=
 sumF_zero _ k 0 (fun i h0 h1 => by
  show gm (u i) (v (j - i)) = _
  rw [hv (j - i) (by omega), gm_zero'])
theorem conv_low {u v : Int → Int × Int} {L : Nat} (hv : Off L v) {k : Nat} {j : Int} (h : j < 0) : conv u v k j = (0, 0) :=
 sumF_zero _ k 0 (fun i h0 h1 => by
  show gm (u i) (v (j - i)) = _
  rw [hv (j - i) (by omega), gm_zero'])
theorem sumF_nm {F : Int → Int × Int} {C : Nat} (h : ∀ j, nm (F j) ≤ C) : ∀ (k : Nat) (i : Int), nm (sumF F k i) ≤ k * C
 | 0, i => by show 0 + 0 ≤ _; omega
 | k + 1, i => by
  have h1 := nm_ga (F i) (sumF F k (i + 1))
  have h2 := h i
  have h3 := sumF_nm h k (i + 1)
  show nm (ga (F i) (sumF F k (i + 1))) ≤ _
  rw [Nat.succ_mul]
  omega
theorem conv_nm {u v : Int → Int × Int} {C : Nat} (hC : ∀ i j, nm (u i) * nm (v j) ≤ C) (k : Nat) (j : Int) : nm (conv u v k j) ≤ k * C :=
 sumF_nm (fun i => Nat.le_trans (nm_gm _ _) (hC i (j - i))) k 0
theorem mulC_V {xs ys : Cs} {u v : Int → Int × Int} (hx : RF xs u) (hy : RF ys v) (hv : Off ys.length v) {C : Nat} (hC : ∀ i j, nm (u i) * nm (v j) ≤ C) (hB : (xs.length + 2) * C < 2 ^ 53) (h1 : 1 ≤ xs.length) (h2 : 1 ≤ ys.length) (n : Int) (h0 : 0 ≤ n) (hn : n < xs.length + ys.length - 1) : ∃ r, mulC xs ys n = some r ∧ GV r (conv u v xs.length n) := by
 obtain ⟨lo, hlo⟩ : ∃ lo, loI ys.length n = lo := ⟨_, rfl⟩
 obtain ⟨hi, hhi⟩ : ∃ hi, hiI xs.length n = hi := ⟨_, rfl⟩
 have elo : (lo = 0 ∧ n - ys.length + 1 ≤ 0) ∨ (lo = n - ys.length + 1 ∧ 0 < lo) := by
  unfold loI maxI at hlo
  split at hlo <;> omega
 have ehi : (hi = n ∧ n ≤ (xs.length : Int) - 1) ∨ (hi = (xs.length : Int) - 1 ∧ (xs.length : Int) - 1 < n) := by
  unfold hiI minI at hhi
  split at hhi <;> omega
 obtain ⟨c, hc⟩ : ∃ c, (hi - lo + 1).toNat = c := ⟨_, rfl⟩
 have ec : (c : Int) = hi - lo + 1 := by omega
 have hcle : (c + 1) * C ≤ (xs.length + 2) * C := Nat.mul_le_mul_right C (by omega)
 obtain ⟨r, e, hr⟩ := mulS_V hx hy n hC c lo (0, 0) (0, 0) GV_zero (by omega) (by omega) (by omega) (by omega) (by show 0 + 0 + _ < _; omega)
 refine ⟨r, ?_, ?_⟩
 ·unfold mulC
  rw [hlo, hhi, hc]
  exact e
 ·rw [ga_zero'] at hr
  have e1 : conv u v xs.length n = sumF (fun j => gm (u j) (v (n - j))) c lo := by
   show sumF (fun j => gm (u j) (v (n - j))) xs.length 0 = _
   rw [show xs.length = lo.toNat + (c + (xs.length - lo.toNat - c)) by omega, sumF_add, sumF_add,
    sumF_zero _ lo.toNat 0 (fun j a b => by show gm (u j) (v (n - j)) = _; rw [hv (n - j) (by omega), gm_zero']), ga_zero',
    sumF_zero _ (xs.length - lo.toNat - c) _ (fun j a b => by show gm (u j) (v (n - j)) = _; rw [hv (n - j) (by omega), gm_zero']), ga_zero]
   congr 1
   omega
  rw [e1]
  exact hr
theorem mulG_V {xs ys : Cs} {u v : Int → Int × Int} (hx : RF xs u) (hy : RF ys v) (hv : Off ys.length v) {C : Nat} (hC : ∀ i j, nm (u i) * nm (v j) ≤ C) (hB : (xs.length + 2) * C < 2 ^ 53) (h1 : 1 ≤ xs.length) (h2 : 1 ≤ ys.length) : ∀ (k : Nat) (n : Int), 0 ≤ n → n + k ≤ xs.length + ys.length - 1 → ∃ zs, mulG xs ys k n = some zs ∧ zs.length = k ∧ RF zs (fun i => conv u v xs.length (n + i))
 | 0, n, _, _ => ⟨[], rfl, rfl, fun i a b => by simp at b; omega⟩
 | k + 1, n, h3, h4 => by
  obtain ⟨r, e, hr⟩ := mulC_V hx hy hv hC hB h1 h2 n h3 (by omega)
  obtain ⟨zs, e2, l2, r2⟩ := mulG_V hx hy hv hC hB h1 h2 k (n + 1) (by omega) (by omega)
  refine ⟨r :: zs, ?_, by rw [List.length_cons, l2], RF.cons ?_ ?_⟩
  ·unfold mulG
   rw [e]
   show (mulG xs ys k (n + 1)).map (r :: ·) = _
   rw [e2]
   rfl
  ·show GV r (conv u v xs.length (n + 0))
   rw [Int.add_zero]
   exact hr
  ·intro i a b
   have := r2 i a b
   show GV _ (conv u v xs.length (n + (i + 1)))
   rw [show n + (i + 1) = n + 1 + i by omega]
   exact this
end Go.Proofs.Ytdjkcpmoigemdaa
namespace Go.Proofs.Ytdjkcpmoigemdaa
open Go Ieee Go.RowKit Go.Proofs.Ytdjkcpmoigemdaa.Fl Go.Proofs.Ytdjkcpmoigemdaa.Fx Go.Proofs.Ytdjkcpmoigemdaa.P Go.Proofs.YtdjkcpmoigemdaaW.PrintWords Go.Proofs.YtdjkcpmoigemdaaW.PrintLast Go.Proofs.YtdjkcpmoigemdaaW.PrintMore
set_option linter.unusedVariables false
set_option linter.unusedSimpArgs false
theorem rdOf_set' (xs : Cs) (n : Nat) (z : Nat × Nat) (j : Int) (h0 : 0 ≤ j) (h1 : j < xs.length) (hn : n < xs.length) : rdOf (0, 0) (xs.set n z) j = if j = n then z else rdOf (0, 0) xs j := by
 show (xs.set n z).getD j.toNat (0, 0) = _
 rw [List.getD_eq_getElem?_getD, List.getElem?_set]
 by_cases e : n = j.toNat
 ·rw [if_pos e, if_pos (by omega), if_pos (by omega)]
  rfl
 ·rw [if_neg e, if_neg (by omega)]
  show xs[j.toNat]?.getD (0, 0) = xs.getD j.toNat (0, 0)
  rw [List.getD_eq_getElem?_getD]
theorem rdOf_take (xs : Cs) (m : Nat) (j : Int) (h0 : 0 ≤ j) (h1 : j < m) : rdOf (0, 0) (xs.take m) j = rdOf (0, 0) xs j := by
 show (xs.take m).getD j.toNat (0, 0) = xs.getD j.toNat (0, 0)
 rw [List.getD_eq_getElem?_getD, List.getD_eq_getElem?_getD, List.getElem?_take_of_lt (by omega)]
theorem rdOf_app (xs : Cs) (z : Nat × Nat) (j : Int) (h0 : 0 ≤ j) (h1 : j < xs.length) : rdOf (0, 0) (xs ++ [z]) j = rdOf (0, 0) xs j := by
 show (xs ++ [z]).getD j.toNat (0, 0) = xs.getD j.toNat (0, 0)
 rw [List.getD_eq_getElem?_getD, List.getD_eq_getElem?_getD, List.getElem?_append_left (by omega)]
theorem subAt_V {q : Cs} {u v : Int → Int × Int} {t : Nat × Nat} {D : Nat} (k d : Nat) (ht : GV t (u k)) (hq : RF q v) (hd : q.length = d + 1) (hD : ∀ m j, nm (conv u v m j) ≤ D ∨ k + 1 < m) (hC : ∀ i j, D + nm (u i) * nm (v j) < 2 ^ 53) : ∀ (m : Nat) (i : Int) (xs : Cs), 0 ≤ i → i + m = d → (k + d : Nat) ≤ xs.length → (∀ j : Int, 0 ≤ j → j < (k + d : Nat) → GV (rdOf (0, 0) xs j) (if j < k + i then conv u v k j else conv u v (k + 1) j)) →
  ∃ ys, subAt t q k m i xs = some ys ∧ ys.length = xs.length ∧ ∀ j : Int, 0 ≤ j → j < (k + d : Nat) → GV (rdOf (0, 0) ys j) (conv u v k j)
 | 0, i, xs, h0, h1, h2, hx => ⟨xs, rfl, rfl, fun j a b => by have := hx j a b; rwa [if_pos (by omega)] at this⟩
 | m + 1, i, xs, h0, h1, h2, hx => by
  have hg := hx (k + i) (by omega) (by omega)
  rw [if_neg (by omega)] at hg
  have hqi := hq i h0 (by omega)
  have hb : nm (conv u v (k + 1) (k + i)) ≤ D := by
   rcases hD (k + 1) (k + i) with h | h
   ·exact h
   ·omega
  have hc := hC k i
  obtain ⟨z, e, hz⟩ := subE_V (c := t) (z := rdOf (0, 0) q i) hg ht hqi (by omega)
  have hz2 : GV z (conv u v k (k + i)) := by
   rw [conv_succ, show (k : Int) + i - k = i by omega, gs_ga] at hz
   exact hz
  have hlt : (k + i).toNat < xs.length := by omega
  obtain ⟨ys, e2, l2, r2⟩ := subAt_V k d ht hq hd hD hC m (i + 1) (xs.set (k + i).toNat z) (by omega) (by omega) (by rw [List.length_set]; exact h2) (fun j a b => by
   rw [rdOf_set' xs _ z j a (by omega) hlt]
   by_cases ej : j = k + i
   ·rw [if_pos (by omega), if_pos (by omega), ej]
    exact hz2
   ·rw [if_neg (by omega)]
    have := hx j a b
    by_cases hj : j < k + i
    ·rw [if_pos hj] at this
     rw [if_pos (by omega)]
     exact this
    ·rw [if_neg hj] at this
     rw [if_neg (by omega)]
     exact this)
  refine ⟨ys, ?_, by rw [l2, List.length_set], r2⟩
  unfold subAt
  rw [show subE (at_ xs (k + i)) t (at_ q i) = some z from e]
  exact e2
theorem divS_V {q : Cs} {u v : Int → Int × Int} {N d D : Nat} (hq : RF q v) (hd : q.length = d + 1) (hv : Off (d + 1) v) (hv1 : v d = (1, 0)) (hone : at_ q d = one_n) (hD : ∀ m j, nm (conv u v m j) ≤ D ∨ N < m) (hC : ∀ i j, D + nm (u i) * nm (v j) < 2 ^ 53) (hU : ∀ i, nm (u i) < 2 ^ 53) : ∀ (k : Nat) (xs quo : Cs), k ≤ N → xs.length = k + d → (∀ j : Int, 0 ≤ j → j < (k + d : Nat) → GV (rdOf (0, 0) xs j) (conv u v k j)) →
  ∃ fs rest, divS q k xs quo = some (fs ++ quo, rest) ∧ fs.length = k ∧ RF fs u ∧ rest.length = d ∧ (∀ j : Int, 0 ≤ j → j < d → GV (rdOf (0, 0) rest j) (0, 0))
 | 0, xs, quo, _, hl, hx => ⟨[], xs, rfl, rfl, fun i a b => by simp at b; omega, by omega, fun j a b => hx j a (by omega)⟩
 | k + 1, xs, quo, hk, hl, hx => by
  have htop := hx (k + d : Nat) (by omega) (by omega)
  have ec : conv u v (k + 1) (k + d : Nat) = u k := by
   rw [conv_succ, conv_high hv (by omega), ga_zero', show ((k + d : Nat) : Int) - k = d by omega, hv1, gm_one]
  rw [ec] at htop
  obtain ⟨r, i, e, hr, hi⟩ := quoO_V htop (hU k)
  have ht : topQ xs q = some (r, i) := by
   unfold topQ
   rw [show (q.length : Int) - 1 = d by omega, hone, show (xs.length : Int) - 1 = (k + d : Nat) by omega]
   exact stp_V e hr.2.1 hi.2.1
  obtain ⟨ys, e2, l2, r2⟩ := subAt_V (t := (r, i)) k d ⟨hr, hi⟩ hq hd (fun m j => by rcases hD m j with h | h; exact .inl h; exact .inr (by omega)) hC d 0 xs (by omega) (by omega) (by omega) (fun j a b => by
   have := hx j a (by omega)
   by_cases hj : j < k + 0
   ·rw [if_pos hj]
    have e3 : conv u v (k + 1) j = conv u v k j := by
     rw [conv_succ, hv (j - k) (by omega), gm_zero', ga_zero]
    rw [e3] at this
    exact this
   ·rw [if_neg hj]
    exact this)
  have hyl : ys.length - 1 = k + d := by omega
  obtain ⟨fs, rest, e4, l4, r4, l5, r5⟩ := divS_V hq hd hv hv1 hone hD hC hU k (ys.take (ys.length - 1)) ((r, i) :: quo) (by omega) (by rw [List.length_take]; omega) (fun j a b => by
   rw [rdOf_take ys _ j a (by omega)]
   exact r2 j a b)
  refine ⟨fs ++ [(r, i)], rest, ?_, by rw [List.length_append, l4]; rfl, ?_, l5, r5⟩
  ·unfold divS
   rw [ht]
   show (subAt (r, i) q ((xs.length : Int) - q.length) (q.length - 1) 0 xs).bind _ = _
   rw [show (xs.length : Int) - q.length = k by omega, show q.length - 1 = d by omega, e2]
   show divS q k (ys.take (ys.length - 1)) ((r, i) :: quo) = _
   rw [e4, List.append_assoc]
   rfl
  ·intro j a b
   rw [List.length_append, l4] at b
   by_cases hj : j < k
   ·rw [rdOf_app fs _ j a (by omega)]
    exact r4 j a (by omega)
   ·have ej : j = fs.length := by simp at b; omega
    have e6 := rdOf_mid (0, 0) fs (r, i) []
    rw [ej, e6, show (fs.length : Int) = k by omega]
    exact ⟨hr, hi⟩
theorem zero_GV {z : Nat × Nat} (h : GV z (0, 0)) : zero_ z = true := by
 unfold zero_ isZ
 rw [V_eq h.1 V_zero, V_eq h.2 V_zero]
 rfl
theorem one_GV {z : Nat × Nat} (h : GV z (1, 0)) : zero_ z = false := by
 unfold zero_ isZ
 rw [V_ne h.1 (by decide)]
 rfl
theorem trim_zeros {xs : Cs} (h : ∀ j : Int, 0 ≤ j → j < xs.length → GV (rdOf (0, 0) xs j) (0, 0)) : trimL xs = [] := by
 have key : ∀ n : Nat, n ≤ xs.length → trimN xs n = 0 := by
  intro n
  induction n with
  | zero => intro _; rfl
  | succ n ih =>
   intro hn
   unfold trimN
   rw [show zero_ (at_ xs n) = true from zero_GV (h n (by omega) (by omega)), if_pos rfl]
   exact ih (by omega)
 unfold trimL
 rw [key _ (Nat.le_refl _)]
 rfl
theorem RF.fin {xs : Cs} {u : Int → Int × Int} (h : RF xs u) : finL xs = true := by
 unfold finL
 rw [List.all_eq_true]
 intro p hp
 obtain ⟨n, hn, e⟩ := List.getElem_of_mem hp
 have := h n (by omega) (by omega)
 have e2 : rdOf (0, 0) xs (n : Int) = p := by
  show xs.getD (n : Int).toNat (0, 0) = p
  rw [Int.toNat_natCast, List.getD_eq_getElem?_getD, List.getElem?_eq_getElem hn, e]
  rfl
 rw [e2] at this
 exact this.fin
theorem RF.last {xs : Cs} {u : Int → Int × Int} {n : Nat} (h : RF xs u) (hl : xs.length = n + 1) (hu : u n = (1, 0)) : lastZ xs = false := by
 unfold lastZ
 rw [show (xs.length : Int) - 1 = n by omega]
 have := h n (by omega) (by omega)
 rw [hu] at this
 exact one_GV this
theorem RF.poly {xs : Cs} {u : Int → Int × Int} {n : Nat} (h : RF xs u) (hl : xs.length = n + 1) (hu : u n = (1, 0)) (h1 : 1 ≤ n) (h2 : n ≤ 12) : polyB xs = true := by
 unfold polyB
 rw [h.fin, h.last hl hu, decide_eq_true (by omega), decide_eq_true (by omega)]
 rfl
theorem RF.part {xs : Cs} {u : Int → Int × Int} {n : Nat} (h : RF xs u) (hl : xs.length = n + 1) (hu : u n = (1, 0)) (h2 : n ≤ 12) : partB xs = true := by
 unfold partB
 rw [h.fin, h.last hl hu, decide_eq_true (by omega)]
 simp
theorem defS_V {p : Cs} {W : Int → Int × Int} {z : Nat × Nat} {d : Int × Int} (hz : GV z d) (hp : RF p (mlin d W)) (h0 : W (-1) = (0, 0)) (hD : ∀ i, nm (mlin d W i) + nm (W i) * nm d < 2 ^ 53) : ∀ (i : Nat) (now : Nat × Nat) (out : Cs), (i : Int) < p.length → GV now (W ((i : Int) - 1)) → ∃ q r, defS z p i now out = some (q, r) ∧ GV r (0, 0)
 | 0, now, out, _, hn => ⟨out, now, rfl, by rw [show ((0 : Nat) : Int) - 1 = -1 from rfl, h0] at hn; exact hn⟩
 | i + 1, now, out, hl, hn => by
  rw [show ((i + 1 : Nat) : Int) - 1 = i by omega] at hn
  have hpi := hp i (by omega) (by omega)
  obtain ⟨r, e, hr⟩ := hornE_V hpi hn hz (hD i)
  have hr2 : GV r (W ((i : Int) - 1)) := by
   have e2 : ga (gm (W i) d) (mlin d W i) = W ((i : Int) - 1) := by
    show ga (gm (W i) d) (gs (W ((i : Int) - 1)) (gm (W i) d)) = _
    unfold ga gs
    refine Prod.ext ?_ ?_
    ·show _ + (_ - _) = _
     omega
    ·show _ + (_ - _) = _
     omega
   rw [e2] at hr
   exact hr
  obtain ⟨q, r', e3, h3⟩ := defS_V hz hp h0 hD i r (now :: out) (by omega) hr2
  refine ⟨q, r', ?_, h3⟩
  unfold defS
  rw [show hornE now z (at_ p i) = some r from e]
  exact e3
theorem conv_mlin {w v : Int → Int × Int} {n : Nat} (d : Int × Int) (hw : Off n w) (j : Int) : conv (mlin d w) v (n + 1) j = mlin d (conv w v n) j := by
 have key : ∀ (k : Nat) (i : Int), sumF (fun i => gm (mlin d w i) (v (j - i))) k i = gs (sumF (fun i => gm (w (i - 1)) (v (j - i))) k i) (gm (sumF (fun i => gm (w i) (v (j - i))) k i) d) := by
  intro k
  induction k with
  | zero => intro i; show (0, 0) = gs (0, 0) (gm (0, 0) d); rw [gm_zero]; rfl
  | succ k ih =>
   intro i
   show ga (gm (gs (w (i - 1)) (gm (w i) d)) (v (j - i))) (sumF _ k (i + 1)) = gs (ga (gm (w (i - 1)) (v (j - i))) (sumF _ k (i + 1))) (gm (ga (gm (w i) (v (j - i))) (sumF _ k (i + 1))) d)
   rw [ih (i + 1), gm_gs, gm_ga, gm_swap (w i) (v (j - i)) d]
   unfold ga gs
   refine Prod.ext ?_ ?_
   ·show _ - _ + (_ - _) = _ + _ - (_ + _)
    omega
   ·show _ - _ + (_ - _) = _ + _ - (_ + _)
    omega
 have shift : ∀ (k : Nat) (i : Int), sumF (fun i => gm (w (i - 1)) (v (j - i))) k (i + 1) = sumF (fun i => gm (w i) (v (j - 1 - i))) k i := by
  intro k
  induction k with
  | zero => intro i; rfl
  | succ k ih =>
   intro i
   show ga (gm (w (i + 1 - 1)) (v (j - (i + 1)))) (sumF _ k (i + 1 + 1)) = ga (gm (w i) (v (j - 1 - i))) (sumF _ k (i + 1))
   rw [ih (i + 1), show i + 1 - 1 = i by omega, show j - (i + 1) = j - 1 - i by omega]
 show sumF (fun i => gm (mlin d w i) (v (j - i))) (n + 1) 0 = gs (sumF (fun i => gm (w i) (v (j - 1 - i))) n 0) (gm (sumF (fun i => gm (w i) (v (j - i))) n 0) d)
 rw [key]
 congr 1
 ·show ga (gm (w (0 - 1)) (v (j - 0))) (sumF (fun i => gm (w (i - 1)) (v (j - i))) n (0 + 1)) = _
  rw [hw (0 - 1) (by omega), gm_zero, ga_zero', shift n 0]
 ·congr 1
  rw [sumF_add _ n 1 0]
  show ga _ (ga (gm (w (0 + (n : Int))) (v (j - (0 + (n : Int))))) (0, 0)) = _
  rw [hw (0 + n) (by omega), gm_zero, ga_zero, ga_zero]
end Go.Proofs.Ytdjkcpmoigemdaa
namespace Go.Proofs.Ytdjkcpmoigemdaa
open Go Ieee Go.RowKit Go.Proofs.Ytdjkcpmoigemdaa.Fl Go.Proofs.Ytdjkcpmoigemdaa.Fx Go.Proofs.Ytdjkcpmoigemdaa.P Go.Proofs.YtdjkcpmoigemdaaW.PrintWords Go.Proofs.YtdjkcpmoigemdaaW.PrintLast Go.Proofs.YtdjkcpmoigemdaaW.PrintMore
set_option linter.unusedVariables false
set_option linter.unusedSimpArgs false
attribute [local go_sem] run_add run_sub run_mul run_quo run_cadd run_csub run_neg run_cneg conv_f run_store_cx
structure DefAt (X : Option (Cs × (Nat × Nat))) (z : Nat × Nat) (ps : Cs) (w w' : World) (v : Value) (u : Value) (g : Nat) : Prop where
 at_ : ∃ now out, u = .complex .f64 now.1 now.2 ∧ Own w w' v (List.replicate g (0, 0) ++ out) ∧ defS z ps g now out = X ∧ g + out.length + 1 = ps.length
set_option maxRecDepth 100000 in
set_option maxHeartbeats 8000000 in
theorem deflate_calls (A : Option Addr) (c : Nat) (ps : Cs) (z1 z2 : Nat) (w : World) (hr : cxk.C w A ps.length ps) (h1 : 1 ≤ ps.length) (hl : ps.length ≤ 30) : Calls Try.prog 49 #[.slice A ps.length c, .complex .f64 z1 z2] w fun e w' => ResF w (defP ps (z1, z2)) e w' := by
 have HR := Aside0.mk hr; have HL := Aside0.mk (And.intro h1 hl)
 obtain ⟨X, hX⟩ : ∃ X, defP ps (z1, z2) = X := ⟨_, rfl⟩
 rw [hX]
 obtain ⟨N, hN⟩ : ∃ N : Int, (ps.length : Int) = N := ⟨_, rfl⟩
 obtain ⟨n, hn⟩ : ∃ n : Int, N - 1 = n := ⟨_, rfl⟩
 have HN := Aside0.mk (show (ps.length : Int) = N ∧ N - 1 = n ∧ 0 ≤ n ∧ n ≤ 29 by omega)
 have hw : wrap64 (N - 1) = n := by have := HN.out; rw [hn]; exact w64 (by omega) (by omega)
 obtain ⟨ad, rfl, hx⟩ := cx_at hr n (by omega) (by omega)
 obtain ⟨⟨x1, x2⟩, hxx⟩ : ∃ z, rdOf (0, 0) ps n = z := ⟨_, rfl⟩
 rw [hxx] at hx
 have HX := Aside0.mk (show defS (z1, z2) ps n.toNat (x1, x2) [] = X by
  rw [← hX]
  unfold defP
  rw [show n.toNat = ps.length - 1 by omega, show (ps.length : Int) - 1 = n by omega, show at_ ps n = (x1, x2) from hxx])
 have q0 := eq_true HN.out.2.2.1
 have q1 := eq_true (show n < N by omega)
 clear hr h1 hl hX hn hxx
 go_enter Try.func49, Try.ntmps49
 go_wp2_with fail
 try simp only [hw]
 go_wp2_with fail
 refine start_ (n := 8) (S := fun w' => w'.cell? (ad.add n.toNat) = some (.complex .f64 x1 x2)) (ds := []) #[false, false, false, false, false, false, false, false] (by kernel_rfl) rfl rfl (hx) (fun hHeld => ?_)
 have DW := Aside0.mk ((Below.refl w.heap.size w).drew)
 generalize w.drew = W at hHeld DW ⊢
 refine pure_ (i := 0) (N := some 15) (v := ?_) (a' := ?_) #[true, false, false, false, false, false, false, false] rfl rfl (by kernel_rfl) (fun _ _ _ h => h) (Or.inl ⟨by rfl, ?_⟩) ?_ ?_
 rotate_left
 ·intro w'
  go_simp
  with_reducible rfl
 rotate_left
 ·simp only [Act.put, List.setIfInBounds_toArray, List.set_cons_zero, List.set_cons_succ, i64_w, i32_w]
  rfl
 refine pure_ (i := 2) (N := some 17) (v := ?_) (a' := ?_) #[true, false, true, false, false, false, false, false] rfl rfl (by kernel_rfl) (fun _ _ _ h => h) (Or.inl ⟨by rfl, ?_⟩) ?_ ?_
 rotate_left
 ·intro w'
  go_simp
  with_reducible rfl
 rotate_left
 ·simp only [Act.put, List.setIfInBounds_toArray, List.set_cons_zero, List.set_cons_succ, i64_w, i32_w]
  rfl
 refine pure_ (i := 3) (N := some 18) (v := ?_) (a' := ?_) #[true, false, true, true, false, false, false, false] rfl rfl (by kernel_rfl) (fun _ _ _ h => h) (Or.inl ⟨by rfl, ?_⟩) ?_ ?_
 rotate_left
 ·intro w'
  go_simp
  with_reducible rfl
 rotate_left
 ·simp only [Act.put, List.setIfInBounds_toArray, List.set_cons_zero, List.set_cons_succ, i64_w, i32_w]
  rfl
 refine pure_ (i := 4) (N := some 19) (v := ?_) (a' := ?_) #[true, false, true, true, true, false, false, false] rfl rfl (by kernel_rfl) (fun _ _ _ h => h) (Or.inl ⟨by rfl, ?_⟩) ?_ ?_
 rotate_left
 ·intro w'
  go_simp
  with_reducible rfl
 rotate_left
 ·simp only [Act.put, List.setIfInBounds_toArray, List.set_cons_zero, List.set_cons_succ, i64_w, i32_w]
  rfl
 refine take_ (i := 5) (N := some 20) (v := ?_) (a' := ?_) #[true, false, true, true, true, true, false, false] rfl rfl (by kernel_rfl) (fun _ _ _ h => h) (Or.inl ⟨by rfl, ?_⟩) hHeld ?_ ?_
 rotate_left
 ·intro w' s0
  go_simp
  with_reducible rfl
 rotate_left
 ·simp only [Act.put, List.setIfInBounds_toArray, List.set_cons_zero, List.set_cons_succ, i64_w, i32_w]
  rfl
 refine one_ (i := 1) (N := some 16) #[true, true, true, true, true, true, false, false] rfl rfl (by kernel_rfl) (by decide) (fun K hK => ?_)
 refine Kd.R_make_step cxk (w0 := W) w.heap.size 34 (by rfl) rfl 24 (.tmp 15) (.tmp 15) rfl n rfl rfl Try.underlying24 (.complex .f64 0 0) 16 info_cx rfl (by decide) (by omega) (0, 0) (ok := fun _ => True) (okp := fun _ => False) rfl (fun _ _ => trivial) trivial HN.out.2.2.1 (by have := HN.out; omega) (Below.refl _ _) DW.out.size ?_
 intro v1 w4 ho hb hg hat
 have EO := Aside0.mk (Own.mk ho (DW.out.trans hb))
 refine hK.out _ _ (pw_cell_below (DW.out.trans hb) hx) (fun hHeld => ?_)
 clear hK K
 refine norm_ (a' := ?_) ?_ ?_
 rotate_left
 ·show Act.put _ (some 16) _ = _
  simp only [Act.put, List.setIfInBounds_toArray, List.set_cons_zero, List.set_cons_succ, i64_w, i32_w]
  rfl
 refine pure_ (i := 6) (N := some 8) (v := ?_) (a' := ?_) #[true, true, true, true, true, true, true, false] rfl rfl (by kernel_rfl) (fun _ _ _ h => h) (Or.inl ⟨by rfl, ?_⟩) ?_ ?_
 rotate_left
 ·intro w'
  go_simp
  with_reducible rfl
 rotate_left
 ·simp only [Act.put, List.setIfInBounds_toArray, List.set_cons_zero, List.set_cons_succ, i64_w, i32_w]
  rfl
 refine pure_ (i := 7) (N := some 9) (v := ?_) (a' := ?_) #[true, true, true, true, true, true, true, true] rfl rfl (by kernel_rfl) (fun _ _ _ h => h) (Or.inl ⟨by rfl, ?_⟩) ?_ ?_
 rotate_left
 ·intro w'
  go_simp
  with_reducible rfl
 rotate_left
 ·simp only [Act.put, List.setIfInBounds_toArray, List.set_cons_zero, List.set_cons_succ, i64_w, i32_w]
  rfl
 refine done_ (by kernel_rfl) ?_
 have EO2 := Aside0.mk EO.out
 obtain ⟨A1, c1, rfl, -, -⟩ := EO2.out.reads
 have hlr : (List.replicate n.toNat ((0, 0) : Nat × Nat)).length = n.toNat := List.length_replicate
 rw [hlr] at EO2 ⊢
 clear EO ho hb hg hat hlr hx q0 q1
 go_wp2_with fail
 go_loopg [9, 10] n.toNat (fun g u v w' => ∃ (i : Int), v = .int .i64 i ∧ Aside0 (i + 1 = g ∧ DefAt X (z1, z2) ps w w' (.slice A1 n.toNat c1) u g))
 case atStart => exact ⟨n - 1, by first | rfl | rw [w64 (by have := HN.out; omega) (by have := HN.out; omega)], ⟨by have := HN.out; omega, ⟨(x1, x2), [], rfl, by rw [List.append_nil]; exact EO2.out, HX.out, by have := HN.out; simp; omega⟩⟩⟩
 case round =>
  clear EO2
  obtain ⟨i, rfl, hj⟩ := hrel
  obtain ⟨hi, hj2⟩ := hj.out
  obtain ⟨⟨a, b⟩, out, rfl, ho, hd, hlen⟩ := hj2.at_
  clear hj hj2
  cases gk with
  | succ m =>
   have HJ := Aside0.mk (show 0 ≤ i ∧ i = (m : Int) ∧ i < N ∧ i < n ∧ n ≤ 29 by have := HN.out; omega)
   have hl' : decide (i ≥ 0) = true := decide_eq_true HJ.out.1
   obtain ⟨gb, cap, e0, -, -, -⟩ := Kd.R_form ho.row (by rw [List.length_append, List.length_replicate]; omega)
   injection e0 with e1 e2 e3
   subst e1
   clear e2 e3
   obtain ⟨hy, hfz⟩ := Kd.R_celln (enc := cxv) (h1 := fun _ => rfl) (0, 0) ho.row i HJ.out.1 (by have := HJ.out; omega)
   have hp := ho.put i (a, b)
   rw [show (List.replicate (m + 1) ((0, 0) : Nat × Nat) ++ out).set i.toNat (a, b) = List.replicate m (0, 0) ++ ((a, b) :: out) by rw [show i.toNat = m by have := HJ.out; omega]; exact replicate_set m out (a, b)] at hp
   have EO := Aside0.mk hp
   obtain ⟨ad', ea, hx⟩ := cx_at (Kd.C_below HR.out hp.low) i HJ.out.1 (by have := HJ.out; have := HN.out; omega)
   cases ea
   obtain ⟨⟨p1, p2⟩, hpp⟩ : ∃ z, rdOf (0, 0) ps i = z := ⟨_, rfl⟩
   rw [hpp] at hx
   have HD := Aside0.mk (show ((hornE (a, b) (z1, z2) (p1, p2)).bind fun r => defS (z1, z2) ps m r ((a, b) :: out)) = X by
    have h := hd
    unfold defS at h
    rw [show at_ ps (m : Int) = (p1, p2) by rw [← HJ.out.2.1]; exact hpp] at h
    exact h)
   obtain ⟨n0, hn0⟩ : ∃ n0 : Nat, n.toNat = n0 := ⟨_, rfl⟩
   have HN0 := Aside0.mk (show (n0 : Int) = n by have := HN.out; omega)
   have hn1 : (n0 : Int) = n := HN0.out
   have q0 := eq_true HJ.out.1
   have q1 := eq_true (show i < n from HJ.out.2.2.2.1)
   have q2 := eq_true HJ.out.2.2.1
   have HLE := Aside0.mk hlen
   clear hp hd hpp ho hi hlen
   rw [hn0] at EO ⊢
   simp only [cxv] at hy
   go_wp2_with fail
   refine (multiply_calls a b z1 z2 _).mono ?_
   rintro e w2 ⟨⟨v2, rfl, pr, pi, rfl, hr, hi2⟩, n3, rfl⟩
   go_wp2_with fail
   refine (add_calls pr pi p1 p2 _).mono ?_
   rintro e w2 ⟨⟨v2, rfl, r, ri, rfl, kr, ki⟩, n4, rfl⟩
   have HF := Aside0.mk (show (isFin r && isFin ri) = true → (isFin pr && isFin pi) = true from fun h => by
    rw [Bool.and_eq_true] at h ⊢
    exact ⟨fop_fin (kr.trans (fop_add_comm _ _)) h.1, fop_fin (ki.trans (fop_add_comm _ _)) h.2⟩)
   have HST := Aside0.mk (show hornE (a, b) (z1, z2) (p1, p2) = if isFin r && isFin ri then some (r, ri) else none from hornE_of (by rw [kr]; show fop .add (can pr) (can p1) = _; rw [hr]) (by rw [ki]; show fop .add (can pi) (can p2) = _; rw [hi2]))
   clear hr hi2 kr ki hx hy hfz
   go_wp2_with fail
   refine (isFinite_calls pr pi _).mono ?_
   rintro e w4 ⟨rfl, n6, rfl⟩
   cases hg' : (isFin r && isFin ri)
   ·have HXN := Aside0.mk (show X = none by have h := HD.out; rw [HST.out, hg'] at h; exact h.symm)
    cases hgp : (isFin pr && isFin pi)
    ·go_wp2
     go_ret3
     rw [HXN.out]
     exact ResF.none_ (by repeat (first | exact EO.out.low | refine pw_below_drewN ?_ _))
    ·go_wp2_with fail
     refine (isFinite_calls r ri _).mono ?_
     rintro e w5 ⟨rfl, n7, rfl⟩
     rw [hg']
     go_wp2
     go_ret3
     rw [HXN.out]
     exact ResF.none_ (by repeat (first | exact EO.out.low | refine pw_below_drewN ?_ _))
   ·have HD2 := Aside0.mk (show defS (z1, z2) ps m (r, ri) ((a, b) :: out) = X by have h := HD.out; rw [HST.out, hg', if_pos rfl] at h; exact h)
    rw [HF.out hg']
    go_wp2_with fail
    refine (isFinite_calls r ri _).mono ?_
    rintro e w5 ⟨rfl, n7, rfl⟩
    rw [hg']
    go_wp2_with fail
    rw [← hn0] at EO ⊢
    go_roundg m
    case measure => omega
    case rel =>
     have e : wrap64 (i - 1) = i - 1 := by have := HJ.out; exact w64 (by omega) (by omega)
     exact ⟨i - 1, by first | rfl | rw [e], ⟨by have := HJ.out; omega, ⟨(r, ri), (a, b) :: out, rfl, by repeat (first | exact EO.out | refine Own.drewN ?_ _), HD2.out, by have := HLE.out; rw [List.length_cons]; omega⟩⟩⟩
  | zero =>
   have hl' : decide (i ≥ 0) = false := decide_eq_false (by omega)
   have HXE := Aside0.mk (show X = some (out, (a, b)) from hd.symm)
   have ho' : Own w wr (.slice A1 n.toNat c1) out := ho
   obtain ⟨A2, c2, e2, k2, k3⟩ := ho'.reads
   have HK := Aside0.mk (And.intro e2 (And.intro k2 (And.intro k3 ho'.low)))
   clear hd ho ho' e2 k2 k3 hi hlen
   go_wp2
   go_ret3
   rw [HXE.out]
   exact ⟨A2, c2, by rw [← HK.out.1]; rfl, HK.out.2.2.1, HK.out.2.1, HK.out.2.2.2⟩
end Go.Proofs.Ytdjkcpmoigemdaa
namespace Go.Proofs.Ytdjkcpmoigemdaa
open Go Ieee Go.RowKit Go.Proofs.Ytdjkcpmoigemdaa.Fl Go.Proofs.Ytdjkcpmoigemdaa.Fx Go.Proofs.Ytdjkcpmoigemdaa.P Go.Proofs.YtdjkcpmoigemdaaW.PrintWords Go.Proofs.YtdjkcpmoigemdaaW.PrintLast Go.Proofs.YtdjkcpmoigemdaaW.PrintMore
set_option linter.unusedVariables false
set_option linter.unusedSimpArgs false
attribute [local go_sem] run_add run_sub run_mul run_quo run_cadd run_csub run_neg run_cneg conv_f run_store_cx
structure DefSt (X : Option (Cs × (Nat × Nat))) (z : Nat × Nat) (ps : Cs) (w w' : World) (v : Value) (u : Value) (g : Nat) : Prop where
 at_ : ∃ now out, u = .complex .f64 now.1 now.2 ∧ Own w w' v out ∧ defS z ps g now out = X ∧ g + out.length + 1 = ps.length
def ResG (w : World) (o : Option (Cs × (Nat × Nat))) : Ending → World → Prop := fun e w' => match o with
 | none => e = .returned (.tuple #[.slice none 0 0, .complex .f64 0 0, .bool false]) ∧ Below w.heap.size w w'
 | some p => ∃ (A : Option Addr) (c : Nat), e = .returned (.tuple #[.slice A p.1.length c, .complex .f64 p.2.1 p.2.2, .bool true]) ∧ cxk.C w' A p.1.length p.1 ∧ p.1.length ≤ c ∧ Below w.heap.size w w'
theorem ResG.none_ {w w' : World} (h : Below w.heap.size w w') : ResG w none (.returned (.tuple #[.slice none 0 0, .complex .f64 0 0, .bool false])) w' := ⟨rfl, h⟩
set_option maxRecDepth 100000 in
set_option maxHeartbeats 8000000 in
theorem l04Deflate_calls (A : Option Addr) (c : Nat) (ps : Cs) (z1 z2 : Nat) (w : World) (hr : cxk.C w A ps.length ps) (h1 : 1 ≤ ps.length) (hl : ps.length ≤ 30) : Calls Try.prog 51 #[.slice A ps.length c, .complex .f64 z1 z2] w fun e w' => ResG w (defP ps (z1, z2)) e w' := by
 have HR := Aside0.mk hr; have HL := Aside0.mk (And.intro h1 hl)
 obtain ⟨X, hX⟩ : ∃ X, defP ps (z1, z2) = X := ⟨_, rfl⟩
 rw [hX]
 obtain ⟨N, hN⟩ : ∃ N : Int, (ps.length : Int) = N := ⟨_, rfl⟩
 have HN := Aside0.mk (show (ps.length : Int) = N ∧ 1 ≤ N ∧ N ≤ 30 by omega)
 obtain ⟨ad, rfl, hx⟩ := cx_last hr hN (by omega) (by omega)
 obtain ⟨⟨x1, x2⟩, hxx⟩ : ∃ z, at_ ps ((ps.length : Int) - 1) = z := ⟨_, rfl⟩
 rw [hxx] at hx
 have HX := Aside0.mk (show defS (z1, z2) ps (ps.length - 1) (x1, x2) [] = X by
  rw [← hX]
  unfold defP
  rw [hxx])
 have hw : wrap64 (N - 1) = N - 1 := by have := HN.out; exact w64 (by omega) (by omega)
 have hw2 : wrap64 (N - 2) = N - 2 := by have := HN.out; exact w64 (by omega) (by omega)
 have hx' := Kd.C_alloc hr (.cells #[] 34)
 have p0 : 0 < N := by omega
 have p1 : N ≤ 30 := by omega
 have q0 := eq_true (show 1 ≤ N by omega)
 have q1 := eq_true (show N - 1 < N by omega)
 have hx2 : (w.alloc (.cells #[] 34)).cell? (ad.add (N.toNat - 1)) = some (.complex .f64 x1 x2) := pw_cell_below (below_alloc (Below.refl _ _) _) hx
 have HO := Aside0.mk (Own.empty (Below.refl w.heap.size w))
 clear hr h1 hl hX hxx hx'
 go_enter Try.func51, Try.ntmps51
 go_wp2_with fail
 try simp only [hw2]
 clear hw hw2 hx hx2 q0 q1
 go_loopg [7, 8, 9] (ps.length - 1) (fun g v u t w' => ∃ (i : Int), t = .int .i64 i ∧ Aside0 (i + 1 = g ∧ DefSt X (z1, z2) ps w w' v u g))
 case atStart => exact ⟨N - 2, rfl, ⟨by have := HN.out; omega, ⟨(x1, x2), [], rfl, HO.out, HX.out, by have := HL.out; simp; omega⟩⟩⟩
 case round =>
  clear HO
  obtain ⟨i, rfl, hj⟩ := hrel
  obtain ⟨hi, hj2⟩ := hj.out
  obtain ⟨⟨a, b⟩, out, rfl, ho, hd, hlen⟩ := hj2.at_
  clear hj hj2
  cases gk with
  | succ m =>
   have HJ := Aside0.mk (show 0 ≤ i ∧ i = (m : Int) ∧ i < N ∧ N ≤ 30 by have := HN.out; omega)
   have hl' : decide (i ≥ 0) = true := decide_eq_true HJ.out.1
   obtain ⟨A2, c2, rfl, -, hC2⟩ := ho.reads
   obtain ⟨⟨q1, q2⟩, hpp⟩ : ∃ z, rdOf (0, 0) ps i = z := ⟨_, rfl⟩
   have HD := Aside0.mk (show ((hornE (a, b) (z1, z2) (q1, q2)).bind fun r => defS (z1, z2) ps m r ((a, b) :: out)) = X by
    have h := hd
    unfold defS at h
    rw [show at_ ps (m : Int) = (q1, q2) by rw [← HJ.out.2.1]; exact hpp] at h
    exact h)
   have HPP := Aside0.mk hpp
   have HLE := Aside0.mk hlen
   have HLO := Aside0.mk ho.low
   have HC2 := Aside0.mk (Kd.C_alloc hC2 (.cells #[.complex .f64 a b] 34))
   have H1 := Aside0.mk (Own.one ho.low (a, b))
   clear hd hpp ho hi hlen hC2
   go_wp2_with (first | ((with_reducible refine gate_builtin (b := .append) (xs := #[.tmp 25, .tmp 26]) rfl ?_); at_builtin; refine Kd.R_append_row cxv (0, 0) (h1 := fun _ => rfl) (w0 := w) w.heap.size rfl (.tmp 25) (.tmp 26) 24 34 (.complex .f64 0 0) 16 rfl Try.underlying24 info_cx rfl (by omega) _ [(a, b)] out A2 out.length c2 (fun _ => True) rfl rfl (fun _ _ => trivial) H1.out.row HC2.out H1.out.low H1.out.low.size (by have := HLE.out; have := HL.out; simp; omega) ?_; intro v1 w4 ho hb hg hat))
   have EO := Aside0.mk (Own.mk ho hb)
   obtain ⟨ad', ea, hx⟩ := cx_at (Kd.C_below HR.out hb) i HJ.out.1 (by have := HJ.out; have := HN.out; omega)
   cases ea
   rw [HPP.out] at hx
   have k0 := eq_true HJ.out.1
   have k1 := eq_true HJ.out.2.2.1
   clear ho hb hg hat HC2 H1
   obtain ⟨w9, hw9⟩ : ∃ w9, w9 = w4 := ⟨_, rfl⟩
   subst hw9
   go_wp2_with fail
   refine start_ (n := 9) (S := fun w' => w'.cell? (ad.add i.toNat) = some (.complex .f64 q1 q2)) (ds := [7, 8]) #[false, false, false, false, false, false, false, false, false] (by kernel_rfl) rfl rfl (hx) (fun hHeld => ?_)
   have DW := Aside0.mk ((Below.refl w9.heap.size w9).drew)
   generalize w9.drew = W at hHeld DW ⊢
   refine pure_ (i := 0) (N := some 28) (v := ?_) (a' := ?_) #[true, false, false, false, false, false, false, false, false] rfl rfl (by kernel_rfl) (fun _ _ _ h => h) (Or.inl ⟨by rfl, ?_⟩) ?_ ?_
   rotate_left
   ·intro w'
    go_simp
    with_reducible rfl
   rotate_left
   ·simp only [Act.put, List.setIfInBounds_toArray, List.set_cons_zero, List.set_cons_succ, i64_w, i32_w]
    rfl
   refine pure_ (i := 1) (N := some 29) (v := ?_) (a' := ?_) #[true, true, false, false, false, false, false, false, false] rfl rfl (by kernel_rfl) (fun _ _ _ h => h) (Or.inl ⟨by rfl, ?_⟩) ?_ ?_
   rotate_left
   ·intro w'
    go_simp
    with_reducible rfl
   rotate_left
   ·simp only [Act.put, List.setIfInBounds_toArray, List.set_cons_zero, List.set_cons_succ, i64_w, i32_w]
    rfl
   refine pure_ (i := 3) (N := some 31) (v := ?_) (a' := ?_) #[true, true, false, true, false, false, false, false, false] rfl rfl (by kernel_rfl) (fun _ _ _ h => h) (Or.inl ⟨by rfl, ?_⟩) ?_ ?_
   rotate_left
   ·intro w'
    go_simp
    with_reducible rfl
   rotate_left
   ·simp only [Act.put, List.setIfInBounds_toArray, List.set_cons_zero, List.set_cons_succ, i64_w, i32_w]
    rfl
   refine pure_ (i := 4) (N := some 32) (v := ?_) (a' := ?_) #[true, true, false, true, true, false, false, false, false] rfl rfl (by kernel_rfl) (fun _ _ _ h => h) (Or.inl ⟨by rfl, ?_⟩) ?_ ?_
   rotate_left
   ·intro w'
    go_simp
    with_reducible rfl
   rotate_left
   ·simp only [Act.put, List.setIfInBounds_toArray, List.set_cons_zero, List.set_cons_succ, i64_w, i32_w]
    rfl
   refine pure_ (i := 5) (N := some 33) (v := ?_) (a' := ?_) #[true, true, false, true, true, true, false, false, false] rfl rfl (by kernel_rfl) (fun _ _ _ h => h) (Or.inl ⟨by rfl, ?_⟩) ?_ ?_
   rotate_left
   ·intro w'
    go_simp
    with_reducible rfl
   rotate_left
   ·simp only [Act.put, List.setIfInBounds_toArray, List.set_cons_zero, List.set_cons_succ, i64_w, i32_w]
    rfl
   refine take_ (i := 6) (N := some 34) (v := ?_) (a' := ?_) #[true, true, false, true, true, true, true, false, false] rfl rfl (by kernel_rfl) (fun _ _ _ h => h) (Or.inl ⟨by rfl, ?_⟩) hHeld ?_ ?_
   rotate_left
   ·intro w' s0
    go_simp
    with_reducible rfl
   rotate_left
   ·simp only [Act.put, List.setIfInBounds_toArray, List.set_cons_zero, List.set_cons_succ, i64_w, i32_w]
    rfl
   refine one_ (i := 2) (N := some 30) #[true, true, true, true, true, true, true, false, false] rfl rfl (by kernel_rfl) (by decide) (fun K hK => ?_)
   refine goes_ Try.func64 (by kernel_rfl) rfl #[.complex .f64 a b, .complex .f64 z1 z2] (by rfl) rfl rfl (by simp only [List.map_toArray, List.map_cons, List.map_nil]; rfl) ?_
   with_reducible refine (l01Times_calls a b z1 z2 _).mono ?_
   rintro e w2 ⟨⟨v2, rfl, pr, pi, rfl, hr, hi⟩, n3, rfl⟩
   refine ⟨_, rfl, ?_⟩
   refine hK.out _ _ (pw_cell_below DW.out hx) (fun hHeld => ?_)
   clear hK K
   refine norm_ (a' := ?_) ?_ ?_
   rotate_left
   ·show Act.put _ (some 30) _ = _
    simp only [Act.put, List.setIfInBounds_toArray, List.set_cons_zero, List.set_cons_succ, i64_w, i32_w]
    rfl
   refine last_ (i := 7) (N := some 35) #[true, true, true, true, true, true, true, true, false] rfl rfl (by kernel_rfl) (by decide) (fun K hK => ?_)
   refine value_ (w1 := ?_) (v := ?_) (by rfl) rfl ?_ ?_
   rotate_left 2
   ·go_simp
    constructor
    ·rfl
    ·rfl
   refine hK.out _ _ ?_
   clear hK K
   refine norm_ (a' := ?_) ?_ ?_
   rotate_left
   ·show Act.put _ (some 35) _ = _
    simp only [Act.put, List.setIfInBounds_toArray, List.set_cons_zero, List.set_cons_succ, i64_w, i32_w]
    rfl
   refine last_ (i := 8) (N := some 8) #[true, true, true, true, true, true, true, true, true] rfl rfl (by kernel_rfl) (by decide) (fun K hK => ?_)
   refine value_ (w1 := ?_) (v := ?_) (by rfl) rfl ?_ ?_
   rotate_left 2
   ·go_simp
    constructor
    ·rfl
    ·rfl
   refine hK.out _ _ ?_
   clear hK K
   refine norm_ (a' := ?_) ?_ ?_
   rotate_left
   ·show Act.put _ (some 8) _ = _
    simp only [Act.put, List.setIfInBounds_toArray, List.set_cons_zero, List.set_cons_succ, i64_w, i32_w]
    rfl
   refine done_ (by kernel_rfl) ?_
   obtain ⟨r, hs⟩ : ∃ s, fr .add pr q1 (W.drewN n3) = s := ⟨_, rfl⟩
   obtain ⟨ri, hsi⟩ : ∃ s, fr .add pi q2 (W.drewN (n3 + fn .add pr q1)) = s := ⟨_, rfl⟩
   rw [hs, hsi]
   have HST := Aside0.mk (show hornE (a, b) (z1, z2) (q1, q2) = if isFin r && isFin ri then some (r, ri) else none from hornE_of (by rw [← hs, can_fr, hr]) (by rw [← hsi, can_fr, hi]))
   have EW := Aside0.mk (EO.out.below DW.out)
   clear hr hi hs hsi hx k0 k1
   go_wp2_with fail
   refine (l01Finite_calls r ri _).mono ?_
   rintro e w5 ⟨rfl, n7, rfl⟩
   cases hg' : (isFin r && isFin ri)
   ·have HXN := Aside0.mk (show X = none by have h := HD.out; rw [HST.out, hg'] at h; exact h.symm)
    go_wp2
    go_ret3
    rw [HXN.out]
    exact ResG.none_ (by repeat (first | exact EW.out.low | refine pw_below_drewN ?_ _))
   ·have HD2 := Aside0.mk (show defS (z1, z2) ps m (r, ri) ((a, b) :: out) = X by have h := HD.out; rw [HST.out, hg', if_pos rfl] at h; exact h)
    go_wp2_with fail
    go_roundg m
    case measure => omega
    case rel =>
     have e : wrap64 (i - 1) = i - 1 := by have := HJ.out; exact w64 (by omega) (by omega)
     exact ⟨i - 1, by first | rfl | rw [e], ⟨by have := HJ.out; omega, ⟨(r, ri), (a, b) :: out, rfl, by repeat (first | exact EW.out | refine Own.drewN ?_ _), HD2.out, by have := HLE.out; rw [List.length_cons]; omega⟩⟩⟩
  | zero =>
   have hl' : decide (i ≥ 0) = false := decide_eq_false (by omega)
   have HXE := Aside0.mk (show X = some (out, (a, b)) from hd.symm)
   obtain ⟨A2, c2, rfl, k2, k3⟩ := ho.reads
   have HK := Aside0.mk (And.intro k2 (And.intro k3 ho.low))
   clear hd ho k2 k3 hi hlen
   go_wp2
   go_ret3
   rw [HXE.out]
   exact ⟨A2, c2, rfl, HK.out.2.1, HK.out.1, HK.out.2.2⟩
end Go.Proofs.Ytdjkcpmoigemdaa
