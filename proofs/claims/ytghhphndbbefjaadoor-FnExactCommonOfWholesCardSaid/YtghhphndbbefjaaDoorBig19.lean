/- The walk of GCD (Euclid's way, with a short end). Conditions: the pointers lead to bigInts of at least 0 and at most 1000 digits. -/
import Derived.Test.YtghhphndbbefjaaDoorBigF
import Derived.Test.YtghhphndbbefjaaDoorBigC
namespace Go.Proofs.YtghhphndbbefjaaDoor.Big
open Go.RowKit Go.Proofs.YtghhphndbbefjaaDoorW.PrintWords Go.Proofs.YtghhphndbbefjaaDoorW.PrintLast Go.Proofs.YtghhphndbbefjaaDoorW.PrintMore Go.Proofs.YtghhphndbbefjaaDoor.Math
set_option linter.unusedVariables false
set_option linter.unusedSimpArgs false

/-- The head of a round of Euclid's. -/
structure GcdAt (w wr : World) (p q a b m G : Nat) : Prop where
  lo : Below w.heap.size w wr
  bp : Big wr p (a : Int) m
  bq : Big wr q (b : Int) m
  ph : w.heap.size ≤ p
  qh : w.heap.size ≤ q
  g : Nat.gcd a b = G
theorem GcdAt.below {w wr w1 : World} {p q a b m G : Nat} (h : GcdAt w wr p q a b m G) (hb : Below wr.heap.size wr w1) : GcdAt w w1 p q a b m G :=
  ⟨h.lo.trans (hb.mono h.lo.size), h.bp.below hb, h.bq.below hb, h.ph, h.qh, h.g⟩
theorem nonneg_opd {w : World} {p m : Nat} {a : Nat} (h : Big w p (a : Int) m) (hm : m ≤ 1000000) : ∃ xs A c, Opd w p false xs A c ∧ val xs = (a : Int) ∧ xs.length ≤ m := by
  obtain ⟨nx, xs, A, c, ho, e, hl⟩ := h.opd hm
  cases nx
  · exact ⟨xs, A, c, ho, e.symm, hl⟩
  · exfalso
    have h1 := val_nonneg ho.ok
    have h2 : bval true xs = -val xs := rfl
    have h3 := (val_eq_zero ho.ok ho.ti).1 (by omega)
    exact ho.ne rfl h3
theorem short_int {xs : List Int} {a : Nat} (h : val xs = (a : Int)) (ok : Okd xs) (hl : xs.length ≤ 2) : wrap64 (bval false (xs.take 2)) = wrap64 (a : Int) ∧ a < 18446744073709551616 := by
  rw [List.take_of_length_le hl]
  refine ⟨by rw [show bval false xs = val xs from rfl, h], ?_⟩
  have h1 := val_lt ok
  have h2 := pow_mono hl
  have e : (4294967296 : Int) ^ 2 = 18446744073709551616 := by decide
  omega
theorem u64_back {a : Nat} (h : a < 18446744073709551616) : IntKind.u64.wrap (wrap64 (a : Int)) = (a : Int) := by
  rw [wrapU]
  unfold wrap64
  omega
theorem gcd_swap (a b : Nat) : Nat.gcd b (a % b) = Nat.gcd a b := by
  rw [Nat.gcd_comm b, ← Nat.gcd_rec, Nat.gcd_comm]
set_option maxRecDepth 100000 in
set_option maxHeartbeats 4000000 in
theorem gcd_calls (z x y a b m : Nat) (w : World) (hz : IsBig w z) (hx : Big w x (a : Int) m) (hy : Big w y (b : Int) m) (hm : m ≤ 1000) :
    Calls Tryd.prog 61 #[.pointer (some ⟨z, 0, none⟩), .pointer (some ⟨x, 0, none⟩), .pointer (some ⟨y, 0, none⟩)] w fun e w' => e = .returned (.pointer (some ⟨z, 0, none⟩)) ∧ Big w' z (Nat.gcd a b : Int) (m + 2) ∧ w.grownBy w' (some z) := by
  have HZ := Aside0.mk hz
  have HX := Aside0.mk hx
  have HY := Aside0.mk hy
  clear hz hx hy
  go_enter Tryd.func61, Tryd.ntmps61
  go_wp2_with fail
  refine (set_calls w.heap.size x a m _ (is_new w) (HX.out.below (below_alloc (Below.refl _ _) _)) (by omega)).mono ?_
  rintro e w1 ⟨rfl, hb1, hg1⟩
  have L1 := Aside0.mk (below_of_grown (below_alloc (Below.refl w.heap.size w) (.cells #[.bool false, .slice none 0 0] 73)) hg1 (Nat.le_refl _))
  have B1 := Aside0.mk hb1
  clear hb1 hg1
  go_wp2_with fail
  refine (set_calls w1.heap.size y b m _ (is_new w1) ((HY.out.below L1.out).below (below_alloc (Below.refl _ _) _)) (by omega)).mono ?_
  rintro e w2 ⟨rfl, hb2, hg2⟩
  have hl2 := below_of_grown (below_alloc (Below.refl w1.heap.size w1) (.cells #[.bool false, .slice none 0 0] 73)) hg2 (Nat.le_refl _)
  have G0 := Aside0.mk (show GcdAt w w2 w.heap.size w1.heap.size a b m (Nat.gcd a b) from ⟨L1.out.trans (hl2.mono L1.out.size), B1.out.below hl2, hb2, Nat.le_refl _, L1.out.size, rfl⟩)
  clear hb2 hg2 hl2
  generalize w1.heap.size = q0 at G0 ⊢
  generalize w.heap.size = p0 at G0 ⊢
  go_wp2
  go_loopg [7, 8] (b + 1) (fun gk s7 s8 wx => ∃ (p q A B : Nat), s7 = .pointer (some ⟨p, 0, none⟩) ∧ s8 = .pointer (some ⟨q, 0, none⟩) ∧ B < gk ∧ Aside0 (GcdAt w wx p q A B m (Nat.gcd a b)))
  case atStart => exact ⟨p0, q0, a, b, rfl, rfl, Nat.lt_succ_self _, ⟨G0.out⟩⟩
  case round =>
    obtain ⟨p, q, A, B, rfl, rfl, hgk, hN⟩ := hrel
    have HN := Aside0.mk hN.out
    clear hN G0
    go_wp2_with fail
    refine (sign_calls q B m _ HN.out.bq).mono ?_
    rintro e w3 ⟨rfl, hw⟩
    subst w3
    by_cases hB : B = 0
    · have hs : sgn (B : Int) = 0 := by rw [hB]; rfl
      have hG : Nat.gcd a b = A := by rw [← HN.out.g, hB, Nat.gcd_zero_right]
      have HG := Aside0.mk hG
      rw [hs]
      clear hs hB hG
      go_wp2_with fail
      refine (set_calls z p A m _ (HZ.out.below HN.out.lo) HN.out.bp (by omega)).mono ?_
      rintro e w4 ⟨rfl, hb4, hg4⟩
      have HG4 := Aside0.mk (below_z HN.out.lo hg4)
      have HB4 := Aside0.mk hb4
      clear hb4 hg4
      go_wp2
      go_ret
      refine ⟨rfl, ?_, HG4.out⟩
      rw [HG.out]
      exact HB4.out.more (by omega)
    · have hs : sgn (B : Int) = 1 := by unfold sgn; rw [if_neg (by omega), if_neg (by omega)]
      rw [hs]
      clear hs
      obtain ⟨xs, XA, xc, hxo, hxv, hxl⟩ := nonneg_opd HN.out.bp (by omega)
      obtain ⟨ys, YA, yc, hyo, hyv, hyl⟩ := nonneg_opd HN.out.bq (by omega)
      have HXO := Aside0.mk hxo
      have HYO := Aside0.mk hyo
      have HXV := Aside0.mk hxv
      have HYV := Aside0.mk hyv
      have c1 := hxo.c1
      have e1 := hyo.c1
      have h1x := hxo.len
      have h1y := hyo.len
      clear hxo hyo hxv hyv
      by_cases hs : xs.length ≤ 2 ∧ ys.length ≤ 2
      · have hx2 : (xs.length : Int) ≤ 2 := by omega
        have hy2 : (ys.length : Int) ≤ 2 := by omega
        have SX := Aside0.mk (short_int HXV.out HXO.out.ok hs.1)
        have SY := Aside0.mk (short_int HYV.out HYO.out.ok hs.2)
        clear hs
        go_wp2_with fail
        refine (int64_walk p false xs XA xc _ HXO.out).mono ?_
        rintro e w4 ⟨rfl, hw⟩
        subst w4
        rw [SX.out.1]
        go_wp2_with fail
        refine (int64_walk q false ys YA yc _ HYO.out).mono ?_
        rintro e w4 ⟨rfl, hw⟩
        subst w4
        rw [SY.out.1, u64_back SX.out.2]
        have hAl := SX.out.2
        have hBl := SY.out.2
        clear c1 e1 h1x h1y hx2 hy2
        go_wp2
        rw [u64_back SY.out.2]
        go_loopg [9, 10] (B + 1) (fun gk2 s9 s10 wx => ∃ (u v : Nat), s9 = .int .u64 u ∧ s10 = .int .u64 v ∧ v < gk2 ∧ u < 18446744073709551616 ∧ v < 18446744073709551616 ∧ Aside0 (Nat.gcd u v = Nat.gcd a b ∧ Below w.heap.size w wx))
        case atStart => exact ⟨A, B, rfl, rfl, Nat.lt_succ_self _, hAl, hBl, ⟨HN.out.g, HN.out.lo⟩⟩
        case round =>
          obtain ⟨u, v, rfl, rfl, hgk2, hu, hv, ⟨hg, hlo⟩⟩ := hrel
          have HG := Aside0.mk hg
          have HLO := Aside0.mk hlo
          clear hg hlo
          by_cases hv0 : v = 0
          · have hg2 : Nat.gcd a b = u := by rw [← HG.out, hv0, Nat.gcd_zero_right]
            have HG2 := Aside0.mk hg2
            have hvb : ((v : Int) == 0) = true := by rw [hv0]; rfl
            have hvc : ((v : Int) != 0) = false := by rw [hv0]; rfl
            clear hg2 hv0
            go_wp2_with fail
            refine (put_big z false _ [(u : Int) % 4294967296, (u : Int) / 4294967296] _ ((HZ.out.below HLO.out).alloc _) (Digs.two _ _ _) (Okd.cons (by omega) (okd_single (by omega)))).mono ?_
            rintro e w4 ⟨rfl, hb4, hg4⟩
            have HG4 := Aside0.mk (below_z HLO.out (grown_alloc hg4))
            have HB4 := Aside0.mk hb4
            clear hb4 hg4
            go_wp2
            go_ret
            refine ⟨rfl, ?_, HG4.out⟩
            have h := HB4.out
            rw [show bval false [(u : Int) % 4294967296, (u : Int) / 4294967296] = (u : Int) from val_two _ (by omega)] at h
            rw [HG2.out]
            exact h.more (by simp)
          · have hvb : ((v : Int) == 0) = false := by simp; omega
            have hvc : ((v : Int) != 0) = true := by simp; omega
            have hvp : 0 < v := by omega
            go_wp2
            go_quiet (fail)
            go_wp2
            go_roundg v
            case measure => omega
            case rel =>
              have hm := Nat.mod_lt u hvp
              exact ⟨v, u % v, rfl, by rw [Int.natCast_emod], hm, hv, by omega, ⟨by rw [gcd_swap]; exact HG.out, by first | exact pw_below_drewN HLO.out _ | exact HLO.out.drew⟩⟩
      · have hBp : B ≠ 0 := hB
        by_cases hx2 : xs.length ≤ 2
        · have hx3 : (xs.length : Int) ≤ 2 := by omega
          have hy3 : ¬ (ys.length : Int) ≤ 2 := by omega
          have hy4 : decide ((ys.length : Int) ≤ 2) = false := by simpa using hy3
          clear hs hx2
          go_wp2_with fail
          have hlo := below_alloc (below_alloc (Below.refl wr.heap.size wr) (.cells #[.bool false, .slice none 0 0] 73)) (.cells #[.bool false, .slice none 0 0] 73)
          refine (quoRem_calls wr.heap.size p q (wr.heap.size + 1) A B m m _ ((is_new wr).alloc _) (is_new2 wr _) (by omega) (HN.out.bp.below hlo) (HN.out.bq.below hlo) (by omega) (by omega) (by omega)).mono ?_
          rintro e w3 ⟨rfl, hq, hr, w2', hg1, hg2⟩
          have hlo3 := below_of_grown (below_of_grown hlo hg1 (by omega)) hg2 (Nat.le_refl _)
          have N3 := Aside0.mk (HN.out.below hlo3)
          rw [show Int.tmod (A : Int) (B : Int) = ((A % B : Nat) : Int) from by rw [Int.tmod_eq_emod_of_nonneg (by omega), Int.natCast_emod]] at hr
          have HR := Aside0.mk hr
          have HBP := Aside0.mk hBp
          clear hlo hq hr hg1 hg2 hlo3 hBp
          go_wp2
          go_roundg B
          case measure => omega
          case rel =>
            exact ⟨q, wr.heap.size + 1, B, A % B, rfl, rfl, Nat.mod_lt _ (by have := HBP.out; omega), ⟨⟨N3.out.lo, N3.out.bq, HR.out, N3.out.qh, by have := HN.out.lo.size; omega, by rw [gcd_swap]; exact HN.out.g⟩⟩⟩
        · have hx3 : ¬ (xs.length : Int) ≤ 2 := by omega
          have hx4 : decide ((xs.length : Int) ≤ 2) = false := by simpa using hx3
          clear hs hx2
          go_wp2_with fail
          have hlo := below_alloc (below_alloc (Below.refl wr.heap.size wr) (.cells #[.bool false, .slice none 0 0] 73)) (.cells #[.bool false, .slice none 0 0] 73)
          refine (quoRem_calls wr.heap.size p q (wr.heap.size + 1) A B m m _ ((is_new wr).alloc _) (is_new2 wr _) (by omega) (HN.out.bp.below hlo) (HN.out.bq.below hlo) (by omega) (by omega) (by omega)).mono ?_
          rintro e w3 ⟨rfl, hq, hr, w2', hg1, hg2⟩
          have hlo3 := below_of_grown (below_of_grown hlo hg1 (by omega)) hg2 (Nat.le_refl _)
          have N3 := Aside0.mk (HN.out.below hlo3)
          rw [show Int.tmod (A : Int) (B : Int) = ((A % B : Nat) : Int) from by rw [Int.tmod_eq_emod_of_nonneg (by omega), Int.natCast_emod]] at hr
          have HR := Aside0.mk hr
          have HBP := Aside0.mk hBp
          clear hlo hq hr hg1 hg2 hlo3 hBp
          go_wp2
          go_roundg B
          case measure => omega
          case rel =>
            exact ⟨q, wr.heap.size + 1, B, A % B, rfl, rfl, Nat.mod_lt _ (by have := HBP.out; omega), ⟨⟨N3.out.lo, N3.out.bq, HR.out, N3.out.qh, by have := HN.out.lo.size; omega, by rw [gcd_swap]; exact HN.out.g⟩⟩⟩
end Go.Proofs.YtghhphndbbefjaaDoor.Big
