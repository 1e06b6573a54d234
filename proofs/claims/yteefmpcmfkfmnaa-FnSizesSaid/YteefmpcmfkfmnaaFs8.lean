/- The law FnSizes walked: it answers true at every code. No conditions of ours. -/
import Derived.Test.YteefmpcmfkfmnaaFs7
namespace Go.Proofs.Yteefmpcmfkfmnaa
open Go Ieee Go.RowKit Go.Proofs.Yteefmpcmfkfmnaa.Fl Go.Proofs.Yteefmpcmfkfmnaa.Fx Go.Proofs.Yteefmpcmfkfmnaa.P Go.Proofs.YteefmpcmfkfmnaaW.PrintWords Go.Proofs.YteefmpcmfkfmnaaW.PrintLast Go.Proofs.YteefmpcmfkfmnaaW.PrintMore
set_option linter.unusedVariables false
set_option linter.unusedSimpArgs false
attribute [local go_sem] run_add run_sub run_mul run_quo run_cadd run_csub run_neg run_cneg

theorem parts_mk (a b : Nat) (c : Int) : parts (a, b, c) = .tuple #[.complex .f64 a b, .int .i64 c] := rfl
theorem fparts_mk (a : Nat) (c : Int) : fparts (a, c) = .tuple #[.float .f64 a, .int .i64 c] := rfl
/-- The size is at least the larger part and at most twice it. -/
theorem size_law {a b s p : Nat} {e : Int} (hs : sizeR a b = (s, 0)) (hp : partR a b = (p, e)) :
    (FloatKind.f64.format.order s p == some .lt) = false ∧ ∃ y, fb .mul 4611686018427387904 p = some y ∧ (FloatKind.f64.format.order s y == some .gt) = false := by
  unfold sizeR at hs
  unfold partR at hp
  cases h : (isFin a && isFin b)
  · rw [h] at hs; simp at hs
  rw [h, if_pos rfl] at hs hp
  rw [Bool.and_eq_true] at h
  cases hf : isFin (sz a b)
  · rw [hf] at hs; simp at hs
  rw [hf, if_pos rfl] at hs
  simp only [Prod.mk.injEq, and_true] at hs hp
  obtain ⟨rfl, rfl⟩ := hp
  subst hs
  have ha := U_abs h.1
  have hb := U_abs h.2
  obtain ⟨h1, h2⟩ := size_between ha.1 hb.1 (by rw [ha.2]; omega) (by rw [hb.2]; omega) (sz_some h.1 h.2) hf
  obtain ⟨q, hq⟩ := fb_mul_some (x := 4611686018427387904) (y := lgr (Op.Complex.abs a) (Op.Complex.abs b)) (by decide) (lgr_fin ha.1 hb.1).1
  refine ⟨by simpa using h1, q, hq, by simpa using h2 q hq⟩
theorem conj_fin {a b : Nat} (h : (isFin a && isFin b) = true) : conjR a b = (a, Op.negFloat .f64 b, 0) := by
  unfold conjR
  rw [h, if_pos rfl]
theorem wide2_lt {a b c d r i : Nat} (h : wide2 mulO a b c d = (r, i, 0)) : isFin r = true ∧ isFin i = true := by
  unfold wide2 at h
  split at h
  · split at h
    · have := fitO_zero' h
      exact ⟨this.2.2.1, this.2.2.2⟩
    · simp at h
  · simp at h
set_option maxRecDepth 100000 in
set_option maxHeartbeats 8000000 in
theorem FnSizes_calls (w : World) (A : Option Addr) (c : Nat) (l : List Int) (h : Code8 w A c l) : Calls Try.prog 3 #[.slice A l.length c] w fun e w' => e = .returned (.bool true) ∧ Below w.heap.size w w' := by
  cases hbig : decide ((l.length : Int) > 4096)
  case true =>
    go_enter Try.func3, Try.ntmps3
    go_wp2_with fail
    refine (laws_big.calls A c l true w h.r h.c (by unfold laws_big.f; rw [hbig])).mono ?_
    rintro e w1 ⟨rfl, hd⟩
    have hb := hd.below
    clear hd
    go_wp2
    go_ret
    exact ⟨rfl, hb⟩
  case false =>
    go_enter Try.func3, Try.ntmps3
    go_wp2_with fail
    refine (laws_big.calls A c l false w h.r h.c (by unfold laws_big.f; rw [hbig])).mono ?_
    rintro e w1 ⟨rfl, hd⟩
    have L := Aside0.mk (hd.below)
    clear hd hbig
    have HC := Aside0.mk h; clear h
    go_wp2_with fail
    refine (drawSizeOf_calls _ A c l (HC.out.below L.out)).mono ?_
    rintro e w2 ⟨⟨v, rfl, a, b, rfl, ha, hb⟩, hB⟩
    replace L := Aside0.mk (L.out.trans (hB.mono L.out.size)); clear hB
    obtain ⟨s1, s2, hs⟩ : ∃ u v, sizeR a b = (u, v) := ⟨_, _, rfl⟩
    obtain ⟨p1, p2, hp⟩ : ∃ u v, partR a b = (u, v) := ⟨_, _, rfl⟩
    have HS := Aside0.mk hs; have HP := Aside0.mk hp; have HA := Aside0.mk ha; have HB := Aside0.mk hb; clear hs hp ha hb
    go_wp2_with fail
    refine (SizeOf_calls a b HA.out HB.out _).mono ?_
    rintro e w_ ⟨rfl, n, rfl⟩
    rw [HS.out, fparts_mk]
    go_wp2_with fail
    refine (specSizeOf_calls a b HA.out HB.out _).mono ?_
    rintro e w_ ⟨rfl, n, rfl⟩
    rw [HS.out, fparts_mk]
    go_wp2_with fail
    refine (LargerPart_calls a b HA.out HB.out _).mono ?_
    rintro e w_ ⟨rfl, n, rfl⟩
    rw [HP.out, fparts_mk]
    go_wp2_with fail
    refine (specLargerPart_calls a b HA.out HB.out _).mono ?_
    rintro e w_ ⟨rfl, n, rfl⟩
    rw [HP.out, fparts_mk]
    go_upto_region 8 with fail
    go_cut [105] (fun v105 wc => v105 = .bool false ∧ Aside0 (Below w.heap.size w wc))
    case first => as_aux_lemma =>
      have es : (s2 != s2) = false := by simp
      have ep : (p2 != p2) = false := by simp
      by_cases h0 : s2 = 0
      · have d0 : (s2 == 0) = true := by simpa using h0
        subst h0
        obtain ⟨z1, y, z2, z3⟩ := size_law HS.out HP.out
        have z4 := fr_of' z2
        clear z2
        go_wp2_with fail
        refine (float5_self s1 _).mono ?_
        rintro e w_ ⟨rfl, n, rfl⟩
        go_wp2_with fail
        refine (float5_self p1 _).mono ?_
        rintro e w_ ⟨rfl, n, rfl⟩
        go_wp2
        go_meet
        case rel => exact ⟨rfl, ⟨by repeat (first | exact L.out | refine pw_below_drewN ?_ _)⟩⟩
      · have d0 : (s2 == 0) = false := by simpa using h0
        clear h0
        go_wp2_with fail
        refine (float5_self s1 _).mono ?_
        rintro e w_ ⟨rfl, n, rfl⟩
        go_wp2_with fail
        refine (float5_self p1 _).mono ?_
        rintro e w_ ⟨rfl, n, rfl⟩
        go_wp2
        go_meet
        case rel => exact ⟨rfl, ⟨by repeat (first | exact L.out | refine pw_below_drewN ?_ _)⟩⟩
    case rest =>
      clear L HS HP HA HB
      obtain ⟨rfl, L⟩ := hcut
      go_wp2_with fail
      refine (drawMul_calls _ A c l (HC.out.below L.out)).mono ?_
      rintro e w2 ⟨⟨v, rfl, a, b, x, y, rfl, ha, hb, hx, hy⟩, hB⟩
      replace L := Aside0.mk (L.out.trans (hB.mono L.out.size)); clear hB
      obtain ⟨q1, q2, q3, hq⟩ : ∃ u v z, wide2 mulO a b x y = (u, v, z) := ⟨_, _, _, rfl⟩
      have HQ := Aside0.mk hq; have HA := Aside0.mk ha; have HB := Aside0.mk hb; have HX := Aside0.mk hx; have HY := Aside0.mk hy; clear hq ha hb hx hy
      go_wp2_with fail
      refine (MultiplyWide_calls a b x y _).mono ?_
      rintro e w_ ⟨rfl, n, rfl⟩
      rw [HQ.out, parts_mk]
      go_upto_if 118 with (fail)
      go_cut [] (fun wc => Aside0 (Below w.heap.size w wc))
      case first => as_aux_lemma =>
        by_cases h0 : q3 = 0
        · have d0 : (q3 == 0) = true := by simpa using h0
          subst h0
          obtain ⟨c1, c2, c3, c4, c5, i', c6, c7, c8⟩ := conj_mul HA.out HB.out HX.out HY.out HQ.out
          have C1 := Aside0.mk (conj_fin c1)
          have C2 := Aside0.mk (conj_fin c2)
          have C3 := Aside0.mk (conj_fin (a := q1) (b := q2) (by rw [c3, c4]; rfl))
          have C6 := Aside0.mk c6
          have o1 := order_self (isN_fin c3)
          clear c1 c2 c3 c4 c5 c6 c7
          go_wp2_with fail
          refine (ConjugateOf_calls a b _).mono ?_
          rintro e w_ ⟨rfl, n, rfl⟩
          rw [C1.out, parts_mk]
          go_wp2_with fail
          refine (ConjugateOf_calls x y _).mono ?_
          rintro e w_ ⟨rfl, n, rfl⟩
          rw [C2.out, parts_mk]
          go_wp2_with fail
          refine (MultiplyWide_calls _ _ _ _ _).mono ?_
          rintro e w_ ⟨rfl, n, rfl⟩
          rw [C6.out, parts_mk]
          go_wp2_with fail
          refine (ConjugateOf_calls q1 q2 _).mono ?_
          rintro e w_ ⟨rfl, n, rfl⟩
          rw [C3.out, parts_mk]
          go_wp2
          go_meet
          case rel => exact ⟨by repeat (first | exact L.out | refine pw_below_drewN ?_ _)⟩
        · have d0 : (q3 == 0) = false := by simpa using h0
          clear h0
          go_wp2
          go_meet
          case rel => exact ⟨by repeat (first | exact L.out | refine pw_below_drewN ?_ _)⟩
      case rest =>
        clear L HQ HA HB HX HY
        have L := hcut; clear hcut
        go_wp2_with fail
        refine (drawPower_calls _ A c l (HC.out.below L.out)).mono ?_
        rintro e w2 ⟨⟨v, rfl, a, b, k, rfl, ha, hb⟩, hB⟩
        replace L := Aside0.mk (L.out.trans (hB.mono L.out.size)); clear hB ha hb
        obtain ⟨q1, q2, q3, hq⟩ : ∃ u v z, powW a b k = (u, v, z) := ⟨_, _, _, rfl⟩
        have HQ := Aside0.mk hq; clear hq
        go_wp2_with fail
        refine (PowerWide_calls a b k _).mono ?_
        rintro e w_ ⟨rfl, n, rfl⟩
        rw [HQ.out, parts_mk]
        go_wp2_with fail
        refine (specPowerWide_calls a b k _).mono ?_
        rintro e w_ ⟨rfl, n, rfl⟩
        rw [HQ.out, parts_mk]
        have eq3 : (q3 != q3) = false := by simp
        go_wp2_with fail
        refine (same5_self q1 q2 _).mono ?_
        rintro e w_ ⟨rfl, n, rfl⟩
        clear eq3
        go_upto_if 186 with (fail)
        go_cut [] (fun wc => Aside0 (Below w.heap.size w wc))
        case first => as_aux_lemma =>
          by_cases h0 : q3 = 0
          · have d0 : (q3 == 0) = true := by simpa using h0
            subst h0
            have HK := Aside0.mk (pow_list HQ.out)
            go_wp2_with fail
            go_loopg [30, 31] k.toNat (fun q v u w' => ∃ (j : Int), u = .int .i64 j ∧ Aside0 (0 ≤ j ∧ j + q = k ∧ cxk.R 24 w' w.heap.size (fun _ => True) v (List.replicate j.toNat (a, b)) ∧ Below w.heap.size w w'))
            case atStart => exact ⟨0, rfl, ⟨by omega, by have := HK.out.1; omega, cx_empty _ _ _ (by exact L.out.size) trivial, below_alloc (by repeat (first | exact L.out | refine pw_below_drewN ?_ _)) _⟩⟩
            case round =>
              clear L
              obtain ⟨j, rfl, hj⟩ := hrel
              have HJ := Aside0.mk (And.intro hj.out.1 hj.out.2.1); have HR := Aside0.mk hj.out.2.2.1; have L := Aside0.mk hj.out.2.2.2; clear hj
              cases gk with
              | succ d =>
                have hl' : decide (j < k) = true := decide_eq_true (by have := HJ.out; omega)
                go_wp2_with (first | ((with_reducible refine gate_builtin (b := .append) (xs := #[.tmp 193, .tmp 195]) rfl ?_); at_builtin; refine Kd.R_append cxk (w0 := w) w.heap.size rfl (.tmp 193) (.tmp 195) 38 24 (.complex .f64 0 0) 16 rfl Try.underlying38 info_cx rfl (by decide) (by omega) u30 (List.replicate j.toNat (a, b)) (a, b) [.complex .f64 a b] (fun _ => True) (fun _ => False) rfl rfl ?aP (fun _ hk => hk.elim) ?aF ?aO ?aB ?aS ?aL ?_; (case aP => exact rfl); (case aB => exact L.out); (case aF => exact (fun _ _ => trivial)); (case aO => exact HR.out); (case aS => exact L.out.size); (case aL => have h1 := HJ.out; have h2 := HK.out.2.1; rw [List.length_replicate]; omega); intro v1 w4 ho hb hg hat))
                have HO := Aside0.mk ho; have HBB := Aside0.mk hb
                clear ho hb hg hat
                go_wp2_with fail
                go_roundg d
                case measure => omega
                case rel =>
                  have h1 := HJ.out
                  have h2 := HK.out.2.1
                  have e : wrap64 (j + 1) = j + 1 := w64 (by omega) (by omega)
                  refine ⟨j + 1, by rw [e], ⟨by omega, by omega, ?_, HBB.out⟩⟩
                  rw [show (j + 1).toNat = j.toNat + 1 from by omega, List.replicate_succ']
                  exact HO.out
              | zero =>
                have hl' : decide (j < k) = false := decide_eq_false (by have := HJ.out; omega)
                have hjk : j = k := by have := HJ.out; omega
                have hr := HR.out
                rw [hjk] at hr
                obtain ⟨B, d, hv, hd, hc⟩ := Kd.R_reads hr
                subst hv
                have HCC := Aside0.mk hc
                clear hc hr hjk hd HR
                have hpc := ProductOfList_calls B d (List.replicate k.toNat (a, b)) wr HCC.out (by rw [List.length_replicate]; have := HK.out.2.1; omega)
                rw [List.length_replicate] at hpc
                have HPC := Aside0.mk hpc; clear hpc
                go_wp2_with fail
                refine HPC.out.mono ?_
                rintro e w_ ⟨rfl, n, rfl⟩
                rw [HK.out.2.2, parts_mk]
                go_wp2_with fail
                refine (same5_self q1 q2 _).mono ?_
                rintro e w_ ⟨rfl, n, rfl⟩
                go_wp2
                go_meet
                case rel => exact ⟨by repeat (first | exact L.out | refine pw_below_drewN ?_ _)⟩
          · have d0 : (q3 == 0) = false := by simpa using h0
            clear h0
            go_wp2
            go_meet
            case rel => exact ⟨by repeat (first | exact L.out | refine pw_below_drewN ?_ _)⟩
        case rest => as_aux_lemma =>
          clear L HQ
          have L := hcut; clear hcut
          go_wp2_with fail
          refine (drawScale_calls _ A c l (HC.out.below L.out)).mono ?_
          rintro e w2 ⟨⟨v, rfl, a, b, k, rfl, ha, hb⟩, hB⟩
          replace L := Aside0.mk (L.out.trans (hB.mono L.out.size)); clear hB
          obtain ⟨q1, q2, q3, hq⟩ : ∃ u v z, scaleW a b k = (u, v, z) := ⟨_, _, _, rfl⟩
          have HQ := Aside0.mk hq; have HA := Aside0.mk ha; have HB := Aside0.mk hb; clear hq ha hb
          go_wp2_with fail
          refine (ScaleWide_calls a b k _).mono ?_
          rintro e w_ ⟨rfl, n, rfl⟩
          rw [HQ.out, parts_mk]
          go_wp2_with fail
          refine (specScaleWide_calls a b k _).mono ?_
          rintro e w_ ⟨rfl, n, rfl⟩
          rw [HQ.out, parts_mk]
          have eq3 : (q3 != q3) = false := by simp
          go_wp2_with fail
          refine (same5_self q1 q2 _).mono ?_
          rintro e w_ ⟨rfl, n, rfl⟩
          clear eq3
          obtain ⟨bb, hbb⟩ : ∃ bb, (q3 == 0 && decide (k ≥ 0)) = bb := ⟨_, rfl⟩
          have HBB := Aside0.mk hbb; clear hbb
          go_upto_region 38 with fail
          go_cut [241] (fun v241 wc => v241 = .bool bb ∧ Aside0 (Below w.heap.size w wc))
          case first => as_aux_lemma =>
            have hbb := HBB.out
            cases d0 : (q3 == 0)
            · rw [d0, Bool.false_and] at hbb
              subst hbb
              go_wp2
              go_meet
              case rel => exact ⟨rfl, ⟨by repeat (first | exact L.out | refine pw_below_drewN ?_ _)⟩⟩
            · rw [d0, Bool.true_and] at hbb
              cases d1 : decide (k ≥ 0)
              · rw [d1] at hbb
                subst hbb
                go_wp2
                go_meet
                case rel => exact ⟨rfl, ⟨by repeat (first | exact L.out | refine pw_below_drewN ?_ _)⟩⟩
              · rw [d1] at hbb
                subst hbb
                go_wp2
                go_meet
                case rel => exact ⟨rfl, ⟨by repeat (first | exact L.out | refine pw_below_drewN ?_ _)⟩⟩
          case rest =>
          clear L
          obtain ⟨rfl, L⟩ := hcut
          go_upto_if 241 with (fail)
          go_cut [] (fun wc => Aside0 (Below w.heap.size w wc))
          case first => as_aux_lemma =>
            cases bb
            · go_wp2
              go_meet
              case rel => exact L
            · have hb2 := HBB.out
              rw [Bool.and_eq_true] at hb2
              have h0 : q3 = 0 := by simpa using hb2.1
              have h1 : k ≥ 0 := of_decide_eq_true hb2.2
              clear hb2 HBB
              subst h0
              have hk2 : k ≤ 2200 := by
                have hq := HQ.out
                unfold scaleW at hq
                split at hq
                · split at hq
                  · rename_i g; exact g.2
                  · simp at hq
                · simp at hq
              have e0 : wrap64 (0 - k) = -k := by rw [w64 (by omega) (by omega)]; omega
              have e1 : wrap64 (-k) = -k := w64 (by omega) (by omega)
              have C6 := Aside0.mk (scale_back HA.out HB.out h1 HQ.out)
              clear h1 hk2
              go_wp2_with fail
              refine (ScaleWide_calls q1 q2 (-k) _).mono ?_
              rintro e w_ ⟨rfl, n, rfl⟩
              rw [C6.out, parts_mk]
              go_wp2_with fail
              refine (same5_self a b _).mono ?_
              rintro e w_ ⟨rfl, n, rfl⟩
              go_wp2
              go_meet
              case rel => exact ⟨by repeat (first | exact L.out | refine pw_below_drewN ?_ _)⟩
          case rest =>
            clear L HQ HA HB HBB
            have L := hcut; clear hcut
            go_wp2_with fail
            refine (drawSum_calls _ A c l (HC.out.below L.out)).mono ?_
            rintro e w2 ⟨xs, B, d, rfl, h1, h2, h3, h4, hB⟩
            replace L := Aside0.mk (L.out.trans (hB.mono L.out.size)); clear hB h4 h3
            have H1 := Aside0.mk h1; have H2 := Aside0.mk h2; clear h1 h2
            obtain ⟨q1, q2, q3, hq⟩ : ∃ u v z, listW addO 0 0 xs = (u, v, z) := ⟨_, _, _, rfl⟩
            have HQ := Aside0.mk hq; clear hq
            have eq3 : (q3 == q3) = true := by simp
            go_wp2_with fail
            refine (SumOfList_calls B d xs _ H1.out (by have := H2.out; omega)).mono ?_
            rintro e w_ ⟨rfl, n, rfl⟩
            rw [HQ.out, parts_mk]
            go_wp2_with fail
            refine (specSumOfList_calls B d xs _ (Kd.C_drewN H1.out _) (by have := H2.out; omega)).mono ?_
            rintro e w_ ⟨rfl, n, rfl⟩
            rw [HQ.out, parts_mk]
            go_wp2_with fail
            refine (same5_self q1 q2 _).mono ?_
            rintro e w_ ⟨rfl, n, rfl⟩
            go_wp2
            go_ret
            exact ⟨rfl, by repeat (first | exact L.out | refine pw_below_drewN ?_ _)⟩
end Go.Proofs.Yteefmpcmfkfmnaa
