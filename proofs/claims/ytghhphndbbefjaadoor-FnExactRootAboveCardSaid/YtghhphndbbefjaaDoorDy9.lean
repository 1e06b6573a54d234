/- The contracts of (impl.number).rootAbove and impl.RootAbove in plain words. Conditions: at most 1000000000 limbs; the library's table holds its numbers. -/
import Derived.Test.YtghhphndbbefjaaDoorDy5
import Derived.Test.YtghhphndbbefjaaDoorG31
import Derived.Test.YtghhphndbbefjaaDoorBigF
namespace Go.Proofs.YtghhphndbbefjaaDoor
open Go.RowKit Go.Proofs.YtghhphndbbefjaaDoorW.PrintWords Go.Proofs.YtghhphndbbefjaaDoorW.PrintLast Go.Proofs.YtghhphndbbefjaaDoorW.PrintMore Go.Proofs.YtghhphndbbefjaaDoor.Math Go.Proofs.YtghhphndbbefjaaDoor.Big
set_option linter.unusedVariables false
set_option linter.unusedSimpArgs false
def rcl (n e k : Int) : Int := -(shv (-n) (e + 2 * k))
def rup (c : Int) : Int := if iroot c * iroot c < c then iroot c + 1 else iroot c
def abres (s : Int) (l : List Int) (e k : Int) : Int × List Int × Int × Int :=
 if rcode s l e k 0 200 = 0 then (if s < 0 ∨ 400 < (blen (wv s l) : Int) + e then (0, [], 0, 2) else dyfit (rup (rcl (wv s l) e k)) (-k)) else (0, [], 0, rcode s l e k 0 200)
theorem twop_pos (k : Nat) : (1 : Int) ≤ 2 ^ k := by
 have := Int.pow_pos (n := (2 : Int)) (m := k) (by omega)
 omega
theorem twop_cast (k : Nat) : (((2 : Nat) ^ k : Nat) : Int) = 2 ^ k := by rw [Int.natCast_pow]; rfl
theorem twop_le {i j : Nat} (h : i ≤ j) : (2 : Int) ^ i ≤ 2 ^ j := by
 rw [← twop_cast, ← twop_cast]
 exact Int.ofNat_le.2 (Nat.pow_le_pow_right (by omega) h)
theorem sgn_nonneg_iff {x : Int} : 0 ≤ sgn x ↔ 0 ≤ x := by
 unfold sgn
 repeat' split
 all_goals omega
theorem lt400 {n e : Int} (h0 : 0 ≤ n) (hz : n = 0 → e ≤ 400) : (0 ≤ sgn (n * 2 ^ (e - mn e 400).toNat - 1 * 2 ^ (400 - mn e 400).toNat)) ↔ 400 < (blen n : Int) + e := by
 rw [sgn_nonneg_iff]
 unfold mn
 by_cases he : 400 < e
 ·have hn : n ≠ 0 := fun h => by have := hz h; omega
  rw [if_pos he]
  have e1 : (400 - 400 : Int).toNat = 0 := by omega
  have h1 := twop_pos (e - 400).toNat
  have h2 : n * 1 ≤ n * 2 ^ (e - 400).toNat := Int.mul_le_mul_of_nonneg_left h1 h0
  rw [e1, Int.pow_zero]
  constructor
  ·intro _
   omega
  ·intro _
   generalize n * 2 ^ (e - 400).toNat = q at h2 ⊢
   omega
 ·rw [if_neg he]
  have e1 : (e - e : Int).toNat = 0 := by omega
  rw [e1, Int.pow_zero, Int.mul_one, Int.one_mul]
  have hb := blen_le (n := n) (k := (400 - e).toNat)
  have hc := twop_cast (400 - e).toNat
  generalize (2 : Int) ^ (400 - e).toNat = q at hc ⊢
  generalize (2 : Nat) ^ (400 - e).toNat = r at hb hc
  omega
theorem rcl_bound {n e k : Int} (h0 : 0 ≤ n) (hb : (blen n : Int) + e ≤ 400) (hk : 0 ≤ k) : 0 ≤ rcl n e k ∧ rcl n e k ≤ 2 ^ (400 + 2 * k).toNat := by
 have hn := (blen_le (n := n) (k := (400 - e).toNat)).1 (by omega)
 have hn2 : n ≤ 2 ^ (400 - e).toNat := by
  have hc := twop_cast (400 - e).toNat
  generalize (2 : Int) ^ (400 - e).toNat = q at hc ⊢
  generalize (2 : Nat) ^ (400 - e).toNat = r at hn hc
  omega
 unfold rcl shv
 by_cases hj : 0 ≤ e + 2 * k
 ·rw [if_pos hj]
  have h1 := twop_pos (e + 2 * k).toNat
  have h2 : n * 2 ^ (e + 2 * k).toNat ≤ 2 ^ (400 - e).toNat * 2 ^ (e + 2 * k).toNat := Int.mul_le_mul_of_nonneg_right hn2 (by omega)
  have h3 : (2 : Int) ^ (400 - e).toNat * 2 ^ (e + 2 * k).toNat = 2 ^ (400 + 2 * k).toNat := by
   rw [← Int.pow_add]
   congr 1
   omega
  have h4 : 0 ≤ n * 2 ^ (e + 2 * k).toNat := Int.mul_nonneg h0 (by omega)
  rw [h3] at h2
  rw [Int.neg_mul, Int.neg_neg]
  exact ⟨h4, h2⟩
 ·rw [if_neg hj]
  have h1 := twop_pos (-(e + 2 * k)).toNat
  have h3 : (2 : Int) ^ (400 - e).toNat = 2 ^ (400 + 2 * k).toNat * 2 ^ (-(e + 2 * k)).toNat := by
   rw [← Int.pow_add]
   congr 1
   omega
  rw [h3] at hn2
  have h4 : -(2 ^ (400 + 2 * k).toNat) ≤ (-n) / 2 ^ (-(e + 2 * k)).toNat := by
   refine (Int.le_ediv_iff_mul_le (by omega)).2 ?_
   rw [Int.neg_mul]
   exact Int.neg_le_neg hn2
  have h5 : (-n) / 2 ^ (-(e + 2 * k)).toNat ≤ 0 := by
   have := Int.ediv_le_ediv (c := 2 ^ (-(e + 2 * k)).toNat) (by omega) (show -n ≤ 0 from by omega)
   rw [Int.zero_ediv] at this
   exact this
  generalize (-n) / 2 ^ (-(e + 2 * k)).toNat = q at h4 h5 ⊢
  generalize (2 : Int) ^ (400 + 2 * k).toNat = r at h4 ⊢
  omega
theorem rcl_fit {n e k : Int} (h0 : 0 ≤ n) (hb : (blen n : Int) + e ≤ 400) (hk : 0 ≤ k) (hk2 : k ≤ 200) : 0 ≤ rcl n e k ∧ (-4294967296 ^ 26 < rcl n e k ∧ rcl n e k < 4294967296 ^ 26) := by
 obtain ⟨h1, h2⟩ := rcl_bound h0 hb hk
 have h3 := twop_le (show (400 + 2 * k).toNat ≤ 800 from by omega)
 have h4 : (2 : Int) ^ 800 < 4294967296 ^ 26 := by
  rw [show (4294967296 : Int) = 2 ^ 32 from rfl, ← Int.pow_mul, show 32 * 26 = 831 + 1 from rfl, Int.pow_succ]
  have g1 := twop_le (show 800 ≤ 831 from by omega)
  have g2 := twop_pos 800
  generalize (2 : Int) ^ 800 = a at g1 g2 ⊢
  generalize (2 : Int) ^ 831 = b at g1 ⊢
  omega
 generalize (2 : Int) ^ (400 + 2 * k).toNat = q at h2 h3
 generalize (2 : Int) ^ 800 = r at h3 h4
 generalize (4294967296 : Int) ^ 26 = s at h4 ⊢
 omega
theorem isD_zero {s : Int} {l : List Int} {e : Int} (h : isD s l e = true) (hv : wv s l = 0) : e = 0 := by
 by_cases hs : s = 0
 ·unfold isD at h
  rw [if_pos hs] at h
  simp only [Bool.and_eq_true, beq_iff_eq] at h
  exact h.2.2
 ·have hw := isW_cw (isD_isW h)
  have hne : l ≠ [] := fun e => hs (hw.z e)
  have hp := lv_pos hw.ok hw.ti hne
  rw [hw.val] at hv
  rcases hw.nz hne with rfl | rfl <;> omega
theorem ResN.grown9 {w wr w1 : World} {b z : Nat} (h : ResN w wr b) (hg : wr.grownBy w1 (some z)) (hz : IsBig wr z) (hw : w.heap.size ≤ z) : ResN w w1 b :=
 ⟨below_of_grown h.lo hg hw, (hg.block b (blk_lt h.box) (by intro e; injection e with e; exact grownBy_number h.box hz e.symm)).trans h.box, h.ge⟩
set_option maxRecDepth 100000 in
set_option maxHeartbeats 2000000 in
theorem rootAbove_calls (x : Nat) (n p k : Int) (w : World) (hx : Big w x n 200) (h0 : 0 ≤ n) (hb : (blen n : Int) + p ≤ 400) (hp : -5000 ≤ p ∧ p ≤ 5000) (hk : 0 ≤ k ∧ k ≤ 200) (hT : Tab w) :
  Calls Tryd.prog 85 #[.agg #[.pointer (some ⟨x, 0, none⟩), .int .i64 p], .int .i64 k] w fun e w' => ∃ z, e = .returned (.agg #[.pointer (some ⟨z, 0, none⟩), .int .i64 (-k)]) ∧ Big w' z (rup (rcl n p k)) 100 ∧ Below w.heap.size w w' := by
 obtain ⟨hc0, hc1⟩ := rcl_fit h0 hb hk.1 hk.2
 obtain ⟨c, hc⟩ : ∃ c, rcl n p k = c := ⟨_, rfl⟩
 rw [hc] at hc0 hc1 ⊢
 have N0 := Aside0.mk ((NumBox.start w x p).below (below_alloc (Below.refl _ _) (.cells #[.pointer none, .int .i64 0] 90)))
 have R0 := Aside0.mk (ResN.next (NumBox.start w x p).lo)
 rw [alloc_size] at R0
 have HX := Aside0.mk (hx.below N0.out.lo)
 have HT := Aside0.mk (hT.below N0.out.lo)
 have hw1 : wrap64 (2 * k) = 2 * k := w64s (by omega) (by omega)
 have hw2 : IntKind.i64.wrap (2 * k) = 2 * k := by rw [IntKind.wrap_i64]; omega
 have hw3 : wrap64 (-k) = -k := w64s (by omega) (by omega)
 have hw4 : IntKind.i64.wrap (-k) = -k := by rw [IntKind.wrap_i64]; omega
 have HB := Aside0.mk (show (-50000 ≤ p ∧ p ≤ 50000) ∧ (-50000 ≤ 2 * k ∧ 2 * k ≤ 50000) from by omega)
 have HC := Aside0.mk (And.intro hc (And.intro hc0 hc1))
 obtain ⟨p0, p1⟩ := N0.out.cells
 clear hx hT hc hc0 hc1 h0 hb hp
 go_enter Tryd.func85, Tryd.ntmps85
 go_wp2_with fail
 refine (ceil_calls x n p (2 * k) 200 _ HX.out (by omega) HB.out.1 HB.out.2 HT.out).mono ?_
 rintro e w1 ⟨z, rfl, hge, hbig, hb⟩
 have R1 := Aside0.mk (R0.out.below hb)
 have BZ := Aside0.mk (Big.fit (show Big w1 z c (200 + 4000) from by rw [← HC.out.1]; exact hbig) HC.out.2.2.1 HC.out.2.2.2)
 have N1 := Aside0.mk (N0.out.below hb)
 clear hge hbig hb p0 p1
 go_wp2_with fail
 refine (sqrt_calls w1.heap.size z c 26 _ (is_new w1) (BZ.out.below (below_alloc (Below.refl _ _) _)) HC.out.2.1 (by omega)).mono ?_
 rintro e w2 ⟨rfl, hbig, hg⟩
 have L2 := Aside0.mk (below_of_grown ((Below.refl w1.heap.size w1).alloc (Nat.le_refl _) _) hg (Nat.le_refl _))
 have R2 := Aside0.mk (R1.out.below L2.out)
 have N2 := Aside0.mk (N1.out.below L2.out)
 have C2 := Aside0.mk (BZ.out.below L2.out)
 have Q2 := Aside0.mk hbig
 have GR := Aside0.mk R1.out.lo.size
 clear hbig hg
 obtain ⟨r, hr⟩ : ∃ r, w1.heap.size = r := ⟨_, rfl⟩
 rw [hr] at Q2 GR ⊢
 obtain ⟨i, hi⟩ : ∃ i, iroot c = i := ⟨_, rfl⟩
 rw [hi] at Q2
 go_wp2_with fail
 refine (mul_calls w2.heap.size r r i i 28 28 _ (is_new w2) (Q2.out.below (below_alloc (Below.refl _ _) _)) (by omega) (Q2.out.below (below_alloc (Below.refl _ _) _)) (by omega)).mono ?_
 rintro e w3 ⟨rfl, hbig, hg⟩
 have L3 := Aside0.mk (below_of_grown ((Below.refl w2.heap.size w2).alloc (Nat.le_refl _) _) hg (Nat.le_refl _))
 have R3 := Aside0.mk (R2.out.below L3.out)
 have N3 := Aside0.mk (N2.out.below L3.out)
 have C3 := Aside0.mk (C2.out.below L3.out)
 have Q3 := Aside0.mk (Q2.out.below L3.out)
 have S3 := Aside0.mk hbig
 clear hbig hg
 have hsg : (sgn (i * i - c) < 0) ↔ i * i < c := by
  unfold sgn
  generalize i * i = q
  repeat' split
  all_goals omega
 have HS := Aside0.mk hsg
 have HI := Aside0.mk hi
 have HR9 := Aside0.mk hr
 clear hsg hi hr
 go_wp2_with fail
 refine (cmp_calls w2.heap.size z (i * i) c _ 26 _ S3.out (by omega) C3.out (by omega)).mono ?_
 rintro e w4 ⟨rfl, hb⟩
 have R4 := Aside0.mk (R3.out.below hb)
 have N4 := Aside0.mk (N3.out.below hb)
 have Q4 := Aside0.mk (Q3.out.below hb)
 clear hb
 by_cases hlt : i * i < c
 ·have hs := HS.out.2 hlt
  have HU := Aside0.mk (show rup c = i + 1 from by unfold rup; rw [HI.out, if_pos hlt])
  obtain ⟨q0, q1, q2, q3⟩ := R4.out.cells
  obtain ⟨g, hg⟩ : ∃ g, sgn (i * i - c) = g := ⟨_, rfl⟩
  rw [hg] at hs ⊢
  clear hg hlt
  go_wp2_with fail
  refine (newBig_calls 1 _ (by omega) (by omega)).mono ?_
  rintro e w5 ⟨rfl, hone, hb⟩
  have R5 := Aside0.mk (R4.out.below hb)
  have Q5 := Aside0.mk (Q4.out.below hb)
  have O5 := Aside0.mk hone
  clear hone hb
  go_wp2_with fail
  refine (add_calls r r w4.heap.size i 1 28 2 _ Q5.out.is Q5.out (by omega) O5.out (by omega)).mono ?_
  rintro e w6 ⟨rfl, hbig, hg⟩
  have R6 := Aside0.mk (R5.out.grown9 hg Q5.out.is GR.out)
  have Q6 := Aside0.mk hbig
  obtain ⟨u0, u1, u2, u3⟩ := R6.out.cells
  clear hbig hg q0 q1 q2 q3
  go_wp2
  refine bodyPost_ret (results_c1 rfl _ _ (w.heap.size + 1) 90 #[.pointer (some ⟨r, 0, none⟩), .int .i64 (-k)] (0, 0) _ rfl (R6.out.put _ _) Tryd.underlying90 rfl (by kernel_rfl)) rfl ?_
  rw [HU.out]
  exact ⟨r, rfl, (R6.out.big Q6.out _ _).more (by omega), R6.out.low _ _⟩
 ·have hs : ¬ sgn (i * i - c) < 0 := fun h => hlt (HS.out.1 h)
  have HU := Aside0.mk (show rup c = i from by unfold rup; rw [HI.out, if_neg hlt])
  obtain ⟨q0, q1, q2, q3⟩ := R4.out.cells
  obtain ⟨g, hg⟩ : ∃ g, sgn (i * i - c) = g := ⟨_, rfl⟩
  rw [hg] at hs ⊢
  clear hg hlt
  go_wp2
  refine bodyPost_ret (results_c1 rfl _ _ (w.heap.size + 1) 90 #[.pointer (some ⟨r, 0, none⟩), .int .i64 (-k)] (0, 0) _ rfl (R4.out.put _ _) Tryd.underlying90 rfl (by kernel_rfl)) rfl ?_
  rw [HU.out]
  exact ⟨r, rfl, (R4.out.big Q4.out _ _).more (by omega), R4.out.low _ _⟩
def impl_RootAbove.f (a0_0 : Int) (l0_1 : List Int) (a0_2 : Int) (a1 : Int) : Option (Int × List Int × Int × Int) := if l0_1.length ≤ 1000000000 then some (abres a0_0 l0_1 a0_2 a1) else none
set_option maxRecDepth 100000 in
set_option maxHeartbeats 2000000 in
theorem impl_RootAbove.calls (a0_0 : Int) (A0_1 : Option Addr) (c0_1 : Nat) (l0_1 : List Int) (a0_2 : Int) (a1 : Int) (r1 : Int) (r2 : List Int) (r3 r4 : Int) (w : World) (hr0_1 : Kd.C (Kd.int .i64) w A0_1 l0_1.length l0_1) (hc0_1 : l0_1.length ≤ c0_1) (hT : Tab w) (h : impl_RootAbove.f a0_0 l0_1 a0_2 a1 = some (r1, r2, r3, r4)) :
  Calls Tryd.prog 41 #[.agg #[.int .i64 a0_0, .slice A0_1 l0_1.length c0_1, .int .i64 a0_2], .int .i64 a1] w fun e w' => ∃ v1_ : Value, e = .returned (.tuple #[.agg #[.int .i64 r1, v1_, .int .i64 r3], .int .i64 r4]) ∧ Kd.R (Kd.int .i64) 2 w' w.heap.size (fun _ => True) v1_ r2 ∧ Below w.heap.size w w' := by
 unfold impl_RootAbove.f at h
 split at h
 case isFalse => cases h
 rename_i hl
 injection h with h
 have HR := Aside0.mk hr0_1
 have R0 := Aside0.mk (ResD.next (DyBox.start w a0_0 A0_1 c0_1 l0_1 a0_2).lo)
 have D0 := Aside0.mk ((DyBox.start w a0_0 A0_1 c0_1 l0_1 a0_2).below (below_alloc (Below.refl _ _) (.cells #[.int .i64 0, .slice none 0 0, .int .i64 0] 45)))
 have HT := Aside0.mk hT
 have HL := Aside0.mk hl
 clear hr0_1 hT hl
 rw [alloc_size] at R0
 unfold abres at h
 by_cases hc : rcode a0_0 l0_1 a0_2 a1 0 200 = 0
 ·rw [if_pos hc] at h
  obtain ⟨hd, hk⟩ := rcode_ok hc
  have hx := isD_exp hd
  have HW := Aside0.mk (isD_isW hd)
  have HC := Aside0.mk hc
  have hz : wv a0_0 l0_1 = 0 → a0_2 ≤ 400 := fun hv => by have := isD_zero hd hv; omega
  have hwk : wrap64 (-a1) = -a1 := w64s (by omega) (by omega)
  have HB := Aside0.mk (show (-5000 ≤ a0_2 ∧ a0_2 ≤ 5000) ∧ (0 ≤ a1 ∧ a1 ≤ 200) ∧ (-20000 ≤ a0_2 ∧ a0_2 ≤ 20000) from by omega)
  have HB2 := Aside0.mk (show -1000000 ≤ -a1 ∧ -a1 ≤ 1000000 from by omega)
  clear hc hk hx hd
  go_enter Tryd.func41, Tryd.ntmps41
  go_wp2_with fail
  refine (code_calls _ _ _ _ _ _ _ _ _ (Kd.C_below HR.out D0.out.lo) hc0_1 HL.out _ HC.out).mono ?_
  rintro e w1 ⟨rfl, hb⟩
  have R1 := Aside0.mk (R0.out.below hb)
  have D1 := Aside0.mk (D0.out.below hb)
  obtain ⟨p0, p1, p2⟩ := D1.out.cells
  obtain ⟨q0, q1, q2, q3, q4, q5⟩ := R1.out.cells
  clear hb
  by_cases hs : a0_0 < 0
  ·rw [if_pos (Or.inl hs)] at h
   simp only [Prod.mk.injEq] at h
   obtain ⟨rfl, rfl, rfl, rfl⟩ := h
   go_wp2_with fail
   refine bodyPost_ret (results_ct rfl _ _ (w.heap.size + 1) 45 #[.int .i64 0, .slice none 0 0, .int .i64 0] (0, 0) _ rfl (R1.out.put _ _ _) Tryd.underlying45 rfl (by kernel_rfl)) rfl ?_
   exact ⟨_, rfl, R1.out.row (own_zero w1 (w.heap.size + 3)) (by omega) _ _ _, R1.out.low _ _ _⟩
  ·have H0 := Aside0.mk (show 0 ≤ wv a0_0 l0_1 from by
    unfold wv
    rw [if_neg hs]
    exact lv_nonneg (isW_okl HW.out))
   have HL4 := Aside0.mk (lt400 H0.out hz)
   go_wp2_with fail
   refine (dvalue_calls a0_0 A0_1 c0_1 l0_1 a0_2 _ (Kd.C_below HR.out D1.out.lo) HW.out).mono ?_
   rintro e w2 ⟨b, rfl, hge, hbig, hb⟩
   have R2 := Aside0.mk (R1.out.below hb)
   have D2 := Aside0.mk (D1.out.below hb)
   have B2 := Aside0.mk hbig
   clear hge hbig hb p0 p1 p2 q0 q1 q2 q3 q4 q5 hz
   go_wp2_with fail
   refine (newBig_calls 1 _ (by omega) (by omega)).mono ?_
   rintro e w3 ⟨rfl, hone, hb⟩
   have R3 := Aside0.mk (R2.out.below hb)
   have D3 := Aside0.mk (D2.out.below hb)
   have B3 := Aside0.mk (B2.out.below hb)
   have O3 := Aside0.mk (hone.more (show 2 ≤ 200 from by omega))
   clear hone hb
   go_wp2_with fail
   refine (compare_calls b w2.heap.size (wv a0_0 l0_1) 1 a0_2 400 _ B3.out O3.out HB.out.2.2 (by omega) (HT.out.below R3.out.lo)).mono ?_
   rintro e w4 ⟨rfl, hb⟩
   have R4 := Aside0.mk (R3.out.below hb)
   have D4 := Aside0.mk (D3.out.below hb)
   obtain ⟨p0, p1, p2⟩ := D4.out.cells
   obtain ⟨q0, q1, q2, q3, q4, q5⟩ := R4.out.cells
   clear hb
   obtain ⟨g, hg⟩ : ∃ g, sgn (wv a0_0 l0_1 * 2 ^ (a0_2 - mn a0_2 400).toNat - 1 * 2 ^ (400 - mn a0_2 400).toNat) = g := ⟨_, rfl⟩
   rw [hg] at HL4 ⊢
   by_cases hb4 : 400 < (blen (wv a0_0 l0_1) : Int) + a0_2
   ·rw [if_pos (Or.inr hb4)] at h
    simp only [Prod.mk.injEq] at h
    obtain ⟨rfl, rfl, rfl, rfl⟩ := h
    have hgg := HL4.out.2 hb4
    clear hg hb4
    go_wp2_with fail
    refine bodyPost_ret (results_ct rfl _ _ (w.heap.size + 1) 45 #[.int .i64 0, .slice none 0 0, .int .i64 0] (0, 0) _ rfl (R4.out.put _ _ _) Tryd.underlying45 rfl (by kernel_rfl)) rfl ?_
    exact ⟨_, rfl, R4.out.row (own_zero w4 (w.heap.size + 3)) (by omega) _ _ _, R4.out.low _ _ _⟩
   ·rw [if_neg (fun hh => hh.elim (fun q => by omega) hb4)] at h
    have HH := Aside0.mk h
    have hgg : ¬ 0 ≤ g := fun hh => hb4 (HL4.out.1 hh)
    have HB4 := Aside0.mk (show (blen (wv a0_0 l0_1) : Int) + a0_2 ≤ 400 from by omega)
    clear h hg hb4 q0 q1 q2 q3 q4 q5
    go_wp2_with fail
    refine (dvalue_calls a0_0 A0_1 c0_1 l0_1 a0_2 _ (Kd.C_below HR.out D4.out.lo) HW.out).mono ?_
    rintro e w5 ⟨b', rfl, hge, hbig, hb⟩
    have R5 := Aside0.mk (R4.out.below hb)
    have B5 := Aside0.mk hbig
    clear hge hbig hb p0 p1 p2
    go_wp2_with fail
    refine (rootAbove_calls b' _ a0_2 a1 _ B5.out H0.out HB4.out HB.out.1 HB.out.2.1 (HT.out.below R5.out.lo)).mono ?_
    rintro e w6 ⟨z, rfl, hbig, hb⟩
    have R6 := Aside0.mk (R5.out.below hb)
    have B6 := Aside0.mk hbig
    clear hbig hb
    go_wp2_with fail
    refine (dyadic_calls z _ (-a1) 100 _ B6.out (by omega) HB2.out.1 HB2.out.2 (HT.out.below R6.out.lo) r1 r2 r3 r4 HH.out).mono ?_
    rintro e w7 ⟨v, rfl, hr, hb5⟩
    obtain ⟨A1, c1, rfl⟩ := own_slice hr
    have R7 := Aside0.mk (R6.out.below hb5)
    have HRW := Aside0.mk hr
    obtain ⟨q0, q1, q2, q3, q4, q5⟩ := R7.out.cells
    clear hr hb5
    go_wp2_with fail
    refine bodyPost_ret (results_ct rfl _ _ (w.heap.size + 1) 45 #[.int .i64 r1, .slice A1 r2.length c1, .int .i64 r3] (0, 0) _ rfl (R7.out.put _ _ _) Tryd.underlying45 rfl (by kernel_rfl)) rfl ?_
    exact ⟨_, rfl, R7.out.row HRW.out R6.out.lo.size _ _ _, R7.out.low _ _ _⟩
 ·rw [if_neg hc] at h
  simp only [Prod.mk.injEq] at h
  obtain ⟨rfl, rfl, rfl, hcode⟩ := h
  have HC := Aside0.mk hcode
  have hcb : (r4 == 0) = false := by rw [← hcode]; simpa using hc
  have hcb2 : (r4 != 0) = true := by rw [← hcode]; simpa using hc
  clear hc hcode
  go_enter Tryd.func41, Tryd.ntmps41
  go_wp2_with fail
  refine (code_calls _ _ _ _ _ _ _ _ _ (Kd.C_below HR.out D0.out.lo) hc0_1 HL.out _ HC.out).mono ?_
  rintro e w1 ⟨rfl, hb⟩
  have R1 := Aside0.mk (R0.out.below hb)
  obtain ⟨q0, q1, q2, q3, q4, q5⟩ := R1.out.cells
  clear hb
  go_wp2_with fail
  refine bodyPost_ret (results_ct rfl _ _ (w.heap.size + 1) 45 #[.int .i64 0, .slice none 0 0, .int .i64 0] (0, 0) _ rfl (R1.out.put _ _ _) Tryd.underlying45 rfl (by kernel_rfl)) rfl ?_
  exact ⟨_, rfl, R1.out.row (own_zero w1 (w.heap.size + 3)) (by omega) _ _ _, R1.out.low _ _ _⟩
end Go.Proofs.YtghhphndbbefjaaDoor
