/- The law FnExactRootAbove, as a plain statement: it answers true at every argument. -/
import Derived.Test.YtghhphndbbefjaaDoorPurCeil
import Derived.Test.YtghhphndbbefjaaDoorPurRoot
import Derived.Test.YtghhphndbbefjaaDoorX9
import Derived.Test.YtghhphndbbefjaaDoorG20
import Derived.Test.YtghhphndbbefjaaDoorWkRootAbove
import Derived.Test.YtghhphndbbefjaaDoorDy9
namespace Go.Proofs.YtghhphndbbefjaaDoor.Pur
open Go.RowKit Go.Proofs.YtghhphndbbefjaaDoor Go.Proofs.YtghhphndbbefjaaDoor.Big Go.Proofs.YtghhphndbbefjaaDoor.X Go.Proofs.YtghhphndbbefjaaDoorW.PrintWords Go.Proofs.YtghhphndbbefjaaDoorW.PrintLast Go.Proofs.YtghhphndbbefjaaDoor.Math
set_option linter.unusedVariables false
set_option linter.unusedSimpArgs false
theorem abres_length (s : Int) (l : List Int) (e k : Int) : (abres s l e k).2.1.length ≤ 200 := by
 unfold abres
 split
 ·split
  ·simp
  ·exact dyfit_length _ _
 ·simp
theorem nat_le_pow {x : Int} {k m : Nat} (h0 : 0 ≤ x) (h : x ≤ 2 ^ k + 1) (hm : k + 2 ≤ m) : x.natAbs < 2 ^ m := by
 have c := pow_cast k
 have g1 : 1 ≤ (2 : Nat) ^ k := Nat.two_pow_pos _
 have g2 : (2 : Nat) ^ (k + 2) ≤ 2 ^ m := Nat.pow_le_pow_right (by omega) hm
 rw [Nat.pow_add] at g2
 generalize (2 : Nat) ^ m = q at *
 rw [← c] at h
 generalize (2 : Nat) ^ k = p at *
 omega
theorem nat_le_lpow {x : Int} {k j : Nat} (h0 : 0 ≤ x) (h : x ≤ 2 ^ k + 1) (hj : k + 2 ≤ 24 * j) : x.natAbs < 16777216 ^ j := by
 rw [lpow_two]
 exact nat_le_pow h0 h hj
theorem short_cn {x : Int} {k j : Nat} (h0 : 0 ≤ x) (h : x ≤ 2 ^ k + 1) (hj : k + 2 ≤ 24 * j) : (cn x).2.length ≤ j := by
 refine limbs_length_le (k := j) ?_
 rw [lpow_two]
 have c := pow_cast k
 have g1 : 1 ≤ (2 : Nat) ^ k := Nat.two_pow_pos _
 have g2 : (2 : Nat) ^ (k + 2) ≤ 2 ^ (24 * j) := Nat.pow_le_pow_right (by omega) hj
 rw [Nat.pow_add] at g2
 generalize (2 : Nat) ^ (24 * j) = q at *
 rw [← c] at h
 generalize (2 : Nat) ^ k = p at *
 omega
theorem l03Root {s : Int} {l : List Int} {e k : Int} (hw : isW s l = true) (hx : -5000 ≤ e ∧ e ≤ 5000) (hk : 0 ≤ k ∧ k ≤ 200) (hs : 0 ≤ wv s l) (hb : (blen (wv s l) : Int) + e ≤ 400) :
  Ev (fun f => spec_l03Root.f f s l e k) (dymk (rup (rcl (wv s l) e k)) (-k)) := by
 obtain ⟨hc0, hc1⟩ := rcl_bound hs hb hk.1
 have hc2 := Int.le_trans hc1 (twop_le (show (400 + 2 * k).toNat ≤ 800 from by omega))
 have hw1 : wrap64 (2 * k) = 2 * k := w64s (by omega) (by omega)
 have hw3 : wrap64 (-k) = -k := w64s (by omega) (by omega)
 have hce := l03Ceil hw hx (k := 2 * k) (by omega)
 have hce2 : Ev (fun f => spec_l03Ceil.f f s l e (2 * k)) (dymk (rcl (wv s l) e k) (-(2 * k))) := hce
 unfold spec_l03Root.f
 simp only [hw1, hw3]
 refine Ev.bind hce2 ?_
 clear hce hce2 hc1
 generalize rcl (wv s l) e k = C at hc0 hc2 ⊢
 by_cases hC : C = 0
 ·subst hC
  have e1 : dymk 0 (-(2 * k)) = (0, [], 0) := by rw [dymk, if_pos rfl]
  have e2 : iroot 0 = 0 := by
   have hi := iroot_spec (x := 0) (by omega)
   have := le_square hi.lo hi.le
   have := hi.lo
   omega
  have e3 : rup 0 = 0 := by unfold rup; rw [e2, if_neg (by omega)]
  have e4 : dymk 0 (-k) = (0, [], 0) := by rw [dymk, if_pos rfl]
  rw [e1, e3, e4]
  exact Ev.now _
 ·have e1 : dymk C (-(2 * k)) = ((cn (oddp C)).1, (cn (oddp C)).2, -(2 * k) + tz C) := by rw [dymk, if_neg hC, oddp_cn hC]
  have ht : tz C ≤ 900 := by
   have := tz_lt hC (nat_le_pow (k := 800) (m := 802) hc0 (Int.le_trans hc2 (by omega)) (by omega))
   omega
  have hodd : oddp C * 2 ^ tz C = C := by
   unfold oddp
   exact Int.ediv_mul_cancel (tz_dvd hC)
  have hne : (cn (oddp C)).1 ≠ 0 := by
   intro h
   have h2 : sgn (oddp C) = 0 := h
   have h3 : oddp C = 0 := by
    unfold sgn at h2
    repeat' split at h2
    all_goals omega
   rw [h3, Int.zero_mul] at hodd
   exact hC hodd.symm
  have hol : (limbs (oddp C).natAbs).length ≤ 200 := by
   have hle : (oddp C).natAbs ≤ C.natAbs := by unfold oddp; exact Int.natAbs_ediv_le_natAbs _ _
   refine limbs_length_le (Nat.lt_of_le_of_lt hle ?_)
   exact nat_le_lpow (k := 800) hc0 (Int.le_trans hc2 (by omega)) (by omega)
  have hsum : wrap64 (-(2 * k) + (tz C : Int) + 2 * k) = (tz C : Int) := by rw [w64s (by omega) (by omega)]; omega
  rw [e1]
  simp only [if_neg hne, hsum]
  have hleft := l02Left (cw_cn (oddp C)) (Nat.le_trans hol (by omega)) (k := tz C) (by omega)
  rw [wv_cn, hodd] at hleft
  refine Ev.bind hleft ?_
  have hlC := short_cn (k := 800) (j := 34) hc0 (by omega) (by omega)
  have hWC : isW (cn C).1 (cn C).2 = true := cw_isW (cw_cn C) (Nat.le_trans hlC (by omega))
  have hroot := l02Root hWC (by rw [wv_cn]; exact hc0)
  rw [wv_cn] at hroot
  refine Ev.bind hroot ?_
  have hi := iroot_spec hc0
  have hi0 := hi.lo
  have hile := le_square hi.lo hi.le
  have hlI := short_cn (k := 800) (j := 34) hi.lo (by omega) (by omega)
  have hmul := l02Mul (cw_cn (iroot C)) (cw_cn (iroot C)) (Nat.le_trans hlI (by omega)) (Nat.le_trans hlI (by omega))
  rw [wv_cn] at hmul
  refine Ev.bind hmul ?_
  have hsq := hi.le
  have hsq0 := Int.mul_nonneg hi0 hi0
  have hlS := short_cn (k := 800) (j := 34) hsq0 (by omega) (by omega)
  have hcmp := l02Compare (cw_cn (iroot C * iroot C)) (cw_cn C) (Nat.le_trans hlS (by omega)) (Nat.le_trans hlC (by omega))
  rw [wv_cn, wv_cn] at hcmp
  refine Ev.bind hcmp ?_
  have hsg : (sgn (iroot C * iroot C - C) < 0) ↔ iroot C * iroot C < C := by
   unfold sgn
   generalize iroot C * iroot C = q
   repeat' split
   all_goals omega
  unfold rup
  by_cases hlt : iroot C * iroot C < C
  ·simp only [if_pos hlt, if_pos (hsg.2 hlt)]
   refine Ev.bind (l02Of (x := 1) (by omega) (by omega)) ?_
   have hadd := l02Add (cw_cn (iroot C)) (cw_cn 1) (Nat.le_trans hlI (by omega)) (Nat.le_trans (short_cn (x := 1) (k := 0) (j := 1) (by omega) (by omega) (by omega)) (by omega))
   rw [wv_cn, wv_cn] at hadd
   refine Ev.bind hadd ?_
   have hl1 := short_cn (x := iroot C + 1) (k := 800) (j := 34) (by omega) (by omega) (by omega)
   have hm := l03Make (cw_cn (iroot C + 1)) (Nat.le_trans hl1 (by omega)) (-k) (by omega) (by omega)
   rw [wv_cn] at hm
   exact Ev.bind (f := fun _ bt => some (bt.1, bt.2.1, bt.2.2)) hm (Ev.now _)
  ·simp only [if_neg hlt, if_neg (fun h => hlt (hsg.1 h))]
   have hm := l03Make (cw_cn (iroot C)) (Nat.le_trans hlI (by omega)) (-k) (by omega) (by omega)
   rw [wv_cn] at hm
   exact Ev.bind (f := fun _ bt => some (bt.1, bt.2.1, bt.2.2)) hm (Ev.now _)
theorem rup_small {n e k : Int} (h0 : 0 ≤ n) (hb : (blen n : Int) + e ≤ 400) (hk : 0 ≤ k ∧ k ≤ 200) : (limbs (oddp (rup (rcl n e k))).natAbs).length ≤ 1000000000 := by
 obtain ⟨hc0, hc1⟩ := rcl_bound h0 hb hk.1
 have hc2 := Int.le_trans hc1 (twop_le (show (400 + 2 * k).toNat ≤ 800 from by omega))
 generalize rcl n e k = C at hc0 hc2 ⊢
 have hi := iroot_spec hc0
 have hi0 := hi.lo
 have hile := le_square hi.lo hi.le
 have hr : 0 ≤ rup C ∧ rup C ≤ 2 ^ 800 + 1 := by
  unfold rup
  generalize (2 : Int) ^ 800 = p at *
  split <;> omega
 have hle : (oddp (rup C)).natAbs ≤ (rup C).natAbs := by unfold oddp; exact Int.natAbs_ediv_le_natAbs _ _
 refine Nat.le_trans (limbs_length_le (k := 200) (Nat.lt_of_le_of_lt hle ?_)) (by omega)
 exact nat_le_lpow (k := 800) hr.1 hr.2 (by omega)
theorem specRootAbove (s : Int) (l : List Int) (e k : Int) (hl : l.length ≤ 1000000000) : Ev (fun f => spec_RootAbove.f f s l e k) (abres s l e k) := by
 unfold spec_RootAbove.f
 refine Ev.bind (l03Range s l e k 0 200 hl) ?_
 unfold abres
 by_cases hc : rcode s l e k 0 200 = 0
 ·obtain ⟨hd, hk⟩ := rcode_ok hc
  simp only [if_pos hc]
  have hw := isD_isW hd
  have hx := isD_exp hd
  by_cases hs : s < 0
  ·simp only [if_pos hs, if_pos (Or.inl hs : s < 0 ∨ 400 < (blen (wv s l) : Int) + e)]
   refine Ev.step (fun k => by rw [spec_RootAbove.j0, if_pos rfl]) ?_
   exact Ev.step (fun k => by rw [spec_RootAbove.j1, if_neg (by omega)]) (Ev.now _)
  ·simp only [if_neg hs]
   refine Ev.bind (l02Length (isW_cw hw) hl) ?_
   have hbl : blen (wv s l) ≤ 4800 := (isW_lek hw (k := 4800) rfl).2
   have hwr : wrap64 ((blen (wv s l) : Int) + e) = (blen (wv s l) : Int) + e := w64s (by omega) (by omega)
   rw [hwr]
   have h0 : 0 ≤ wv s l := by
    unfold wv
    rw [if_neg hs]
    exact lv_nonneg (isW_okl hw)
   by_cases hb : 400 < (blen (wv s l) : Int) + e
   ·rw [if_pos (Or.inr hb)]
    refine Ev.step (fun k => by rw [spec_RootAbove.j0, if_pos (decide_eq_true hb)]) ?_
    exact Ev.step (fun k => by rw [spec_RootAbove.j1, if_neg (by omega)]) (Ev.now _)
   ·rw [if_neg (fun h => h.elim hs hb)]
    refine Ev.step (fun k => by rw [spec_RootAbove.j0, if_neg (by simpa using hb)]) ?_
    refine Ev.step (fun k => by rw [spec_RootAbove.j1, if_pos hc]) ?_
    refine Ev.bind (l03Root hw hx hk h0 (by omega)) ?_
    exact Ev.bind (f := fun _ bt => some (bt.1, bt.2.1, bt.2.2.1, bt.2.2.2)) (l03Fit _ _ (rup_small (e := e) h0 (by omega) hk)) (Ev.now _)
 ·simp only [if_neg hc]
  refine Ev.step (fun k => by rw [spec_RootAbove.j0, if_neg (by simp)]) ?_
  exact Ev.step (fun k => by rw [spec_RootAbove.j1, if_neg hc]) (Ev.now _)
theorem implRootAbove (s : Int) (l : List Int) (ed : Int) (a : Int) (hl : l.length ≤ 1000000000) : impl_RootAbove.f s l ed a = some (abres s l ed a) := by
 unfold impl_RootAbove.f
 rw [if_pos hl]
theorem ev_one {α : Type} {F : Nat → Option α} {r : α} (h : Ev F r) : ∃ k, F k = some r := let ⟨K, hK⟩ := h; ⟨K, hK K (Nat.le_refl K)⟩
theorem callsRootAbove (s : Int) (A : Option Addr) (c : Nat) (l : List Int) (e a : Int) (w : World) (hr : Kd.C (Kd.int .i64) w A l.length l) (hc : l.length ≤ c) (hl : l.length ≤ maxLen) (ha : (Lit.int .i64 a).wf = true) (hT : Tab w) :
  Calls Tryd.prog 10 #[.agg #[.int .i64 s, .slice A l.length c, .int .i64 e], .int .i64 a] w fun x w' => x = .returned (.bool true) ∧ Below w.heap.size w w' := by
 obtain ⟨r1, r2, r3, r4, hR⟩ : ∃ r1 r2 r3 r4, abres s l e a = (r1, r2, r3, r4) := ⟨_, _, _, _, rfl⟩
 have hq := abres_length s l e a
 rw [hR] at hq
 simp only at hq
 refine walk_RootAbove s A c l e a r1 r2 r3 r4 (1 + l.length) (marks 1 l.length) (1 + r2.length) (marks 1 r2.length) _ w hr hc hT (szDyadic s l e 1048576 (by omega) (by omega) hl) (fun hz => ?_)
 have hn : l.length ≤ 1048576 := by split at hz <;> omega
 exact
  {f0 := ev_one (toDyadic s l e hn)
   f1 := by rw [← hR]; exact ev_one (specRootAbove s l e a (by omega))
   f2 := by rw [implRootAbove s l e a (by omega), hR]
   f3 := ev_one (eqDyadic _ _ _ (by omega))
   f4 := ev_one (eqDyadic s l e hn)
   f5 := ev_one (markDyadic s l e 1 (by omega) (by omega) (by omega))
   f6 := by omega
   f7 := marks_length _ _
   f8 := ev_one (markDyadic _ _ _ 1 (by omega) (by omega) (by omega))
   f9 := by omega
   f10 := marks_length _ _
   f11 := ev_one (heldDyadic _ _ _ 1 (by omega) (by omega) (by omega)) }
end Go.Proofs.YtghhphndbbefjaaDoor.Pur
