/- The law FnExactMultiplyExacts: it answers true at every argument. -/
import Derived.Test.YtghhphndbbefjaaDoorPurE
import Derived.Test.YtghhphndbbefjaaDoorWkMultiplyExacts
import Derived.Test.YtghhphndbbefjaaDoorG33
import Derived.Test.YtghhphndbbefjaaDoorG16
import Derived.Test.YtghhphndbbefjaaDoorG32
namespace Go.Proofs.YtghhphndbbefjaaDoor.Pur
open Go.RowKit Go.Proofs.YtghhphndbbefjaaDoor Go.Proofs.YtghhphndbbefjaaDoor.Big Go.Proofs.YtghhphndbbefjaaDoor.X Go.Proofs.YtghhphndbbefjaaDoorW.PrintWords Go.Proofs.YtghhphndbbefjaaDoorW.PrintLast Go.Proofs.YtghhphndbbefjaaDoor.Math
set_option linter.unusedVariables false
set_option linter.unusedSimpArgs false
theorem exfit_length (V p U q : Int) : (exfit V p U q).2.1.length ≤ 200 ∧ (exfit V p U q).2.2.2.2.1.length ≤ 200 := by
  unfold exfit
  cases h1 : fits V p
  · simp
  · cases h2 : fits U q
    · simp
    · have a := dyfit_length V p
      have b := dyfit_length U q
      rw [dyfit_mk h1] at a
      rw [dyfit_mk h2] at b
      exact ⟨a, b⟩
theorem mures_length (s : Int) (l : List Int) (e t : Int) (m : List Int) (f : Int) (s' : Int) (l' : List Int) (e' t' : Int) (m' : List Int) (f' : Int) :
    (mures s l e t m f s' l' e' t' m' f').2.1.length ≤ 200 ∧ (mures s l e t m f s' l' e' t' m' f').2.2.2.2.1.length ≤ 200 := by
  unfold mures
  split
  · split
    · exact exfit_length _ _ _ _
    · simp
  · simp
theorem dymk_len {V p : Int} {u : Nat} (hb : V.natAbs < 16777216 ^ u) (hu : u ≤ 1000000) : (dymk V p).2.1.length ≤ 1000000000 := by
  by_cases hV : V = 0
  · subst hV
    rw [dymk_zero]
    simp
  · rw [dymk, if_neg hV]
    exact odd_len hb (by omega)
theorem fitPair {V p U q : Int} {u : Nat} (h : V.natAbs < 16777216 ^ u) (g : U.natAbs < 16777216 ^ u) (hu : u ≤ 1000000) :
    Ev (fun k => spec_l03FitPair.f k (dymk V p).1 (dymk V p).2.1 (dymk V p).2.2 (dymk U q).1 (dymk U q).2.1 (dymk U q).2.2) (exfit V p U q) := by
  unfold spec_l03FitPair.f exfit
  refine Ev.bind (l03Pair _ _ _ _ _ _ (dymk_len h hu) (dymk_len g hu)) ?_
  rw [← fits_isD, ← fits_isD]
  cases fits V p && fits U q
  · exact Ev.now _
  · exact Ev.now _
theorem tz_opp (n : Int) : tz (-n) = tz n := by unfold tz; rw [Int.natAbs_neg]
theorem oddp_opp (n : Int) : oddp (-n) = -oddp n := by
  by_cases h : n = 0
  · subst h
    simp [oddp]
  · unfold oddp
    rw [tz_opp, Int.neg_ediv_of_dvd (tz_dvd h)]
theorem dymk_opp (U q : Int) : (dymk (-U) q).2.2 = (dymk U q).2.2 := by
  by_cases h : U = 0
  · subst h
    rfl
  · rw [dymk, dymk, if_neg h, if_neg (by omega), tz_opp]
theorem sub_norm (V p U q : Int) : dymk (oddp V * 2 ^ ((dymk V p).2.2 - mn (dymk V p).2.2 (dymk U q).2.2).toNat - oddp U * 2 ^ ((dymk U q).2.2 - mn (dymk V p).2.2 (dymk U q).2.2).toNat) (mn (dymk V p).2.2 (dymk U q).2.2)
    = dymk (V * 2 ^ (p - mn p q).toNat - U * 2 ^ (q - mn p q).toNat) (mn p q) := by
  have h := add_norm V p (-U) q
  rw [oddp_opp, dymk_opp, Int.neg_mul, Int.neg_mul, ← Int.sub_eq_add_neg, ← Int.sub_eq_add_neg] at h
  exact h
theorem sub_bound {n m : Int} {u : Nat} (h : n.natAbs < 16777216 ^ u) (g : m.natAbs < 16777216 ^ u) : (n - m).natAbs < 16777216 ^ (u + 1) := by
  rw [Int.sub_eq_add_neg]
  exact add_bound h (by rw [Int.natAbs_neg]; exact g)
theorem specTimes (s : Int) (l : List Int) (e t : Int) (m : List Int) (f : Int) (s' : Int) (l' : List Int) (e' t' : Int) (m' : List Int) (f' : Int) (hd : isD s l e = true ∧ isD t m f = true) (hd' : isD s' l' e' = true ∧ isD t' m' f' = true)
    (h1 : fits (wv s l * wv s' l') (e + e') = true) (h2 : fits (wv t m * wv t' m') (f + f') = true) (h3 : fits (wv s l * wv t' m') (e + f') = true) (h4 : fits (wv t m * wv s' l') (f + e') = true) :
    Ev (fun k => spec_l03Times.f k s l e t m f s' l' e' t' m' f')
      ((dymk (wv s l * wv s' l' * 2 ^ (e + e' - mn (e + e') (f + f')).toNat - wv t m * wv t' m' * 2 ^ (f + f' - mn (e + e') (f + f')).toNat) (mn (e + e') (f + f'))).1,
       (dymk (wv s l * wv s' l' * 2 ^ (e + e' - mn (e + e') (f + f')).toNat - wv t m * wv t' m' * 2 ^ (f + f' - mn (e + e') (f + f')).toNat) (mn (e + e') (f + f'))).2.1,
       (dymk (wv s l * wv s' l' * 2 ^ (e + e' - mn (e + e') (f + f')).toNat - wv t m * wv t' m' * 2 ^ (f + f' - mn (e + e') (f + f')).toNat) (mn (e + e') (f + f'))).2.2,
       (dymk (wv s l * wv t' m' * 2 ^ (e + f' - mn (e + f') (f + e')).toNat + wv t m * wv s' l' * 2 ^ (f + e' - mn (e + f') (f + e')).toNat) (mn (e + f') (f + e'))).1,
       (dymk (wv s l * wv t' m' * 2 ^ (e + f' - mn (e + f') (f + e')).toNat + wv t m * wv s' l' * 2 ^ (f + e' - mn (e + f') (f + e')).toNat) (mn (e + f') (f + e'))).2.1,
       (dymk (wv s l * wv t' m' * 2 ^ (e + f' - mn (e + f') (f + e')).toNat + wv t m * wv s' l' * 2 ^ (f + e' - mn (e + f') (f + e')).toNat) (mn (e + f') (f + e'))).2.2) := by
  have m1 := l03Mul (isD_isW hd.1) (isD_isW hd'.1) (isD_exp hd.1) (isD_exp hd'.1)
  have m2 := l03Mul (isD_isW hd.2) (isD_isW hd'.2) (isD_exp hd.2) (isD_exp hd'.2)
  have m3 := l03Mul (isD_isW hd.1) (isD_isW hd'.2) (isD_exp hd.1) (isD_exp hd'.2)
  have m4 := l03Mul (isD_isW hd.2) (isD_isW hd'.1) (isD_exp hd.2) (isD_exp hd'.1)
  rw [fits_isD] at h1 h2 h3 h4
  have ha := l03Sub (isD_isW h1) (isD_isW h2) (isD_exp h1) (isD_exp h2)
  rw [wv_dymk, wv_dymk, sub_norm] at ha
  have hb := l03Add (isD_isW h3) (isD_isW h4) (isD_exp h3) (isD_exp h4)
  rw [wv_dymk, wv_dymk, add_norm] at hb
  unfold spec_l03Times.f
  refine Ev.bind m1 ?_
  refine Ev.bind m2 ?_
  refine Ev.bind ha ?_
  refine Ev.bind m3 ?_
  refine Ev.bind m4 ?_
  refine Ev.bind hb ?_
  exact Ev.now _
theorem specMultiplyExacts (s : Int) (l : List Int) (e t : Int) (m : List Int) (f : Int) (s' : Int) (l' : List Int) (e' t' : Int) (m' : List Int) (f' : Int) (hl : l.length ≤ 1000000000) (hm : m.length ≤ 1000000000) (hl' : l'.length ≤ 1000000000) (hm' : m'.length ≤ 1000000000) :
    Ev (fun k => spec_MultiplyExacts.f k s l e t m f s' l' e' t' m' f') (mures s l e t m f s' l' e' t' m' f') := by
  unfold spec_MultiplyExacts.f mures
  refine Ev.bind (l03Pair s l e t m f hl hm) ?_
  cases hd : isD s l e && isD t m f
  · simp only [Bool.false_eq_true, if_false, Bool.false_and]
    exact Ev.step (fun k => by rw [spec_MultiplyExacts.j0, if_pos rfl]) (Ev.now _)
  simp only [if_true, Bool.true_and]
  refine Ev.bind (l03Pair s' l' e' t' m' f' hl' hm') ?_
  cases hd' : isD s' l' e' && isD t' m' f'
  · simp only [Bool.false_eq_true, if_false, Bool.not_false]
    exact Ev.step (fun k => by rw [spec_MultiplyExacts.j0, if_pos rfl]) (Ev.now _)
  simp only [if_true, Bool.not_true]
  simp only [Bool.and_eq_true] at hd hd'
  have m1 := l03Mul (isD_isW hd.1) (isD_isW hd'.1) (isD_exp hd.1) (isD_exp hd'.1)
  have m2 := l03Mul (isD_isW hd.2) (isD_isW hd'.2) (isD_exp hd.2) (isD_exp hd'.2)
  have m3 := l03Mul (isD_isW hd.1) (isD_isW hd'.2) (isD_exp hd.1) (isD_exp hd'.2)
  have m4 := l03Mul (isD_isW hd.2) (isD_isW hd'.1) (isD_exp hd.2) (isD_exp hd'.1)
  obtain ⟨u, hu, b1⟩ := mul_bound (wv_bound (isD_isW hd.1)) (wv_bound (isD_isW hd'.1))
  obtain ⟨u2, hu2, b2⟩ := mul_bound (wv_bound (isD_isW hd.2)) (wv_bound (isD_isW hd'.2))
  obtain ⟨u3, hu3, b3⟩ := mul_bound (wv_bound (isD_isW hd.1)) (wv_bound (isD_isW hd'.2))
  obtain ⟨u4, hu4, b4⟩ := mul_bound (wv_bound (isD_isW hd.2)) (wv_bound (isD_isW hd'.1))
  obtain rfl : u2 = u := by omega
  obtain rfl : u3 = u2 := by omega
  obtain rfl : u4 = u3 := by omega
  have no : ∀ k, spec_MultiplyExacts.j1 (k + 1) true s l e t m f s' l' e' t' m' f' = some (0, ([] : List Int), 0, 0, ([] : List Int), 0, 3) := fun k => by rw [spec_MultiplyExacts.j1, if_pos rfl]
  refine Ev.step (fun k => by rw [spec_MultiplyExacts.j0, if_neg (by simp)]) ?_
  refine Ev.bind m1 ?_
  refine Ev.bind (l03Is _ _ _ (dymk_len b1 (by omega))) ?_
  rw [← fits_isD]
  cases hf1 : fits (wv s l * wv s' l') (e + e')
  · simp only [Bool.false_eq_true, if_false, Bool.false_and]
    exact Ev.step no (Ev.now _)
  simp only [if_true, Bool.true_and]
  refine Ev.bind m2 ?_
  refine Ev.bind (l03Is _ _ _ (dymk_len b2 (by omega))) ?_
  rw [← fits_isD]
  cases hf2 : fits (wv t m * wv t' m') (f + f')
  · simp only [Bool.false_eq_true, if_false, Bool.false_and]
    exact Ev.step no (Ev.now _)
  simp only [if_true, Bool.true_and]
  refine Ev.bind m3 ?_
  refine Ev.bind (l03Is _ _ _ (dymk_len b3 (by omega))) ?_
  rw [← fits_isD]
  cases hf3 : fits (wv s l * wv t' m') (e + f')
  · simp only [Bool.false_eq_true, if_false, Bool.false_and]
    exact Ev.step no (Ev.now _)
  simp only [if_true, Bool.true_and]
  refine Ev.bind m4 ?_
  refine Ev.bind (l03Is _ _ _ (dymk_len b4 (by omega))) ?_
  rw [← fits_isD]
  cases hf4 : fits (wv t m * wv s' l') (f + e')
  · simp only [Bool.false_eq_true, if_false, Bool.not_false]
    exact Ev.step no (Ev.now _)
  simp only [if_true, Bool.not_true]
  refine Ev.step (fun k => by rw [spec_MultiplyExacts.j1, if_neg (by simp)]) ?_
  refine Ev.bind (specTimes s l e t m f s' l' e' t' m' f' hd hd' hf1 hf2 hf3 hf4) ?_
  have hm2 := mn_le (e + e') (f + f')
  have hm3 := mn_le (e + f') (f + e')
  have x1 := isD_exp hd.1
  have x2 := isD_exp hd.2
  have x3 := isD_exp hd'.1
  have x4 := isD_exp hd'.2
  have c1 := sub_bound (shl_any (b := 834) b1 (show (e + e' - mn (e + e') (f + f')).toNat ≤ 24 * 834 from by omega)) (shl_any (b := 834) b2 (show (f + f' - mn (e + e') (f + f')).toNat ≤ 24 * 834 from by omega))
  have c2 := add_bound (shl_any (b := 834) b3 (show (e + f' - mn (e + f') (f + e')).toNat ≤ 24 * 834 from by omega)) (shl_any (b := 834) b4 (show (f + e' - mn (e + f') (f + e')).toNat ≤ 24 * 834 from by omega))
  exact Ev.bind (f := fun _ bt => some (bt.1, bt.2.1, bt.2.2.1, bt.2.2.2.1, bt.2.2.2.2.1, bt.2.2.2.2.2.1, bt.2.2.2.2.2.2)) (fitPair c1 c2 (by omega)) (Ev.now _)
theorem implMultiplyExacts (s : Int) (l : List Int) (e t : Int) (m : List Int) (f : Int) (s' : Int) (l' : List Int) (e' t' : Int) (m' : List Int) (f' : Int) (hl : l.length ≤ 1000000000) (hm : m.length ≤ 1000000000) (hl' : l'.length ≤ 1000000000) (hm' : m'.length ≤ 1000000000) :
    impl_MultiplyExacts.f s l e t m f s' l' e' t' m' f' = some (mures s l e t m f s' l' e' t' m' f') := by
  unfold impl_MultiplyExacts.f
  rw [if_pos ⟨hl, hm, hl', hm'⟩]
theorem callsMultiplyExacts (s : Int) (A : Option Addr) (c : Nat) (l : List Int) (e t : Int) (B : Option Addr) (d : Nat) (m : List Int) (f : Int) (s' : Int) (A' : Option Addr) (c' : Nat) (l' : List Int) (e' t' : Int) (B' : Option Addr) (d' : Nat) (m' : List Int) (f' : Int) (w : World)
    (hr : Kd.C (Kd.int .i64) w A l.length l) (hc : l.length ≤ c) (hl : l.length ≤ maxLen) (hs : Kd.C (Kd.int .i64) w B m.length m) (hd : m.length ≤ d) (hm : m.length ≤ maxLen) (hr' : Kd.C (Kd.int .i64) w A' l'.length l') (hc' : l'.length ≤ c') (hl' : l'.length ≤ maxLen) (hs' : Kd.C (Kd.int .i64) w B' m'.length m') (hd' : m'.length ≤ d') (hm' : m'.length ≤ maxLen) (hT : Tab w) :
    Calls Tryd.prog 9 #[.agg #[.int .i64 s, .slice A l.length c, .int .i64 e, .int .i64 t, .slice B m.length d, .int .i64 f], .agg #[.int .i64 s', .slice A' l'.length c', .int .i64 e', .int .i64 t', .slice B' m'.length d', .int .i64 f']] w fun x w' => x = .returned (.bool true) ∧ Below w.heap.size w w' := by
  obtain ⟨r1, r2, r3, r4, r5, r6, r7, hR⟩ : ∃ r1 r2 r3 r4 r5 r6 r7, mures s l e t m f s' l' e' t' m' f' = (r1, r2, r3, r4, r5, r6, r7) := ⟨_, _, _, _, _, _, _, rfl⟩
  have hq := mures_length s l e t m f s' l' e' t' m' f'
  rw [hR] at hq
  simp only at hq
  obtain ⟨hq1, hq2⟩ := hq
  obtain ⟨z, hz, hz2⟩ := szExact s l e t m f 1048576 (by omega) (by omega) hl hm
  obtain ⟨z', hz', hz2'⟩ : ∃ z', (0 ≤ z → laws_szExact.f s' l' e' t' m' f' z = some z') ∧ (0 ≤ z' → 0 ≤ z ∧ (l'.length : Int) + m'.length ≤ z) := by
    by_cases h0 : 0 ≤ z
    · have h1 := hz2 h0
      obtain ⟨z', a, b⟩ := szExact s' l' e' t' m' f' z h0 (by omega) hl' hm'
      exact ⟨z', fun _ => a, fun h => ⟨h0, (b h).2⟩⟩
    · exact ⟨-1, fun h => absurd h h0, fun h => by omega⟩
  refine walk_MultiplyExacts s A c l e t B d m f s' A' c' l' e' t' B' d' m' f' r1 r2 r3 r4 r5 r6 r7 (1 + l.length + m.length) (marks 1 l.length) (marks (1 + l.length) m.length) (1 + l.length + m.length + l'.length + m'.length) (marks (1 + l.length + m.length) l'.length) (marks (1 + l.length + m.length + l'.length) m'.length)
    (1 + r2.length + r5.length) (marks 1 r2.length) (marks (1 + r2.length) r5.length) z z' w hr hc hs hd hr' hc' hs' hd' hT hz hz' (fun h0 => ?_)
  obtain ⟨g0, g1⟩ := hz2' h0
  obtain ⟨g2, hn⟩ := hz2 g0
  have hn1 : l.length ≤ 1048576 := by omega
  have hn2 : m.length ≤ 1048576 := by omega
  have hn3 : l'.length ≤ 1048576 := by omega
  have hn4 : m'.length ≤ 1048576 := by omega
  exact
    { f0 := ev_one (toExact s l e t m f hn1 hn2)
      f1 := ev_one (toExact s' l' e' t' m' f' hn3 hn4)
      f2 := by rw [← hR]; exact ev_one (specMultiplyExacts s l e t m f s' l' e' t' m' f' (by omega) (by omega) (by omega) (by omega))
      f3 := by rw [implMultiplyExacts s l e t m f s' l' e' t' m' f' (by omega) (by omega) (by omega) (by omega), hR]
      f4 := ev_one (eqExact _ _ _ _ _ _ (by omega) (by omega))
      f5 := ev_one (eqExact s l e t m f hn1 hn2)
      f6 := ev_one (eqExact s' l' e' t' m' f' hn3 hn4)
      f7 := ev_one (markExact s l e t m f 1 (by omega) (by omega) hn1 hn2)
      f8 := by omega
      f9 := marks_length _ _
      f10 := marks_length _ _
      f11 := ev_one (markExact s' l' e' t' m' f' (1 + l.length + m.length) (by omega) (by omega) hn3 hn4)
      f12 := by omega
      f13 := marks_length _ _
      f14 := marks_length _ _
      f15 := ev_one (markExact _ _ _ _ _ _ 1 (by omega) (by omega) (by omega) (by omega))
      f16 := by omega
      f17 := marks_length _ _
      f18 := marks_length _ _
      f19 := ev_one (heldExact _ _ _ _ _ _ 1 (by omega) (by omega) (by omega) (by omega)) }
end Go.Proofs.YtghhphndbbefjaaDoor.Pur
