/- The law FnExactAddExacts: it answers true at every argument. -/
import Derived.Test.YtghhphndbbefjaaDoorPurE
import Derived.Test.YtghhphndbbefjaaDoorG32
import Derived.Test.YtghhphndbbefjaaDoorX5
import Derived.Test.YtghhphndbbefjaaDoorG15
import Derived.Test.YtghhphndbbefjaaDoorG14
namespace Go.Proofs.YtghhphndbbefjaaDoor.Pur
open Go.RowKit Go.Proofs.YtghhphndbbefjaaDoor Go.Proofs.YtghhphndbbefjaaDoor.Big Go.Proofs.YtghhphndbbefjaaDoor.X Go.Proofs.YtghhphndbbefjaaDoorW.PrintWords Go.Proofs.YtghhphndbbefjaaDoorW.PrintLast Go.Proofs.YtghhphndbbefjaaDoor.Math
set_option linter.unusedVariables false
set_option linter.unusedSimpArgs false
theorem exfit_length (V p U q : Int) : (exfit V p U q).2.1.length ≤ 200 ∧ (exfit V p U q).2.2.2.2.1.length ≤ 200 := by
 unfold exfit
 cases h1 : fits V p
 ·simp
 ·cases h2 : fits U q
  ·simp
  ·have a := dyfit_length V p
   have b := dyfit_length U q
   rw [dyfit_mk h1] at a
   rw [dyfit_mk h2] at b
   exact ⟨a, b⟩
theorem adres_length (s : Int) (l : List Int) (e t : Int) (m : List Int) (f : Int) (s' : Int) (l' : List Int) (e' t' : Int) (m' : List Int) (f' : Int) :
  (adres s l e t m f s' l' e' t' m' f').2.1.length ≤ 200 ∧ (adres s l e t m f s' l' e' t' m' f').2.2.2.2.1.length ≤ 200 := by
 unfold adres
 split
 ·exact exfit_length _ _ _ _
 ·simp
theorem dymk_len {V p : Int} {u : Nat} (hb : V.natAbs < 16777216 ^ u) (hu : u ≤ 1000000) : (dymk V p).2.1.length ≤ 1000000000 := by
 by_cases hV : V = 0
 ·subst hV
  rw [dymk_zero]
  simp
 ·rw [dymk, if_neg hV]
  exact odd_len hb (by omega)
theorem fitPair {V p U q : Int} {u : Nat} (h : V.natAbs < 16777216 ^ u) (g : U.natAbs < 16777216 ^ u) (hu : u ≤ 1000000) :
  Ev (fun k => spec_l03FitPair.f k (dymk V p).1 (dymk V p).2.1 (dymk V p).2.2 (dymk U q).1 (dymk U q).2.1 (dymk U q).2.2) (exfit V p U q) := by
 unfold spec_l03FitPair.f exfit
 refine Ev.bind (l03Pair _ _ _ _ _ _ (dymk_len h hu) (dymk_len g hu)) ?_
 rw [← fits_isD, ← fits_isD]
 cases fits V p && fits U q
 ·exact Ev.now _
 ·exact Ev.now _
theorem specAddExacts (s : Int) (l : List Int) (e t : Int) (m : List Int) (f : Int) (s' : Int) (l' : List Int) (e' t' : Int) (m' : List Int) (f' : Int) (hl : l.length ≤ 1000000000) (hm : m.length ≤ 1000000000) (hl' : l'.length ≤ 1000000000) (hm' : m'.length ≤ 1000000000) :
  Ev (fun k => spec_AddExacts.f k s l e t m f s' l' e' t' m' f') (adres s l e t m f s' l' e' t' m' f') := by
 unfold spec_AddExacts.f adres
 refine Ev.bind (l03Pair s l e t m f hl hm) ?_
 cases hd : isD s l e && isD t m f
 ·simp only [Bool.false_eq_true, if_false, Bool.false_and]
  exact Ev.step (fun k => by rw [spec_AddExacts.j0, if_pos rfl]) (Ev.now _)
 ·simp only [if_true, Bool.true_and]
  refine Ev.bind (l03Pair s' l' e' t' m' f' hl' hm') ?_
  cases hd' : isD s' l' e' && isD t' m' f'
  ·simp only [Bool.false_eq_true, if_false, Bool.not_false]
   exact Ev.step (fun k => by rw [spec_AddExacts.j0, if_pos rfl]) (Ev.now _)
  ·simp only [if_true, Bool.not_true]
   simp only [Bool.and_eq_true] at hd hd'
   refine Ev.step (fun k => by rw [spec_AddExacts.j0, if_neg (by simp)]) ?_
   have a1 := l03Add (isD_isW hd.1) (isD_isW hd'.1) (isD_exp hd.1) (isD_exp hd'.1)
   have a2 := l03Add (isD_isW hd.2) (isD_isW hd'.2) (isD_exp hd.2) (isD_exp hd'.2)
   obtain ⟨u1, hu1, b1⟩ := sum_bound (wv_bound (isD_isW hd.1)) (wv_bound (isD_isW hd'.1)) (isD_exp hd.1) (isD_exp hd'.1)
   obtain ⟨u2, hu2, b2⟩ := sum_bound (wv_bound (isD_isW hd.2)) (wv_bound (isD_isW hd'.2)) (isD_exp hd.2) (isD_exp hd'.2)
   obtain rfl : u2 = u1 := by omega
   have hp : Ev (fun k => spec_l03Plus.f k s l e t m f s' l' e' t' m' f') ((dymk (wv s l * 2 ^ (e - mn e e').toNat + wv s' l' * 2 ^ (e' - mn e e').toNat) (mn e e')).1, (dymk (wv s l * 2 ^ (e - mn e e').toNat + wv s' l' * 2 ^ (e' - mn e e').toNat) (mn e e')).2.1, (dymk (wv s l * 2 ^ (e - mn e e').toNat + wv s' l' * 2 ^ (e' - mn e e').toNat) (mn e e')).2.2,
     (dymk (wv t m * 2 ^ (f - mn f f').toNat + wv t' m' * 2 ^ (f' - mn f f').toNat) (mn f f')).1, (dymk (wv t m * 2 ^ (f - mn f f').toNat + wv t' m' * 2 ^ (f' - mn f f').toNat) (mn f f')).2.1, (dymk (wv t m * 2 ^ (f - mn f f').toNat + wv t' m' * 2 ^ (f' - mn f f').toNat) (mn f f')).2.2) := by
    unfold spec_l03Plus.f
    refine Ev.bind a1 ?_
    refine Ev.bind a2 ?_
    exact Ev.now _
   refine Ev.bind hp ?_
   exact Ev.bind (f := fun _ bt => some (bt.1, bt.2.1, bt.2.2.1, bt.2.2.2.1, bt.2.2.2.2.1, bt.2.2.2.2.2.1, bt.2.2.2.2.2.2)) (fitPair b1 b2 (by omega)) (Ev.now _)
theorem implAddExacts (s : Int) (l : List Int) (e t : Int) (m : List Int) (f : Int) (s' : Int) (l' : List Int) (e' t' : Int) (m' : List Int) (f' : Int) (hl : l.length ≤ 1000000000) (hm : m.length ≤ 1000000000) (hl' : l'.length ≤ 1000000000) (hm' : m'.length ≤ 1000000000) :
  impl_AddExacts.f s l e t m f s' l' e' t' m' f' = some (adres s l e t m f s' l' e' t' m' f') := by
 unfold impl_AddExacts.f
 rw [if_pos ⟨hl, hm, hl', hm'⟩]
theorem callsAddExacts (s : Int) (A : Option Addr) (c : Nat) (l : List Int) (e t : Int) (B : Option Addr) (d : Nat) (m : List Int) (f : Int) (s' : Int) (A' : Option Addr) (c' : Nat) (l' : List Int) (e' t' : Int) (B' : Option Addr) (d' : Nat) (m' : List Int) (f' : Int) (w : World)
  (hr : Kd.C (Kd.int .i64) w A l.length l) (hc : l.length ≤ c) (hl : l.length ≤ maxLen) (hs : Kd.C (Kd.int .i64) w B m.length m) (hd : m.length ≤ d) (hm : m.length ≤ maxLen) (hr' : Kd.C (Kd.int .i64) w A' l'.length l') (hc' : l'.length ≤ c') (hl' : l'.length ≤ maxLen) (hs' : Kd.C (Kd.int .i64) w B' m'.length m') (hd' : m'.length ≤ d') (hm' : m'.length ≤ maxLen) (hT : Tab w) :
  Calls Tryd.prog 7 #[.agg #[.int .i64 s, .slice A l.length c, .int .i64 e, .int .i64 t, .slice B m.length d, .int .i64 f], .agg #[.int .i64 s', .slice A' l'.length c', .int .i64 e', .int .i64 t', .slice B' m'.length d', .int .i64 f']] w fun x w' => x = .returned (.bool true) ∧ Below w.heap.size w w' := by
 obtain ⟨r1, r2, r3, r4, r5, r6, r7, hR⟩ : ∃ r1 r2 r3 r4 r5 r6 r7, adres s l e t m f s' l' e' t' m' f' = (r1, r2, r3, r4, r5, r6, r7) := ⟨_, _, _, _, _, _, _, rfl⟩
 have hq := adres_length s l e t m f s' l' e' t' m' f'
 rw [hR] at hq
 simp only at hq
 obtain ⟨hq1, hq2⟩ := hq
 obtain ⟨z, hz, hz2⟩ := szExact s l e t m f 1048576 (by omega) (by omega) hl hm
 obtain ⟨z', hz', hz2'⟩ : ∃ z', (0 ≤ z → laws_szExact.f s' l' e' t' m' f' z = some z') ∧ (0 ≤ z' → 0 ≤ z ∧ (l'.length : Int) + m'.length ≤ z) := by
  by_cases h0 : 0 ≤ z
  ·have h1 := hz2 h0
   obtain ⟨z', a, b⟩ := szExact s' l' e' t' m' f' z h0 (by omega) hl' hm'
   exact ⟨z', fun _ => a, fun h => ⟨h0, (b h).2⟩⟩
  ·exact ⟨-1, fun h => absurd h h0, fun h => by omega⟩
 refine walk_AddExacts s A c l e t B d m f s' A' c' l' e' t' B' d' m' f' r1 r2 r3 r4 r5 r6 r7 (1 + l.length + m.length) (marks 1 l.length) (marks (1 + l.length) m.length) (1 + l.length + m.length + l'.length + m'.length) (marks (1 + l.length + m.length) l'.length) (marks (1 + l.length + m.length + l'.length) m'.length)
  (1 + r2.length + r5.length) (marks 1 r2.length) (marks (1 + r2.length) r5.length) z z' w hr hc hs hd hr' hc' hs' hd' hT hz hz' (fun h0 => ?_)
 obtain ⟨g0, g1⟩ := hz2' h0
 obtain ⟨g2, hn⟩ := hz2 g0
 have hn1 : l.length ≤ 1048576 := by omega
 have hn2 : m.length ≤ 1048576 := by omega
 have hn3 : l'.length ≤ 1048576 := by omega
 have hn4 : m'.length ≤ 1048576 := by omega
 exact
  {f0 := ev_one (toExact s l e t m f hn1 hn2)
   f1 := ev_one (toExact s' l' e' t' m' f' hn3 hn4)
   f2 := by rw [← hR]; exact ev_one (specAddExacts s l e t m f s' l' e' t' m' f' (by omega) (by omega) (by omega) (by omega))
   f3 := by rw [implAddExacts s l e t m f s' l' e' t' m' f' (by omega) (by omega) (by omega) (by omega), hR]
   f4 := ev_one (eqExact _ _ _ _ _ _ (by omega) (by omega))
   f5 := ev_one (eqExact s l e t m f hn1 hn2)
   f6 := ev_one (eqExact s' l' e' t' m' f' hn3 hn4)
   f7 := ev_one (markExact s l e t m f 1 (by omega) (by omega) hn1 hn2)
   f8 := by omega
   f9 := marks_length _ _
   f10 := marks_length _ _
   f11 := ev_one (markExact s' l' e' t' m' f' (1 + l.length + m.length) (by omega) (by omega) hn3 hn4)
   f12 := by omega
   f13 := marks_length _ _
   f14 := marks_length _ _
   f15 := ev_one (markExact _ _ _ _ _ _ 1 (by omega) (by omega) (by omega) (by omega))
   f16 := by omega
   f17 := marks_length _ _
   f18 := marks_length _ _
   f19 := ev_one (heldExact _ _ _ _ _ _ 1 (by omega) (by omega) (by omega) (by omega)) }
end Go.Proofs.YtghhphndbbefjaaDoor.Pur
