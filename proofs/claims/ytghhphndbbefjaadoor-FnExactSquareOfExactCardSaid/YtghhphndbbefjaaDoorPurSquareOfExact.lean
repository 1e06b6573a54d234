/- The law FnExactSquareOfExact: it answers true at every argument. -/
import Derived.Test.YtghhphndbbefjaaDoorPurE
import Derived.Test.YtghhphndbbefjaaDoorWkSquareOfExact
import Derived.Test.YtghhphndbbefjaaDoorG24
import Derived.Test.YtghhphndbbefjaaDoorDyF
namespace Go.Proofs.YtghhphndbbefjaaDoor.Pur
open Go.RowKit Go.Proofs.YtghhphndbbefjaaDoor Go.Proofs.YtghhphndbbefjaaDoor.Big Go.Proofs.YtghhphndbbefjaaDoor.X Go.Proofs.YtghhphndbbefjaaDoorW.PrintWords Go.Proofs.YtghhphndbbefjaaDoorW.PrintLast Go.Proofs.YtghhphndbbefjaaDoor.Math
set_option linter.unusedVariables false
set_option linter.unusedSimpArgs false
theorem sqres_length (s : Int) (l : List Int) (e t : Int) (m : List Int) (f : Int) : (sqres s l e t m f).2.1.length ≤ 200 := by
 unfold sqres
 split
 ·split
  ·exact dyfit_length _ _
  ·simp
 ·simp
theorem specSquareOfExact (s : Int) (l : List Int) (e t : Int) (m : List Int) (f : Int) (hl : l.length ≤ 1000000000) (hm : m.length ≤ 1000000000) : Ev (fun k => spec_SquareOfExact.f k s l e t m f) (sqres s l e t m f) := by
 unfold spec_SquareOfExact.f sqres
 refine Ev.bind (l03Pair s l e t m f hl hm) ?_
 cases hd : isD s l e && isD t m f
 ·exact Ev.now _
 ·simp only [if_true]
  simp only [Bool.and_eq_true] at hd
  have h1 := isD_isW hd.1
  have h2 := isD_isW hd.2
  have g1 := isD_exp hd.1
  have g2 := isD_exp hd.2
  have m1 := l03Mul h1 h1 g1 g1
  have m2 := l03Mul h2 h2 g2 g2
  have hlen : ∀ (u : Nat) (V p : Int), u ≤ 1000 → V.natAbs < 16777216 ^ u → (dymk V p).2.1.length ≤ 1000000000 := fun u V p hu hb => by
   by_cases hV : V = 0
   ·subst hV
    rw [dymk_zero]
    simp
   ·rw [dymk, if_neg hV]
    exact odd_len hb (by omega)
  obtain ⟨u1, hu1, b1⟩ := mul_bound (wv_bound h1) (wv_bound h1)
  obtain ⟨u2, hu2, b2⟩ := mul_bound (wv_bound h2) (wv_bound h2)
  obtain rfl : u2 = u1 := by omega
  refine Ev.bind m1 ?_
  refine Ev.bind (l03Is _ _ _ (hlen u2 _ _ (by omega) b1)) ?_
  rw [← fits_isD]
  cases hf1 : fits (wv s l * wv s l) (e + e)
  ·simp only [Bool.false_eq_true, if_false, Bool.false_and]
   exact Ev.step (fun k => by rw [spec_SquareOfExact.j0, if_pos rfl]) (Ev.now _)
  ·simp only [if_true, Bool.true_and]
   refine Ev.bind m2 ?_
   refine Ev.bind (l03Is _ _ _ (hlen u2 _ _ (by omega) b2)) ?_
   rw [← fits_isD]
   cases hf2 : fits (wv t m * wv t m) (f + f)
   ·simp only [Bool.false_eq_true, if_false, Bool.not_false]
    exact Ev.step (fun k => by rw [spec_SquareOfExact.j0, if_pos rfl]) (Ev.now _)
   ·simp only [if_true, Bool.not_true]
    refine Ev.step (fun k => by rw [spec_SquareOfExact.j0, if_neg (by simp)]) ?_
    have d1 := hf1
    have d2 := hf2
    rw [fits_isD] at d1 d2
    have ha := l03Add (isD_isW d1) (isD_isW d2) (isD_exp d1) (isD_exp d2)
    rw [wv_dymk, wv_dymk] at ha
    have hs : Ev (fun k => spec_l03Square.f k s l e t m f) (dymk (wv s l * wv s l * 2 ^ (e + e - mn (e + e) (f + f)).toNat + wv t m * wv t m * 2 ^ (f + f - mn (e + e) (f + f)).toNat) (mn (e + e) (f + f))) := by
     unfold spec_l03Square.f
     refine Ev.bind m1 ?_
     refine Ev.bind m2 ?_
     rw [← add_norm]
     exact Ev.bind (f := fun _ bt => some (bt.1, bt.2.1, bt.2.2)) ha (Ev.now _)
    have hfit : (limbs (oddp (wv s l * wv s l * 2 ^ (e + e - mn (e + e) (f + f)).toNat + wv t m * wv t m * 2 ^ (f + f - mn (e + e) (f + f)).toNat)).natAbs).length ≤ 1000000000 := by
     have hm2 := mn_le (e + e) (f + f)
     exact odd_len (j := u2 + 834 + 1) (add_bound (shl_any (b := 834) b1 (by omega)) (shl_any (b := 834) b2 (by omega))) (by omega)
    refine Ev.bind hs ?_
    exact Ev.bind (f := fun _ bt => some (bt.1, bt.2.1, bt.2.2.1, bt.2.2.2)) (l03Fit _ _ hfit) (Ev.now _)
theorem implSquareOfExact (s : Int) (l : List Int) (e t : Int) (m : List Int) (f : Int) (hl : l.length ≤ 1000000000) (hm : m.length ≤ 1000000000) : impl_SquareOfExact.f s l e t m f = some (sqres s l e t m f) := by
 unfold impl_SquareOfExact.f
 rw [if_pos ⟨hl, hm⟩]
theorem callsSquareOfExact (s : Int) (A : Option Addr) (c : Nat) (l : List Int) (e t : Int) (B : Option Addr) (d : Nat) (m : List Int) (f : Int) (w : World) (hr : Kd.C (Kd.int .i64) w A l.length l) (hc : l.length ≤ c) (hl : l.length ≤ maxLen) (hs : Kd.C (Kd.int .i64) w B m.length m) (hd : m.length ≤ d) (hm : m.length ≤ maxLen) (hT : Tab w) :
  Calls Tryd.prog 8 #[.agg #[.int .i64 s, .slice A l.length c, .int .i64 e, .int .i64 t, .slice B m.length d, .int .i64 f]] w fun x w' => x = .returned (.bool true) ∧ Below w.heap.size w w' := by
 obtain ⟨r1, r2, r3, r4, hR⟩ : ∃ r1 r2 r3 r4, sqres s l e t m f = (r1, r2, r3, r4) := ⟨_, _, _, _, rfl⟩
 have hq := sqres_length s l e t m f
 rw [hR] at hq
 simp only at hq
 obtain ⟨z, hz, hz2⟩ := szExact s l e t m f 1048576 (by omega) (by omega) hl hm
 refine walk_SquareOfExact s A c l e t B d m f r1 r2 r3 r4 (1 + l.length + m.length) (marks 1 l.length) (marks (1 + l.length) m.length) (1 + r2.length) (marks 1 r2.length) z w hr hc hs hd hT hz (fun h0 => ?_)
 obtain ⟨-, hn⟩ := hz2 h0
 have hn1 : l.length ≤ 1048576 := by omega
 have hn2 : m.length ≤ 1048576 := by omega
 exact
  {f0 := ev_one (toExact s l e t m f hn1 hn2)
   f1 := by rw [← hR]; exact ev_one (specSquareOfExact s l e t m f (by omega) (by omega))
   f2 := by rw [implSquareOfExact s l e t m f (by omega) (by omega), hR]
   f3 := ev_one (eqDyadic _ _ _ (by omega))
   f4 := ev_one (eqExact s l e t m f hn1 hn2)
   f5 := ev_one (markExact s l e t m f 1 (by omega) (by omega) hn1 hn2)
   f6 := by omega
   f7 := marks_length _ _
   f8 := marks_length _ _
   f9 := ev_one (markDyadic _ _ _ 1 (by omega) (by omega) (by omega))
   f10 := by omega
   f11 := marks_length _ _
   f12 := ev_one (heldDyadic _ _ _ 1 (by omega) (by omega) (by omega)) }
end Go.Proofs.YtghhphndbbefjaaDoor.Pur
