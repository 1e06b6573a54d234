/- What spec.l02Root answers at whole numbers that fit. -/
import Derived.Test.YtghhphndbbefjaaDoorPur2
import Derived.Test.YtghhphndbbefjaaDoorPurB
import Derived.Test.YtghhphndbbefjaaDoorMathN
import Derived.Test.YtghhphndbbefjaaDoorX5
namespace Go.Proofs.YtghhphndbbefjaaDoor.Pur
open Go.RowKit Go.Proofs.YtghhphndbbefjaaDoor Go.Proofs.YtghhphndbbefjaaDoor.Big Go.Proofs.YtghhphndbbefjaaDoor.X Go.Proofs.YtghhphndbbefjaaDoorW.PrintWords Go.Proofs.YtghhphndbbefjaaDoorW.PrintLast Go.Proofs.YtghhphndbbefjaaDoor.Math
set_option linter.unusedVariables false
set_option linter.unusedSimpArgs false
theorem pow_cast (k : Nat) : (((2 : Nat) ^ k : Nat) : Int) = 2 ^ k := by rw [Int.natCast_pow]; rfl
theorem pow_three {j k : Nat} (h : 24 * j = k + k + 24) : (16777216 : Nat) ^ j = 2 ^ k * 2 ^ k * 16777216 := by
 rw [lpow_two, h, Nat.pow_add, Nat.pow_add]
theorem small_any {n : Int} {k j : Nat} (hj : 24 * j = k + k + 24) (h0 : 0 ≤ n) (h : n ≤ 2 ^ k * 2 ^ k + 2 ^ k + 2 ^ k) : (cn n).2.length ≤ j := by
 refine limbs_length_le (k := j) ?_
 have c := pow_cast k
 have g1 : 1 ≤ (2 : Nat) ^ k := Nat.two_pow_pos _
 have g2 : (2 : Nat) ^ k ≤ 2 ^ k * 2 ^ k := Nat.le_mul_of_pos_left _ g1
 rw [pow_three hj]
 rw [← c, ← Int.natCast_mul] at h
 generalize (2 : Nat) ^ k * 2 ^ k = q at *
 generalize (2 : Nat) ^ k = p at *
 omega
theorem small_cn {n : Int} (h0 : 0 ≤ n) (h : n ≤ 2 ^ 4800 * 2 ^ 4800 + 2 ^ 4800 + 2 ^ 4800) : (cn n).2.length ≤ 1000000 :=
 Nat.le_trans (small_any (k := 4800) (j := 401) (by decide) h0 h) (by omega)
theorem le_square {a x : Int} (h0 : 0 ≤ a) (h : a * a ≤ x) : a ≤ x := by
 rcases (show 1 ≤ a ∨ a < 1 from by omega) with g | g
 ·have := Int.mul_le_mul_of_nonneg_right g h0
  omega
 ·have : a = 0 := by omega
  subst this
  omega
theorem specRoot_loop {s : Int} {l : List Int} (hw : isW s l = true) (hb : wv s l ≤ 2 ^ 4800) (j : Nat) : ∀ out, j ≤ 2401 → RootBits (wv s l) j out →
  Ev (fun f => spec_l02Root.l0 f ((j : Int) - 1) s l (cn out).1 (cn out).2 (cn (out * out)).1 (cn (out * out)).2 (cn 1).1 (cn 1).2) (cn (iroot (wv s l))) := by
 have hc := isW_cw hw
 have hlen := isW_len hw
 induction j with
 | zero =>
  intro out hj hr
  rw [← hr.done]
  exact Ev.step (g := fun _ => some ((cn out).1, (cn out).2)) (fun f => by simp only [spec_l02Root.l0]; rw [if_neg (by omega)]) (Ev.now _)
 | succ j ih =>
  intro out hj hr
  have hlo := hr.lo
  have hle := hr.le
  have hsq : 0 ≤ out * out := Int.mul_nonneg hlo hlo
  have hob := le_square hlo hle
  have p1 : (2 : Int) ^ (j + 1) ≤ 2 ^ 4800 := two_pow_le (by omega)
  have p2 : (2 : Int) ^ (2 * j) ≤ 2 ^ 4800 := two_pow_le (by omega)
  have p3 : (2 : Int) ^ j ≤ 2 ^ 4800 := two_pow_le (by omega)
  have q1 := two_pow_pos (j + 1)
  have q2 := two_pow_pos (2 * j)
  have q3 := two_pow_pos j
  have hm : out * 2 ^ (j + 1) ≤ 2 ^ 4800 * 2 ^ 4800 := Int.mul_le_mul (Int.le_trans hob hb) p1 (Int.le_of_lt q1) (Int.le_trans hlo (Int.le_trans hob hb))
  have hm0 : 0 ≤ out * 2 ^ (j + 1) := Int.mul_nonneg hlo (Int.le_of_lt q1)
  have big : (2 : Int) ^ 4800 ≤ 2 ^ 4800 * 2 ^ 4800 := by
   have := Int.mul_le_mul_of_nonneg_right (a := 1) (b := 2 ^ 4800) (c := 2 ^ 4800) (by have := two_pow_pos 4800; omega) (Int.le_of_lt (two_pow_pos 4800))
   rwa [Int.one_mul] at this
  have n1 : (cn out).2.length ≤ 1000000 := small_cn hlo (by generalize (2 : Int) ^ 4800 * 2 ^ 4800 = q at *; generalize (2 : Int) ^ 4800 = p at *; omega)
  have n2 : (cn (out * out)).2.length ≤ 1000000 := small_cn hsq (by generalize (2 : Int) ^ 4800 * 2 ^ 4800 = q at *; generalize (2 : Int) ^ 4800 = p at *; omega)
  have n3 : (cn (out * 2 ^ (j + 1))).2.length ≤ 1000000 := small_cn hm0 (by generalize (2 : Int) ^ 4800 * 2 ^ 4800 = q at *; generalize (2 : Int) ^ 4800 = p at *; omega)
  have n4 : (cn (out * out + out * 2 ^ (j + 1))).2.length ≤ 1000000 := small_cn (by omega) (by generalize (2 : Int) ^ 4800 * 2 ^ 4800 = q at *; generalize (2 : Int) ^ 4800 = p at *; omega)
  have n5 : (cn (2 ^ (2 * j))).2.length ≤ 1000000 := small_cn (Int.le_of_lt q2) (by generalize (2 : Int) ^ 4800 * 2 ^ 4800 = q at *; generalize (2 : Int) ^ 4800 = p at *; omega)
  have n6 : (cn (out * out + out * 2 ^ (j + 1) + 2 ^ (2 * j))).2.length ≤ 1000000 := small_cn (by omega) (by generalize (2 : Int) ^ 4800 * 2 ^ 4800 = q at *; generalize (2 : Int) ^ 4800 = p at *; omega)
  have n7 : (cn (2 ^ j)).2.length ≤ 1000000 := small_cn (Int.le_of_lt q3) (by generalize (2 : Int) ^ 4800 * 2 ^ 4800 = q at *; generalize (2 : Int) ^ 4800 = p at *; omega)
  have n8 : (cn 1).2.length ≤ 1000000 := small_cn (by omega) (by have := two_pow_pos 4800; generalize (2 : Int) ^ 4800 * 2 ^ 4800 = q at *; generalize (2 : Int) ^ 4800 = p at *; omega)
  clear p1 p2 p3 q1 q2 q3 hm hm0 big hsq hob
  have w1 : wrap64 (((j + 1 : Nat) : Int) - 1 + 1) = ((j + 1 : Nat) : Int) := by rw [w64s (by omega) (by omega)]; omega
  have w2 : wrap64 (2 * (((j + 1 : Nat) : Int) - 1)) = ((2 * j : Nat) : Int) := by rw [w64s (by omega) (by omega)]; omega
  have w3 : wrap64 (((j + 1 : Nat) : Int) - 1 - 1) = (j : Int) - 1 := by rw [w64s (by omega) (by omega)]; omega
  have w4 : ((j + 1 : Nat) : Int) - 1 = (j : Int) := by omega
  refine Ev.step (fun f => by simp only [spec_l02Root.l0]; rw [if_pos (show ((j + 1 : Nat) : Int) - 1 ≥ 0 from by omega), w1, w2, w3, w4]) ?_
  have a1 := l02Left (cw_cn out) n1 (k := j + 1) (by omega)
  rw [wv_cn] at a1
  refine Ev.bind a1 ?_
  have a2 := l02Add (cw_cn (out * out)) (cw_cn (out * 2 ^ (j + 1))) n2 n3
  rw [wv_cn, wv_cn] at a2
  refine Ev.bind a2 ?_
  have a3 := l02Left (cw_cn 1) n8 (k := 2 * j) (by omega)
  rw [wv_cn, Int.one_mul] at a3
  refine Ev.bind a3 ?_
  have a4 := l02Add (cw_cn (out * out + out * 2 ^ (j + 1))) (cw_cn (2 ^ (2 * j))) n4 n5
  rw [wv_cn, wv_cn] at a4
  refine Ev.bind a4 ?_
  have a5 := l02Compare (cw_cn (out * out + out * 2 ^ (j + 1) + 2 ^ (2 * j))) hc (by omega) (by omega)
  rw [wv_cn] at a5
  refine Ev.bind a5 ?_
  by_cases hd : out * out + out * 2 ^ (j + 1) + 2 ^ (2 * j) ≤ wv s l
  ·have hsg : sgn (out * out + out * 2 ^ (j + 1) + 2 ^ (2 * j) - wv s l) ≤ 0 := by unfold sgn; split <;> (try split) <;> omega
   simp only [if_pos hsg]
   have a6 := l02Left (cw_cn 1) n8 (k := j) (by omega)
   rw [wv_cn, Int.one_mul] at a6
   refine Ev.bind a6 ?_
   have a7 := l02Add (cw_cn out) (cw_cn (2 ^ j)) n1 n7
   rw [wv_cn, wv_cn] at a7
   refine Ev.bind a7 ?_
   obtain ⟨r1, r2⟩ := hr.one hd
   rw [← r2]
   exact ih _ (by omega) r1
  ·have hsg : ¬ sgn (out * out + out * 2 ^ (j + 1) + 2 ^ (2 * j) - wv s l) ≤ 0 := by unfold sgn; split <;> (try split) <;> omega
   simp only [if_neg hsg]
   exact ih _ (by omega) (hr.zero (by omega))
theorem lt_pow_int {n : Int} {k : Nat} (h : n.natAbs < 2 ^ k) : n < 2 ^ k := by
 rw [← pow_cast k]
 generalize (2 : Nat) ^ k = p at *
 omega
theorem isW_two {s : Int} {l : List Int} (hw : isW s l = true) {k : Nat} (hk : k = 24 * 200) : (wv s l).natAbs < 2 ^ k := by
 have h := wv_bound hw
 rw [lpow_two, ← hk] at h
 exact h
theorem isW_lek {s : Int} {l : List Int} (hw : isW s l = true) {k : Nat} (hk : k = 24 * 200) : wv s l < 2 ^ k ∧ blen (wv s l) ≤ k := ⟨lt_pow_int (isW_two hw hk), blen_le.2 (isW_two hw hk)⟩
theorem l02Root {s : Int} {l : List Int} (hw : isW s l = true) (hs : 0 ≤ wv s l) : Ev (fun k => spec_l02Root.f k s l) (cn (iroot (wv s l))) := by
 have hlen := isW_len hw
 obtain ⟨hb, hb2⟩ := isW_lek hw (k := 4800) rfl
 have hx : (wv s l).natAbs < 2 ^ blen (wv s l) := blen_le.1 (Nat.le_refl _)
 unfold spec_l02Root.f
 refine Ev.bind (l02Of (x := 1) (by omega) (by omega)) ?_
 refine Ev.bind (l02Length (isW_cw hw) (by omega)) ?_
 generalize hn : blen (wv s l) = n at *
 have e : wrap64 (Int.tdiv (wrap64 ((n : Int) + 1)) 2) = (((n + 1) / 2 + 1 : Nat) : Int) - 1 := by
  rw [w64s (x := (n : Int) + 1) (by omega) (by omega), Int.tdiv_eq_ediv_of_nonneg (by omega), w64s (by omega) (by omega)]
  omega
 rw [e]
 have st : RootBits (wv s l) ((n + 1) / 2 + 1) 0 := by
  refine RootBits.start hs ?_
  rw [← Int.pow_add]
  have c : (((2 : Nat) ^ n : Nat) : Int) = 2 ^ n := by rw [Int.natCast_pow]; rfl
  refine Int.lt_of_lt_of_le ?_ (two_pow_le (r := n) (by omega))
  rw [← c]
  generalize (2 : Nat) ^ n = p at *
  omega
 have := specRoot_loop hw (Int.le_of_lt hb) _ 0 (by omega) st
 rw [Int.mul_zero, cn_zero] at this
 exact this
theorem iroot_small {s : Int} {l : List Int} (hw : isW s l = true) (hs : 0 ≤ wv s l) : wfit (iroot (wv s l)) = ((cn (iroot (wv s l))).1, (cn (iroot (wv s l))).2, 0) := by
 have hi := iroot_spec hs
 have h1 := le_square hi.lo hi.le
 have h2 := wv_bound hw
 have h3 := hi.lo
 rw [wfit_cn, if_pos (limbs_length_le (by generalize (16777216 : Nat) ^ 200 = p at *; omega))]
 rfl
end Go.Proofs.YtghhphndbbefjaaDoor.Pur
