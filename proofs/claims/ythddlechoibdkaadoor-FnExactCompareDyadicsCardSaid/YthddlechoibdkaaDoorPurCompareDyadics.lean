/- The law FnExactCompareDyadics, as a plain statement: it answers true at every two exact numbers. -/
import Derived.Test.YthddlechoibdkaaDoorPur5
import Derived.Test.YthddlechoibdkaaDoorX3
import Derived.Test.YthddlechoibdkaaDoorX2
import Derived.Test.YthddlechoibdkaaDoorX1
import Derived.Test.YthddlechoibdkaaDoorDy6
namespace Go.Proofs.YthddlechoibdkaaDoor.Pur
open Go.RowKit Go.Proofs.YthddlechoibdkaaDoor Go.Proofs.YthddlechoibdkaaDoor.Big Go.Proofs.YthddlechoibdkaaDoor.X Go.Proofs.YthddlechoibdkaaDoorW.PrintWords Go.Proofs.YthddlechoibdkaaDoorW.PrintLast Go.Proofs.YthddlechoibdkaaDoorW.PrintMore Go.Proofs.YthddlechoibdkaaDoor.Math
set_option linter.unusedVariables false
set_option linter.unusedSimpArgs false

theorem l03Neg_cw {s : Int} {l : List Int} (h : CW s l) (hl : l.length ≤ 1000000) (e : Int) : Ev (fun f => spec_l03Neg.f f s l e) (-s, l, e) := by
  unfold spec_l03Neg.f
  have := l02Neg h hl
  rw [← wv_neg h, ← (cw_neg h).eq] at this
  exact Ev.bind (f := fun _ bt => some (bt.1, bt.2, e)) this (Ev.now _)
theorem dymk_sgn (V p : Int) : (dymk V p).1 = sgn V := by
  unfold dymk
  by_cases h : V = 0
  · rw [if_pos h, h]
    rfl
  · rw [if_neg h]
theorem shl_bound {n : Int} (h : n.natAbs < 16777216 ^ 200) {j : Nat} (hj : j ≤ 10000) : ∃ u, u = 617 ∧ (n * 2 ^ j).natAbs < 16777216 ^ u := by
  obtain ⟨a, ha⟩ : ∃ a, a = 200 := ⟨_, rfl⟩
  obtain ⟨b, hb⟩ : ∃ b, b = 417 := ⟨_, rfl⟩
  rw [← ha] at h
  have hjb : j ≤ 24 * b := by omega
  refine ⟨a + b, by omega, ?_⟩
  have e : (16777216 : Nat) ^ (a + b) = 16777216 ^ a * 16777216 ^ b := Nat.pow_add ..
  have e2 : (16777216 : Nat) ^ b = 2 ^ (24 * b) := lpow_two b
  have hp : 0 < (16777216 : Nat) ^ b := Nat.pow_pos (by decide)
  have h2 : (2 : Nat) ^ j ≤ 16777216 ^ b := by rw [e2]; exact Nat.pow_le_pow_right (by decide) hjb
  rw [e, Int.natAbs_mul, Int.natAbs_pow]
  exact Nat.mul_lt_mul_of_lt_of_le h h2 hp
theorem add_bound {n m : Int} {u : Nat} (h : n.natAbs < 16777216 ^ u) (g : m.natAbs < 16777216 ^ u) : (n + m).natAbs < 16777216 ^ (u + 1) := by
  have e : (16777216 : Nat) ^ (u + 1) = 16777216 ^ u * 16777216 := Nat.pow_succ ..
  rw [e]
  generalize (16777216 : Nat) ^ u = p at h g ⊢
  omega
/-- Sums of exact numbers, which may be too large. -/
theorem l03Add {s t : Int} {l m : List Int} {e f : Int} (hw : isW s l = true) (hv : isW t m = true) (he : -5000 ≤ e ∧ e ≤ 5000) (hf : -5000 ≤ f ∧ f ≤ 5000) :
    Ev (fun k => spec_l03Add.f k s l e t m f) (dymk (wv s l * 2 ^ (e - mn e f).toNat + wv t m * 2 ^ (f - mn e f).toNat) (mn e f)) := by
  have hcw := isW_cw hw
  have hcv := isW_cw hv
  have hlw := isW_len hw
  have hlv := isW_len hv
  have hm := mn_le e f
  obtain ⟨j, hj⟩ : ∃ j, mn e f = j := ⟨_, rfl⟩
  rw [hj] at hm
  obtain ⟨a, ha⟩ : ∃ a : Nat, e - j = a := ⟨(e - j).toNat, by omega⟩
  obtain ⟨b, hb⟩ : ∃ b : Nat, f - j = b := ⟨(f - j).toNat, by omega⟩
  have ha2 : a ≤ 10000 := by omega
  have hb2 : b ≤ 10000 := by omega
  unfold spec_l03Add.f
  rw [hj, ha, hb, Int.toNat_natCast, Int.toNat_natCast]
  by_cases hs : s = 0
  · have := hcw.szero.1 hs
    subst hs this
    have e1 : j + (b : Int) = f := by omega
    simp only [if_true]
    rw [wv_zero, Int.zero_mul, Int.zero_add, dymk_shift, e1]
    exact Ev.bind (f := fun _ bt => some (bt.1, bt.2.1, bt.2.2)) (l03Make hcv (by omega) f (by omega) (by omega)) (Ev.now _)
  · simp only [if_neg hs]
    by_cases ht : t = 0
    · have := hcv.szero.1 ht
      subst ht this
      have e1 : j + (a : Int) = e := by omega
      simp only [if_true]
      rw [wv_zero, Int.zero_mul, Int.add_zero, dymk_shift, e1]
      exact Ev.bind (f := fun _ bt => some (bt.1, bt.2.1, bt.2.2)) (l03Make hcw (by omega) e (by omega) (by omega)) (Ev.now _)
    · simp only [if_neg ht]
      have hwa : wrap64 (a : Int) = (a : Int) := w64s (by omega) (by omega)
      have hwb : wrap64 (b : Int) = (b : Int) := w64s (by omega) (by omega)
      obtain ⟨u, hu, h1⟩ := shl_bound (wv_bound hw) ha2
      obtain ⟨u2, hu2, h2⟩ := shl_bound (wv_bound hv) hb2
      obtain rfl : u2 = u := by omega
      have hj2 : -1000000 ≤ j ∧ j ≤ 1000000 := by omega
      have l1 : (cn (wv s l * 2 ^ a)).2.length ≤ 1000000 := Nat.le_trans (limbs_length_le h1) (by omega)
      have l2 : (cn (wv t m * 2 ^ b)).2.length ≤ 1000000 := Nat.le_trans (limbs_length_le h2) (by omega)
      have l3 : (cn (wv s l * 2 ^ a + wv t m * 2 ^ b)).2.length ≤ 4000 := Nat.le_trans (limbs_length_le (add_bound h1 h2)) (by omega)
      simp only [hwa, hwb]
      refine Ev.bind (l02Left hcw (by omega) (k := a) (by omega)) ?_
      refine Ev.bind (l02Left hcv (by omega) (k := b) (by omega)) ?_
      have hadd := l02Add (cw_cn (wv s l * 2 ^ a)) (cw_cn (wv t m * 2 ^ b)) l1 l2
      rw [wv_cn, wv_cn] at hadd
      refine Ev.bind hadd ?_
      have hmk := l03Make (cw_cn (wv s l * 2 ^ a + wv t m * 2 ^ b)) l3 j hj2.1 hj2.2
      rw [wv_cn] at hmk
      exact Ev.bind (f := fun _ bt => some (bt.1, bt.2.1, bt.2.2)) hmk (Ev.now _)
theorem l03Compare {s t : Int} {l m : List Int} {e f : Int} (hw : isW s l = true) (hv : isW t m = true) (he : -5000 ≤ e ∧ e ≤ 5000) (hf : -5000 ≤ f ∧ f ≤ 5000) :
    Ev (fun k => spec_l03Compare.f k s l e t m f) (cmpv s l e t m f) := by
  have hcv := isW_cw hv
  have hlv := isW_len hv
  have hv2 : isW (-t) m = true := cw_isW (cw_neg hcv) hlv
  have hadd := l03Add hw hv2 he hf
  rw [wv_neg hcv, Int.neg_mul, ← Int.sub_eq_add_neg] at hadd
  unfold spec_l03Compare.f spec_l03Sub.f
  unfold cmpv
  rw [← dymk_sgn (wv s l * 2 ^ (e - mn e f).toNat - wv t m * 2 ^ (f - mn e f).toNat) (mn e f)]
  generalize dymk (wv s l * 2 ^ (e - mn e f).toNat - wv t m * 2 ^ (f - mn e f).toNat) (mn e f) = R at hadd ⊢
  refine Ev.bind (f := fun _ bt => some bt.1) (a := R) ?_ (Ev.now _)
  refine Ev.bind (l03Neg_cw hcv (by omega) f) ?_
  exact Ev.bind (f := fun _ bt => some (bt.1, bt.2.1, bt.2.2)) hadd (Ev.now _)
theorem l03Both (s : Int) (l : List Int) (e : Int) (t : Int) (m : List Int) (f : Int) (hl : l.length ≤ 1000000000) (hm : m.length ≤ 1000000000) : Ev (fun k => spec_l03Both.f k s l e t m f) (if isD s l e && isD t m f then 0 else 1) := by
  unfold spec_l03Both.f
  refine Ev.bind (l03Is s l e hl) ?_
  cases isD s l e
  · exact Ev.now _
  · simp only [if_true, Bool.true_and]
    refine Ev.bind (l03Is t m f hm) ?_
    cases isD t m f
    · exact Ev.now _
    · exact Ev.now _
theorem implCompareDyadics (s : Int) (l : List Int) (e t : Int) (m : List Int) (f : Int) (hl : l.length ≤ 1000000000) (hm : m.length ≤ 1000000000) : impl_CompareDyadics.f s l e t m f = some (if isD s l e && isD t m f then (cmpv s l e t m f, 0) else (0, 1)) := by
  unfold impl_CompareDyadics.f
  rw [if_pos ⟨hl, hm⟩]
theorem specCompareDyadics (s : Int) (l : List Int) (e t : Int) (m : List Int) (f : Int) (hl : l.length ≤ 1000000000) (hm : m.length ≤ 1000000000) : Ev (fun k => spec_CompareDyadics.f k s l e t m f) (if isD s l e && isD t m f then (cmpv s l e t m f, 0) else (0, 1)) := by
  unfold spec_CompareDyadics.f
  refine Ev.bind (l03Both s l e t m f hl hm) ?_
  cases h : (isD s l e && isD t m f)
  · exact Ev.now _
  · simp only [if_true]
    rw [Bool.and_eq_true] at h
    exact Ev.bind (f := fun _ t182 => some (t182, 0)) (l03Compare (isD_isW h.1) (isD_isW h.2) (isD_exp h.1) (isD_exp h.2)) (Ev.now _)
set_option maxHeartbeats 1000000 in
theorem lawCompareDyadics (s : Int) (l : List Int) (e t : Int) (m : List Int) (f : Int) (hl : l.length ≤ maxLen) (hm : m.length ≤ maxLen) : ∃ k, laws_FnExactCompareDyadics.f k s l e t m f = some true := by
  refine Ev.rounds ?_
  unfold laws_FnExactCompareDyadics.f
  simp only [szDyadic s l e 1048576 (by omega) (by omega) hl, Option.bind_some]
  by_cases h : (1048576 : Int) - l.length < 0
  · simp only [if_pos h]
    exact Ev.now true
  · simp only [if_neg h]
    have hn : l.length ≤ 1048576 := by omega
    simp only [szDyadic t m f (1048576 - l.length) (by omega) (by omega) hm, Option.bind_some]
    by_cases h2 : (1048576 : Int) - l.length - m.length < 0
    · simp only [if_pos h2]
      exact Ev.now true
    · simp only [if_neg h2]
      have hn2 : m.length ≤ 1048576 := by omega
      refine Ev.bind (toDyadic s l e hn) ?_
      refine Ev.bind (toDyadic t m f hn2) ?_
      refine Ev.bind (specCompareDyadics s l e t m f (by omega) (by omega)) ?_
      refine Ev.bind (toDyadic s l e hn) ?_
      refine Ev.bind (toDyadic t m f hn2) ?_
      simp only [implCompareDyadics s l e t m f (by omega) (by omega), Option.bind_some, bne_self_eq_false, if_true]
      refine Ev.step (fun k => by rw [laws_FnExactCompareDyadics.j0, if_neg (by simp)]) ?_
      refine Ev.bind (toDyadic s l e hn) ?_
      refine Ev.bind (eqDyadic s l e hn) ?_
      simp only [if_true]
      refine Ev.bind (toDyadic t m f hn2) ?_
      exact Ev.bind (f := fun _ t => if t = true then some true else some false) (eqDyadic t m f hn2) (Ev.now _)
end Go.Proofs.YthddlechoibdkaaDoor.Pur
