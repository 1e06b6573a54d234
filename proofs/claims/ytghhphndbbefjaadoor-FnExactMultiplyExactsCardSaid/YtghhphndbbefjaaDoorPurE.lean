/- What the laws' helpers answer at exact complex numbers, and sums of exact numbers from their canonical forms. -/
import Derived.Test.YtghhphndbbefjaaDoorPurC
import Derived.Test.YtghhphndbbefjaaDoorDyE
import Derived.Test.YtghhphndbbefjaaDoorG15
import Derived.Test.YtghhphndbbefjaaDoorG16
namespace Go.Proofs.YtghhphndbbefjaaDoor.Pur
open Go.RowKit Go.Proofs.YtghhphndbbefjaaDoor Go.Proofs.YtghhphndbbefjaaDoor.Big Go.Proofs.YtghhphndbbefjaaDoor.X Go.Proofs.YtghhphndbbefjaaDoorW.PrintWords Go.Proofs.YtghhphndbbefjaaDoorW.PrintLast Go.Proofs.YtghhphndbbefjaaDoorW.PrintMore Go.Proofs.YtghhphndbbefjaaDoor.Math
set_option linter.unusedVariables false
set_option linter.unusedSimpArgs false
theorem ev_one {α : Type} {F : Nat → Option α} {r : α} (h : Ev F r) : ∃ k, F k = some r := let ⟨K, hK⟩ := h; ⟨K, hK K (Nat.le_refl K)⟩
theorem szExact (s : Int) (l : List Int) (e t : Int) (m : List Int) (f left : Int) (h0 : 0 ≤ left) (h1 : left ≤ 1048576) (hl : l.length ≤ maxLen) (hm : m.length ≤ maxLen) :
  ∃ z, laws_szExact.f s l e t m f left = some z ∧ (0 ≤ z → z = left - l.length - m.length ∧ (l.length : Int) + m.length ≤ left) := by
 unfold laws_szExact.f
 rw [szDyadic s l e left h0 h1 hl]
 simp only [Option.bind_some]
 by_cases h : left - (l.length : Int) < 0
 ·refine ⟨-1, by rw [if_pos h, if_pos (by omega)], fun h => by omega⟩
 ·rw [if_neg h, if_neg h, szDyadic t m f (left - l.length) (by omega) (by omega) hm]
  simp only [Option.bind_some]
  by_cases g : left - (l.length : Int) - (m.length : Int) < 0
  ·exact ⟨-1, by rw [if_pos g, if_pos (by omega)], fun h => by omega⟩
  ·exact ⟨left - l.length - m.length, by rw [if_neg g, if_neg g], fun _ => ⟨rfl, by omega⟩⟩
theorem toExact (s : Int) (l : List Int) (e t : Int) (m : List Int) (f : Int) (hl : l.length ≤ 1048576) (hm : m.length ≤ 1048576) : Ev (fun k => laws_toExact.f k s l e t m f) (s, l, e, t, m, f) := by
 unfold laws_toExact.f
 refine Ev.bind (toDyadic s l e hl) ?_
 exact Ev.bind (f := fun _ bt => some (s, l, e, bt.1, bt.2.1, bt.2.2)) (toDyadic t m f hm) (Ev.now _)
theorem eqExact (s : Int) (l : List Int) (e t : Int) (m : List Int) (f : Int) (hl : l.length ≤ 1048576) (hm : m.length ≤ 1048576) : Ev (fun k => laws_eqExact.f k s l e t m f s l e t m f) true := by
 unfold laws_eqExact.f
 refine Ev.bind (eqDyadic s l e hl) ?_
 simp only [if_true]
 refine Ev.bind (eqDyadic t m f hm) ?_
 simp only [if_true]
 exact Ev.now _
theorem markExact (s : Int) (l : List Int) (e t : Int) (m : List Int) (f k0 : Int) (h0 : 0 ≤ k0) (h1 : k0 ≤ 100000000) (hl : l.length ≤ 1048576) (hm : m.length ≤ 1048576) :
  Ev (fun k => laws_markExact.f k s l e t m f k0) (k0 + l.length + m.length, marks k0 l.length, marks (k0 + l.length) m.length) := by
 unfold laws_markExact.f
 refine Ev.bind (markDyadic s l e k0 h0 (by omega) hl) ?_
 exact Ev.bind (f := fun _ bt => some (bt.1, marks k0 l.length, bt.2)) (markDyadic t m f (k0 + l.length) (by omega) (by omega) hm) (Ev.now _)
theorem heldExact (s : Int) (n : Nat) (e t : Int) (n' : Nat) (f k0 : Int) (h0 : 0 ≤ k0) (h1 : k0 ≤ 1000000) (hl : n ≤ 1048576) (hm : n' ≤ 1048576) :
  Ev (fun k => laws_heldExact.f k s (marks k0 n) e t (marks (k0 + n) n') f k0) (k0 + n + n') := by
 unfold laws_heldExact.f
 refine Ev.bind (heldDyadic s n e k0 h0 (by omega) hl) ?_
 simp only [if_neg (show ¬ k0 + (n : Int) < 0 from by omega)]
 refine Ev.bind (heldDyadic t n' f (k0 + n) (by omega) (by omega) hm) ?_
 simp only [if_neg (show ¬ k0 + (n : Int) + (n' : Int) < 0 from by omega)]
 exact Ev.now _
theorem l03Pair (s : Int) (l : List Int) (e t : Int) (m : List Int) (f : Int) (hl : l.length ≤ 1000000000) (hm : m.length ≤ 1000000000) : Ev (fun k => spec_l03Pair.f k s l e t m f) (isD s l e && isD t m f) := by
 unfold spec_l03Pair.f
 refine Ev.bind (l03Is s l e hl) ?_
 cases isD s l e
 ·exact Ev.now _
 ·simp only [if_true, Bool.true_and]
  exact Ev.bind (f := fun _ b => some b) (l03Is t m f hm) (Ev.now _)
theorem fits_isD (V p : Int) : fits V p = isD (dymk V p).1 (dymk V p).2.1 (dymk V p).2.2 := by
 rw [isD_mk]
 unfold fits dyfit
 by_cases h : V = 0
 ·rw [if_pos h, if_pos h]
  rfl
 ·rw [if_neg h, if_neg h]
  by_cases g : blen (oddp V) ≤ 4800 ∧ (-5000 ≤ p + tz V ∧ p + tz V ≤ 5000)
  ·rw [if_pos g]
   simp [g.1, g.2.1, g.2.2]
  ·rw [if_neg g]
   symm
   rw [show ((0 : Int), ([] : List Int), (0 : Int), (3 : Int)).2.2.2 = 3 from rfl, show ((3 : Int) == 0) = false from rfl, Bool.eq_false_iff]
   intro k
   simp only [Bool.and_eq_true, decide_eq_true_eq] at k
   exact g k
theorem wv_dymk (V p : Int) : wv (dymk V p).1 (dymk V p).2.1 = oddp V := by
 by_cases h : V = 0
 ·subst h
  rw [dymk, if_pos rfl]
  simp [oddp, wv_zero]
 ·rw [dymk, if_neg h]
  have := wv_cn (oddp V)
  rw [oddp_cn h] at this
  exact this
theorem shl_any {n : Int} {a b j : Nat} (h : n.natAbs < 16777216 ^ a) (hj : j ≤ 24 * b) : (n * 2 ^ j).natAbs < 16777216 ^ (a + b) := by
 have e2 : (16777216 : Nat) ^ b = 2 ^ (24 * b) := lpow_two b
 have hp : 0 < (16777216 : Nat) ^ b := Nat.pow_pos (by decide)
 have h2 : (2 : Nat) ^ j ≤ 16777216 ^ b := by rw [e2]; exact Nat.pow_le_pow_right (by decide) hj
 rw [Nat.pow_add, Int.natAbs_mul, Int.natAbs_pow]
 exact Nat.mul_lt_mul_of_lt_of_le h h2 hp
theorem oddp_zero : oddp 0 = 0 := by simp [oddp]
theorem dymk_zero (p : Int) : dymk 0 p = (0, [], 0) := by rw [dymk, if_pos rfl]
theorem dymk_oddp {V : Int} (h : V ≠ 0) (p : Int) : dymk V p = dymk (oddp V) (p + tz V) := by
 rw [← dymk_shift, oddp_mul h]
theorem add_norm (V p U q : Int) : dymk (oddp V * 2 ^ ((dymk V p).2.2 - mn (dymk V p).2.2 (dymk U q).2.2).toNat + oddp U * 2 ^ ((dymk U q).2.2 - mn (dymk V p).2.2 (dymk U q).2.2).toNat) (mn (dymk V p).2.2 (dymk U q).2.2)
  = dymk (V * 2 ^ (p - mn p q).toNat + U * 2 ^ (q - mn p q).toNat) (mn p q) := by
 have hm := mn_le p q
 by_cases hV : V = 0
 ·subst hV
  rw [oddp_zero, Int.zero_mul, Int.zero_mul, Int.zero_add, Int.zero_add, dymk_shift, dymk_shift]
  have h2 := mn_le (dymk 0 p).2.2 (dymk U q).2.2
  by_cases hU : U = 0
  ·subst hU
   rw [oddp_zero, dymk_zero, dymk_zero]
  ·have e1 : (dymk U q).2.2 = q + tz U := by rw [dymk, if_neg hU]
   rw [show mn (dymk 0 p).2.2 (dymk U q).2.2 + (((dymk U q).2.2 - mn (dymk 0 p).2.2 (dymk U q).2.2).toNat : Int) = (dymk U q).2.2 from by omega, show mn p q + ((q - mn p q).toNat : Int) = q from by omega, e1, ← dymk_oddp hU]
 ·have e0 : (dymk V p).2.2 = p + tz V := by rw [dymk, if_neg hV]
  by_cases hU : U = 0
  ·subst hU
   rw [oddp_zero, Int.zero_mul, Int.zero_mul, Int.add_zero, Int.add_zero, dymk_shift, dymk_shift]
   have h2 := mn_le (dymk V p).2.2 (dymk 0 q).2.2
   rw [show mn (dymk V p).2.2 (dymk 0 q).2.2 + (((dymk V p).2.2 - mn (dymk V p).2.2 (dymk 0 q).2.2).toNat : Int) = (dymk V p).2.2 from by omega, show mn p q + ((p - mn p q).toNat : Int) = p from by omega, e0, ← dymk_oddp hV]
  ·have e1 : (dymk U q).2.2 = q + tz U := by rw [dymk, if_neg hU]
   rw [e0, e1]
   have h2 := mn_le (p + tz V) (q + tz U)
   obtain ⟨m', hm'⟩ : ∃ m', mn (p + (tz V : Int)) (q + (tz U : Int)) = m' := ⟨_, rfl⟩
   obtain ⟨m, hm0⟩ : ∃ m, mn p q = m := ⟨_, rfl⟩
   rw [hm'] at h2 ⊢
   rw [hm0] at hm ⊢
   obtain ⟨d, hd⟩ : ∃ d : Nat, m' = m + d := ⟨(m' - m).toNat, by omega⟩
   have f1 : V * 2 ^ (p - m).toNat = oddp V * 2 ^ (p + tz V - m').toNat * 2 ^ d := by
    conv => lhs; rw [← oddp_mul hV]
    rw [Int.mul_assoc, Int.mul_assoc, ← Int.pow_add, ← Int.pow_add]
    congr 2
    omega
   have f2 : U * 2 ^ (q - m).toNat = oddp U * 2 ^ (q + tz U - m').toNat * 2 ^ d := by
    conv => lhs; rw [← oddp_mul hU]
    rw [Int.mul_assoc, Int.mul_assoc, ← Int.pow_add, ← Int.pow_add]
    congr 2
    omega
   rw [f1, f2, ← Int.add_mul, dymk_shift, hd]
end Go.Proofs.YtghhphndbbefjaaDoor.Pur
