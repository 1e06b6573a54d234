/- The reference's making of exact numbers, and the laws' handling of them, as plain mathematics. Conditions: limbs in range, lengths to 4000, powers to 10^6. -/
import Derived.Test.YtdbdhgimokaooaaDoorPurB
import Derived.Test.YtdbdhgimokaooaaDoorPur2
import Derived.Test.YtdbdhgimokaooaaDoorG17
import Derived.Test.YtdbdhgimokaooaaDoorG27
import Derived.Test.YtdbdhgimokaooaaDoorG19
/- The reference's arithmetic of exact numbers as plain mathematics. Conditions: exact numbers by the reference's own test. -/
namespace Go.Proofs.YtdbdhgimokaooaaDoor.Pur
open Go.RowKit Go.Proofs.YtdbdhgimokaooaaDoor Go.Proofs.YtdbdhgimokaooaaDoor.Big Go.Proofs.YtdbdhgimokaooaaDoor.X Go.Proofs.YtdbdhgimokaooaaDoorW.PrintWords Go.Proofs.YtdbdhgimokaooaaDoorW.PrintLast Go.Proofs.YtdbdhgimokaooaaDoor.Math
set_option linter.unusedVariables false
set_option linter.unusedSimpArgs false
theorem lv_nat {l : List Int} (ol : Okl l) : (lv l).toNat < 2 ^ (24 * l.length) := by
 have h1 := lv_lt ol
 have h0 := lv_nonneg ol
 have h3 := lpow_cast l.length
 rw [← lpow_two]
 generalize (16777216 : Nat) ^ l.length = p at h3 ⊢
 generalize (16777216 : Int) ^ l.length = q at h1 h3
 generalize lv l = v at h0 h1 ⊢
 omega
theorem tz_cw {s : Int} {l : List Int} (h : CW s l) (hne : l ≠ []) (hl : l.length ≤ 4000) : tz (wv s l) = ctz (lv l).toNat ∧ IsTz (lv l).toNat (ctz (lv l).toNat) ∧ ctz (lv l).toNat ≤ 96000 := by
 have hp := lv_pos h.ok h.ti hne
 have h1 := ctz_spec (show (lv l).toNat ≠ 0 from by omega)
 have h2 := Nat.le_of_dvd (by omega) (Nat.dvd_of_mod_eq_zero h1.z)
 have h3 := (Nat.pow_lt_pow_iff_right (show 1 < 2 from by decide)).1 (Nat.lt_of_le_of_lt h2 (lv_nat h.ok))
 exact ⟨by rw [tz, h.natAbs], h1, Nat.le_trans (Nat.le_of_lt h3) (by omega)⟩
theorem l02Twos_cw {s : Int} {l : List Int} (h : CW s l) (hne : l ≠ []) (hl : l.length ≤ 4000) : Ev (fun k => spec_l02Twos.f k s l) (tz (wv s l) : Int) := by
 obtain ⟨h1, h2, h3⟩ := tz_cw h hne hl
 rw [h1]
 unfold spec_l02Twos.f
 exact l02Twos_loop h.ok (by omega) h2 (by omega) (ctz (lv l).toNat) 0 (by omega)
theorem wv_ne {s : Int} {l : List Int} (h : CW s l) (hs : s ≠ 0) : wv s l ≠ 0 := by
 have hne : l ≠ [] := fun e => hs (h.z e)
 have hp := lv_pos h.ok h.ti hne
 rw [h.val]
 rcases h.nz hne with rfl | rfl <;> omega
theorem cut_odd {s : Int} {l : List Int} (h : CW s l) (hs : s ≠ 0) : s * (lv l / 2 ^ tz (wv s l)) = oddp (wv s l) := by
 have hne : l ≠ [] := fun e => hs (h.z e)
 have hd := tz_dvd (wv_ne h hs)
 unfold oddp
 generalize tz (wv s l) = t at hd ⊢
 rw [h.val] at hd ⊢
 rcases h.nz hne with rfl | rfl
 ·rw [Int.one_mul, Int.one_mul]
 ·rw [Int.neg_mul, Int.one_mul] at hd ⊢
  rw [Int.neg_mul, Int.one_mul, Int.neg_ediv_of_dvd (Int.dvd_neg.1 hd)]
theorem l03Make {s : Int} {l : List Int} (h : CW s l) (hl : l.length ≤ 4000) (e : Int) (he0 : -1000000 ≤ e) (he1 : e ≤ 1000000) : Ev (fun k => spec_l03Make.f k s l e) (dymk (wv s l) e) := by
 unfold spec_l03Make.f
 by_cases hs : s = 0
 ·have := h.szero.1 hs
  subst hs this
  simp only [if_true]
  rw [wv_zero, dymk, if_pos rfl]
  exact Ev.now _
 ·have hne : l ≠ [] := fun g => hs (h.z g)
  obtain ⟨t1, t2, t3⟩ := tz_cw h hne hl
  have hn := wv_ne h hs
  have htz : tz (wv s l) ≤ 100000 := by omega
  have hw : wrap64 (e + (tz (wv s l) : Int)) = e + (tz (wv s l) : Int) := w64s (by omega) (by omega)
  simp only [if_neg hs]
  refine Ev.bind (l02Twos_cw h hne hl) ?_
  refine Ev.bind (l02Cut h (by omega) htz) ?_
  rw [hw, cut_odd h hs, oddp_cn hn, dymk, if_neg hn]
  exact Ev.now _
theorem dyfit_length (n p : Int) : (dyfit n p).2.1.length ≤ 200 := by
 unfold dyfit
 split
 ·simp
 ·split
  ·rename_i h
   exact (limbs_len_iff (oddp n) 200).2 h.1
  ·simp
theorem eqDyadic (s : Int) (l : List Int) (e : Int) (hl : l.length ≤ 1048576) : Ev (fun k => laws_eqDyadic.f k s l e s l e) true := by
 unfold laws_eqDyadic.f
 refine Ev.bind (eqWhole s l hl) ?_
 simp only [if_true]
 exact Ev.now _
theorem markDyadic (s : Int) (l : List Int) (e k0 : Int) (h0 : 0 ≤ k0) (h1 : k0 ≤ 1000000000) (hl : l.length ≤ 1048576) : Ev (fun k => laws_markDyadic.f k s l e k0) (k0 + l.length, marks k0 l.length) := by
 unfold laws_markDyadic.f
 exact Ev.bind (f := fun _ bt => some (bt.1, bt.2)) (markWhole s l k0 h0 h1 hl) (Ev.now _)
theorem heldDyadic (s : Int) (n : Nat) (e k0 : Int) (h0 : 0 ≤ k0) (h1 : k0 ≤ 1000000000) (hl : n ≤ 1048576) : Ev (fun k => laws_heldDyadic.f k s (marks k0 n) e k0) (k0 + n) := by
 unfold laws_heldDyadic.f
 refine Ev.bind (heldWhole s n k0 h0 h1 hl) ?_
 simp only [if_neg (show ¬ k0 + (n : Int) < 0 from by omega)]
 exact Ev.now _
end Go.Proofs.YtdbdhgimokaooaaDoor.Pur
namespace Go.Proofs.YtdbdhgimokaooaaDoor.Pur
open Go.RowKit Go.Proofs.YtdbdhgimokaooaaDoor Go.Proofs.YtdbdhgimokaooaaDoor.Big Go.Proofs.YtdbdhgimokaooaaDoor.X Go.Proofs.YtdbdhgimokaooaaDoorW.PrintWords Go.Proofs.YtdbdhgimokaooaaDoorW.PrintLast Go.Proofs.YtdbdhgimokaooaaDoorW.PrintMore Go.Proofs.YtdbdhgimokaooaaDoor.Math
set_option linter.unusedVariables false
set_option linter.unusedSimpArgs false
theorem mul_bound {n m : Int} (h : n.natAbs < 16777216 ^ 200) (g : m.natAbs < 16777216 ^ 200) : ∃ u, u = 400 ∧ (n * m).natAbs < 16777216 ^ u := by
 obtain ⟨a, ha⟩ : ∃ a, a = 200 := ⟨_, rfl⟩
 rw [← ha] at h g
 refine ⟨a + a, by omega, ?_⟩
 have e : (16777216 : Nat) ^ (a + a) = 16777216 ^ a * 16777216 ^ a := Nat.pow_add ..
 rw [e, Int.natAbs_mul]
 exact Nat.mul_lt_mul'' h g
end Go.Proofs.YtdbdhgimokaooaaDoor.Pur
