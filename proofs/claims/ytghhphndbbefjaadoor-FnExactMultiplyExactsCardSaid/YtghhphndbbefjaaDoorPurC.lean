/- The reference's making of exact numbers, and the laws' handling of them, as plain mathematics. Conditions: limbs in range, lengths to 4000, powers to 10^6. -/
import Derived.Test.YtghhphndbbefjaaDoorPurB
import Derived.Test.YtghhphndbbefjaaDoorPur2
import Derived.Test.YtghhphndbbefjaaDoorDyM
import Derived.Test.YtghhphndbbefjaaDoorX3
import Derived.Test.YtghhphndbbefjaaDoorG15
import Derived.Test.YtghhphndbbefjaaDoorG16
import Derived.Test.YtghhphndbbefjaaDoorG27
import Derived.Test.YtghhphndbbefjaaDoorG19
/- The reference's arithmetic of exact numbers as plain mathematics. Conditions: exact numbers by the reference's own test. -/
namespace Go.Proofs.YtghhphndbbefjaaDoor.Pur
open Go.RowKit Go.Proofs.YtghhphndbbefjaaDoor Go.Proofs.YtghhphndbbefjaaDoor.Big Go.Proofs.YtghhphndbbefjaaDoor.X Go.Proofs.YtghhphndbbefjaaDoorW.PrintWords Go.Proofs.YtghhphndbbefjaaDoorW.PrintLast Go.Proofs.YtghhphndbbefjaaDoor.Math
set_option linter.unusedVariables false
set_option linter.unusedSimpArgs false
theorem lv_nat {l : List Int} (ol : Okl l) : (lv l).toNat < 2 ^ (24 * l.length) := by
 have h1 := lv_lt ol
 have h0 := lv_nonneg ol
 have h3 := lpow_cast l.length
 rw [← lpow_two]
 generalize (16777216 : Nat) ^ l.length = p at h3 ⊢
 generalize (16777216 : Int) ^ l.length = q at h1 h3
 generalize lv l = v at h0 h1 ⊢
 omega
theorem tz_cw {s : Int} {l : List Int} (h : CW s l) (hne : l ≠ []) (hl : l.length ≤ 4000) : tz (wv s l) = ctz (lv l).toNat ∧ IsTz (lv l).toNat (ctz (lv l).toNat) ∧ ctz (lv l).toNat ≤ 96000 := by
 have hp := lv_pos h.ok h.ti hne
 have h1 := ctz_spec (show (lv l).toNat ≠ 0 from by omega)
 have h2 := Nat.le_of_dvd (by omega) (Nat.dvd_of_mod_eq_zero h1.z)
 have h3 := (Nat.pow_lt_pow_iff_right (show 1 < 2 from by decide)).1 (Nat.lt_of_le_of_lt h2 (lv_nat h.ok))
 exact ⟨by rw [tz, h.natAbs], h1, Nat.le_trans (Nat.le_of_lt h3) (by omega)⟩
theorem l02Twos_cw {s : Int} {l : List Int} (h : CW s l) (hne : l ≠ []) (hl : l.length ≤ 4000) : Ev (fun k => spec_l02Twos.f k s l) (tz (wv s l) : Int) := by
 obtain ⟨h1, h2, h3⟩ := tz_cw h hne hl
 rw [h1]
 unfold spec_l02Twos.f
 exact l02Twos_loop h.ok (by omega) h2 (by omega) (ctz (lv l).toNat) 0 (by omega)
theorem wv_ne {s : Int} {l : List Int} (h : CW s l) (hs : s ≠ 0) : wv s l ≠ 0 := by
 have hne : l ≠ [] := fun e => hs (h.z e)
 have hp := lv_pos h.ok h.ti hne
 rw [h.val]
 rcases h.nz hne with rfl | rfl <;> omega
theorem cut_odd {s : Int} {l : List Int} (h : CW s l) (hs : s ≠ 0) : s * (lv l / 2 ^ tz (wv s l)) = oddp (wv s l) := by
 have hne : l ≠ [] := fun e => hs (h.z e)
 have hd := tz_dvd (wv_ne h hs)
 unfold oddp
 generalize tz (wv s l) = t at hd ⊢
 rw [h.val] at hd ⊢
 rcases h.nz hne with rfl | rfl
 ·rw [Int.one_mul, Int.one_mul]
 ·rw [Int.neg_mul, Int.one_mul] at hd ⊢
  rw [Int.neg_mul, Int.one_mul, Int.neg_ediv_of_dvd (Int.dvd_neg.1 hd)]
theorem l03Make {s : Int} {l : List Int} (h : CW s l) (hl : l.length ≤ 4000) (e : Int) (he0 : -1000000 ≤ e) (he1 : e ≤ 1000000) : Ev (fun k => spec_l03Make.f k s l e) (dymk (wv s l) e) := by
 unfold spec_l03Make.f
 by_cases hs : s = 0
 ·have := h.szero.1 hs
  subst hs this
  simp only [if_true]
  rw [wv_zero, dymk, if_pos rfl]
  exact Ev.now _
 ·have hne : l ≠ [] := fun g => hs (h.z g)
  obtain ⟨t1, t2, t3⟩ := tz_cw h hne hl
  have hn := wv_ne h hs
  have htz : tz (wv s l) ≤ 100000 := by omega
  have hw : wrap64 (e + (tz (wv s l) : Int)) = e + (tz (wv s l) : Int) := w64s (by omega) (by omega)
  simp only [if_neg hs]
  refine Ev.bind (l02Twos_cw h hne hl) ?_
  refine Ev.bind (l02Cut h (by omega) htz) ?_
  rw [hw, cut_odd h hs, oddp_cn hn, dymk, if_neg hn]
  exact Ev.now _
theorem isD_tail {s : Int} {l : List Int} {e : Int} (h : isW s l = true) : (if s = 0 then some (e == 0) else if 0 < (l.length : Int) then some (Int.tmod (rd l 0) 2 == 1) else none) = some (if s = 0 then e == 0 else Int.tmod (l.getD 0 0) 2 == 1) := by
 by_cases hs : s = 0
 ·rw [if_pos hs, if_pos hs]
 ·have hne := isW_ne h hs
  have hp : 0 < l.length := List.length_pos_iff.2 hne
  rw [if_neg hs, if_neg hs, if_pos (by omega)]
  rfl
theorem l03Is (s : Int) (l : List Int) (e : Int) (hl : l.length ≤ 1000000000) : Ev (fun k => spec_l03Is.f k s l e) (isD s l e) := by
 unfold spec_l03Is.f
 refine Ev.bind (l02Is s l hl) ?_
 unfold isD
 cases h : isW s l
 ·simp only [Bool.false_eq_true, if_false, Bool.false_and]
  exact Ev.step (fun k => by rw [spec_l03Is.j0, if_pos rfl]) (Ev.now _)
 ·simp only [if_true, l01In, Option.bind_some, Bool.true_and]
  cases h2 : (decide (-5000 ≤ e) && decide (e ≤ 5000))
  ·exact Ev.step (fun k => by simp [spec_l03Is.j0]) (Ev.now _)
  ·exact Ev.step (fun k => by rw [spec_l03Is.j0, if_neg (by simp), isD_tail h, Bool.true_and]) (Ev.now _)
theorem isD_mk (n p : Int) : isD (dymk n p).1 (dymk n p).2.1 (dymk n p).2.2 = if n = 0 then true else (decide (blen (oddp n) ≤ 4800) && (decide (-5000 ≤ p + tz n) && decide (p + tz n ≤ 5000))) := by
 unfold dymk
 by_cases hn : n = 0
 ·rw [if_pos hn, if_pos hn]
  rfl
 ·rw [if_neg hn, if_neg hn]
  unfold isD
  have hw : isW (sgn n) (limbs (oddp n).natAbs) = decide (blen (oddp n) ≤ 4800) := by
   have h1 := cw_isW_iff (cw_cn (oddp n))
   rw [oddp_cn hn] at h1
   rw [h1]
   by_cases h : blen (oddp n) ≤ 4800
   ·rw [decide_eq_true h, decide_eq_true ((limbs_len_iff _ 200).2 h)]
   ·rw [decide_eq_false h, decide_eq_false (fun g => h ((limbs_len_iff _ 200).1 g))]
  have hs : sgn n ≠ 0 := by
   unfold sgn
   split
   ·omega
   ·omega
  have hpar : Int.tmod ((limbs (oddp n).natAbs).getD 0 0) 2 = 1 := by
   have h1 := limbs_par (oddp n).natAbs
   rw [oddp_odd hn] at h1
   rw [Int.tmod_eq_emod_of_nonneg (okl_getD (limbs_okl _) 0).1, h1]
   rfl
  simp only [hw, if_neg hs, hpar]
  simp
theorem dyfit_length (n p : Int) : (dyfit n p).2.1.length ≤ 200 := by
 unfold dyfit
 split
 ·simp
 ·split
  ·rename_i h
   exact (limbs_len_iff (oddp n) 200).2 h.1
  ·simp
theorem odd_len {n : Int} {j : Nat} (h : n.natAbs < 16777216 ^ j) (hj : j ≤ 1000000000) : (limbs (oddp n).natAbs).length ≤ 1000000000 := by
 refine Nat.le_trans (limbs_length_le (k := j) ?_) hj
 unfold oddp
 exact Nat.lt_of_le_of_lt (Int.natAbs_ediv_le_natAbs _ _) h
theorem eqDyadic (s : Int) (l : List Int) (e : Int) (hl : l.length ≤ 1048576) : Ev (fun k => laws_eqDyadic.f k s l e s l e) true := by
 unfold laws_eqDyadic.f
 refine Ev.bind (eqWhole s l hl) ?_
 simp only [if_true]
 exact Ev.now _
theorem markDyadic (s : Int) (l : List Int) (e k0 : Int) (h0 : 0 ≤ k0) (h1 : k0 ≤ 1000000000) (hl : l.length ≤ 1048576) : Ev (fun k => laws_markDyadic.f k s l e k0) (k0 + l.length, marks k0 l.length) := by
 unfold laws_markDyadic.f
 exact Ev.bind (f := fun _ bt => some (bt.1, bt.2)) (markWhole s l k0 h0 h1 hl) (Ev.now _)
theorem heldDyadic (s : Int) (n : Nat) (e k0 : Int) (h0 : 0 ≤ k0) (h1 : k0 ≤ 1000000000) (hl : n ≤ 1048576) : Ev (fun k => laws_heldDyadic.f k s (marks k0 n) e k0) (k0 + n) := by
 unfold laws_heldDyadic.f
 refine Ev.bind (heldWhole s n k0 h0 h1 hl) ?_
 simp only [if_neg (show ¬ k0 + (n : Int) < 0 from by omega)]
 exact Ev.now _
theorem toDyadic (s : Int) (l : List Int) (e : Int) (hl : l.length ≤ 1048576) : Ev (fun k => laws_toDyadic.f k s l e) (s, l, e) := by
 unfold laws_toDyadic.f
 exact Ev.bind (f := fun _ bt => some (bt.1, bt.2, e)) (toWhole s l hl) (Ev.now _)
theorem szDyadic (s : Int) (l : List Int) (e left : Int) (h0 : 0 ≤ left) (h1 : left ≤ 1048576) (hl : l.length ≤ maxLen) :
  laws_szDyadic.f s l e left = some (if left - l.length < 0 then -1 else left - l.length) := by
 unfold laws_szDyadic.f
 rw [szWhole s l left h0 h1 hl]
 simp only [Option.bind_some]
 by_cases h : left - (l.length : Int) < 0
 ·simp [h]
 ·rw [if_neg h, if_neg h]
end Go.Proofs.YtghhphndbbefjaaDoor.Pur
namespace Go.Proofs.YtghhphndbbefjaaDoor.Pur
open Go.RowKit Go.Proofs.YtghhphndbbefjaaDoor Go.Proofs.YtghhphndbbefjaaDoor.Big Go.Proofs.YtghhphndbbefjaaDoor.X Go.Proofs.YtghhphndbbefjaaDoorW.PrintWords Go.Proofs.YtghhphndbbefjaaDoorW.PrintLast Go.Proofs.YtghhphndbbefjaaDoorW.PrintMore Go.Proofs.YtghhphndbbefjaaDoor.Math
set_option linter.unusedVariables false
set_option linter.unusedSimpArgs false
theorem shl_bound {n : Int} (h : n.natAbs < 16777216 ^ 200) {j : Nat} (hj : j ≤ 10000) : ∃ u, u = 617 ∧ (n * 2 ^ j).natAbs < 16777216 ^ u := by
 obtain ⟨a, ha⟩ : ∃ a, a = 200 := ⟨_, rfl⟩
 obtain ⟨b, hb⟩ : ∃ b, b = 417 := ⟨_, rfl⟩
 rw [← ha] at h
 have hjb : j ≤ 24 * b := by omega
 refine ⟨a + b, by omega, ?_⟩
 have e : (16777216 : Nat) ^ (a + b) = 16777216 ^ a * 16777216 ^ b := Nat.pow_add ..
 have e2 : (16777216 : Nat) ^ b = 2 ^ (24 * b) := lpow_two b
 have hp : 0 < (16777216 : Nat) ^ b := Nat.pow_pos (by decide)
 have h2 : (2 : Nat) ^ j ≤ 16777216 ^ b := by rw [e2]; exact Nat.pow_le_pow_right (by decide) hjb
 rw [e, Int.natAbs_mul, Int.natAbs_pow]
 exact Nat.mul_lt_mul_of_lt_of_le h h2 hp
theorem add_bound {n m : Int} {u : Nat} (h : n.natAbs < 16777216 ^ u) (g : m.natAbs < 16777216 ^ u) : (n + m).natAbs < 16777216 ^ (u + 1) := by
 have e : (16777216 : Nat) ^ (u + 1) = 16777216 ^ u * 16777216 := Nat.pow_succ ..
 rw [e]
 generalize (16777216 : Nat) ^ u = p at h g ⊢
 omega
theorem l03Neg_cw {s : Int} {l : List Int} (h : CW s l) (hl : l.length ≤ 1000000) (e : Int) : Ev (fun f => spec_l03Neg.f f s l e) (-s, l, e) := by
 unfold spec_l03Neg.f
 have := l02Neg h hl
 rw [← wv_neg h, ← (cw_neg h).eq] at this
 exact Ev.bind (f := fun _ bt => some (bt.1, bt.2, e)) this (Ev.now _)
theorem l03Add {s t : Int} {l m : List Int} {e f : Int} (hw : isW s l = true) (hv : isW t m = true) (he : -5000 ≤ e ∧ e ≤ 5000) (hf : -5000 ≤ f ∧ f ≤ 5000) :
  Ev (fun k => spec_l03Add.f k s l e t m f) (dymk (wv s l * 2 ^ (e - mn e f).toNat + wv t m * 2 ^ (f - mn e f).toNat) (mn e f)) := by
 have hcw := isW_cw hw
 have hcv := isW_cw hv
 have hlw := isW_len hw
 have hlv := isW_len hv
 have hm := mn_le e f
 obtain ⟨j, hj⟩ : ∃ j, mn e f = j := ⟨_, rfl⟩
 rw [hj] at hm
 obtain ⟨a, ha⟩ : ∃ a : Nat, e - j = a := ⟨(e - j).toNat, by omega⟩
 obtain ⟨b, hb⟩ : ∃ b : Nat, f - j = b := ⟨(f - j).toNat, by omega⟩
 have ha2 : a ≤ 10000 := by omega
 have hb2 : b ≤ 10000 := by omega
 unfold spec_l03Add.f
 rw [hj, ha, hb, Int.toNat_natCast, Int.toNat_natCast]
 by_cases hs : s = 0
 ·have := hcw.szero.1 hs
  subst hs this
  have e1 : j + (b : Int) = f := by omega
  simp only [if_true]
  rw [wv_zero, Int.zero_mul, Int.zero_add, dymk_shift, e1]
  exact Ev.bind (f := fun _ bt => some (bt.1, bt.2.1, bt.2.2)) (l03Make hcv (by omega) f (by omega) (by omega)) (Ev.now _)
 ·simp only [if_neg hs]
  by_cases ht : t = 0
  ·have := hcv.szero.1 ht
   subst ht this
   have e1 : j + (a : Int) = e := by omega
   simp only [if_true]
   rw [wv_zero, Int.zero_mul, Int.add_zero, dymk_shift, e1]
   exact Ev.bind (f := fun _ bt => some (bt.1, bt.2.1, bt.2.2)) (l03Make hcw (by omega) e (by omega) (by omega)) (Ev.now _)
  ·simp only [if_neg ht]
   have hwa : wrap64 (a : Int) = (a : Int) := w64s (by omega) (by omega)
   have hwb : wrap64 (b : Int) = (b : Int) := w64s (by omega) (by omega)
   obtain ⟨u, hu, h1⟩ := shl_bound (wv_bound hw) ha2
   obtain ⟨u2, hu2, h2⟩ := shl_bound (wv_bound hv) hb2
   obtain rfl : u2 = u := by omega
   have hj2 : -1000000 ≤ j ∧ j ≤ 1000000 := by omega
   have l1 : (cn (wv s l * 2 ^ a)).2.length ≤ 1000000 := Nat.le_trans (limbs_length_le h1) (by omega)
   have l2 : (cn (wv t m * 2 ^ b)).2.length ≤ 1000000 := Nat.le_trans (limbs_length_le h2) (by omega)
   have l3 : (cn (wv s l * 2 ^ a + wv t m * 2 ^ b)).2.length ≤ 4000 := Nat.le_trans (limbs_length_le (add_bound h1 h2)) (by omega)
   simp only [hwa, hwb]
   refine Ev.bind (l02Left hcw (by omega) (k := a) (by omega)) ?_
   refine Ev.bind (l02Left hcv (by omega) (k := b) (by omega)) ?_
   have hadd := l02Add (cw_cn (wv s l * 2 ^ a)) (cw_cn (wv t m * 2 ^ b)) l1 l2
   rw [wv_cn, wv_cn] at hadd
   refine Ev.bind hadd ?_
   have hmk := l03Make (cw_cn (wv s l * 2 ^ a + wv t m * 2 ^ b)) l3 j hj2.1 hj2.2
   rw [wv_cn] at hmk
   exact Ev.bind (f := fun _ bt => some (bt.1, bt.2.1, bt.2.2)) hmk (Ev.now _)
theorem mul_bound {n m : Int} (h : n.natAbs < 16777216 ^ 200) (g : m.natAbs < 16777216 ^ 200) : ∃ u, u = 400 ∧ (n * m).natAbs < 16777216 ^ u := by
 obtain ⟨a, ha⟩ : ∃ a, a = 200 := ⟨_, rfl⟩
 rw [← ha] at h g
 refine ⟨a + a, by omega, ?_⟩
 have e : (16777216 : Nat) ^ (a + a) = 16777216 ^ a * 16777216 ^ a := Nat.pow_add ..
 rw [e, Int.natAbs_mul]
 exact Nat.mul_lt_mul'' h g
theorem l03Mul {s t : Int} {l m : List Int} {e f : Int} (hw : isW s l = true) (hv : isW t m = true) (he : -5000 ≤ e ∧ e ≤ 5000) (hf : -5000 ≤ f ∧ f ≤ 5000) :
  Ev (fun k => spec_l03Mul.f k s l e t m f) (dymk (wv s l * wv t m) (e + f)) := by
 have hcw := isW_cw hw
 have hcv := isW_cw hv
 have hlw := isW_len hw
 have hlv := isW_len hv
 have hwr : wrap64 (e + f) = e + f := w64s (by omega) (by omega)
 obtain ⟨u, hu, h1⟩ := mul_bound (wv_bound hw) (wv_bound hv)
 have l3 : (cn (wv s l * wv t m)).2.length ≤ 4000 := Nat.le_trans (limbs_length_le h1) (by omega)
 unfold spec_l03Mul.f
 rw [hwr]
 refine Ev.bind (l02Mul hcw hcv (by omega) (by omega)) ?_
 have hmk := l03Make (cw_cn (wv s l * wv t m)) l3 (e + f) (by omega) (by omega)
 rw [wv_cn] at hmk
 exact Ev.bind (f := fun _ bt => some (bt.1, bt.2.1, bt.2.2)) hmk (Ev.now _)
theorem l03Sub {s t : Int} {l m : List Int} {e f : Int} (hw : isW s l = true) (hv : isW t m = true) (he : -5000 ≤ e ∧ e ≤ 5000) (hf : -5000 ≤ f ∧ f ≤ 5000) :
  Ev (fun k => spec_l03Sub.f k s l e t m f) (dymk (wv s l * 2 ^ (e - mn e f).toNat - wv t m * 2 ^ (f - mn e f).toNat) (mn e f)) := by
 have hcv := isW_cw hv
 have hlv := isW_len hv
 have hv2 : isW (-t) m = true := cw_isW (cw_neg hcv) hlv
 have hadd := l03Add hw hv2 he hf
 rw [wv_neg hcv, Int.neg_mul, ← Int.sub_eq_add_neg] at hadd
 unfold spec_l03Sub.f
 refine Ev.bind (l03Neg_cw hcv (by omega) f) ?_
 exact Ev.bind (f := fun _ bt => some (bt.1, bt.2.1, bt.2.2)) hadd (Ev.now _)
end Go.Proofs.YtghhphndbbefjaaDoor.Pur
