/- Plain facts on what the laws and the reference reckon: sizes, copies, comparisons of whole numbers; IsWhole of the reference. Conditions: at most 1048576 limbs. -/
import Derived.Test.YtghhphndbbefjaaDoorG15
import Derived.Test.YtghhphndbbefjaaDoorG16
import Derived.Test.YtghhphndbbefjaaDoorMathM
import Derived.Test.YtghhphndbbefjaaDoorX3
/- The reference's comparing, measuring and making of whole numbers, as plain mathematics. Conditions: limbs in range, lengths to 10^9. -/
namespace Go.Proofs.YtghhphndbbefjaaDoor.Pur
open Go.RowKit Go.Proofs.YtghhphndbbefjaaDoor.X Go.Proofs.YtghhphndbbefjaaDoorW.PrintWords Go.Proofs.YtghhphndbbefjaaDoorW.PrintLast Go.Proofs.YtghhphndbbefjaaDoor.Math
set_option linter.unusedVariables false
set_option linter.unusedSimpArgs false
theorem szInt64S (l : List Int) (left : Int) (h0 : 0 ≤ left) (h1 : left ≤ 1048576) (hl : l.length ≤ maxLen) :
  laws_szInt64S.f l left = some (if left - l.length < 0 then -1 else left - l.length) := by
 unfold laws_szInt64S.f
 simp only [maxLen] at hl
 rw [w64s (by omega) (by omega)]
 split <;> rfl
theorem szWhole (s : Int) (l : List Int) (left : Int) (h0 : 0 ≤ left) (h1 : left ≤ 1048576) (hl : l.length ≤ maxLen) :
  laws_szWhole.f s l left = some (if left - l.length < 0 then -1 else left - l.length) := by
 unfold laws_szWhole.f
 rw [szInt64S l left h0 h1 hl]
 simp only [Option.bind_some]
 by_cases h : left - (l.length : Int) < 0
 ·simp [h]
 ·rw [if_neg h, if_neg h]
theorem set_copy (l : List Int) (i : Nat) (h : i < l.length) : (l.take i ++ List.replicate (l.length - i) 0).set i (l.getD i 0) = l.take (i + 1) ++ List.replicate (l.length - (i + 1)) 0 := by
 have hl : (l.take i).length = i := by rw [List.length_take]; omega
 have h2 := set_fill (l.take i) (l.length - (i + 1)) (l.getD i 0)
 rw [hl, show l.length - (i + 1) + 1 = l.length - i from by omega] at h2
 rw [h2, take_succ_getD h]
theorem toInt64S_loop (l : List Int) (hl : l.length ≤ 1048576) (d : Nat) : ∀ (k i : Nat), i ≤ l.length → l.length - i = d → d < k →
  laws_toInt64S.l0 k l (l.take i ++ List.replicate (l.length - i) 0) (i : Int) = some l := by
 induction d with
 | zero =>
  intro k i h0 h1 hk
  obtain ⟨k, rfl⟩ : ∃ m, k = m + 1 := ⟨k - 1, by omega⟩
  obtain rfl : i = l.length := by omega
  simp only [laws_toInt64S.l0]
  rw [if_neg (by omega), Nat.sub_self, List.take_of_length_le (Nat.le_refl _)]
  simp
 | succ d ih =>
  intro k i h0 h1 hk
  obtain ⟨k, rfl⟩ : ∃ m, k = m + 1 := ⟨k - 1, by omega⟩
  simp only [laws_toInt64S.l0]
  rw [if_pos (by omega), if_pos (by omega), if_pos (by simp; omega), rd_cast, Int.toNat_natCast, set_copy l i (by omega), w64s (by omega) (by omega), show (i : Int) + 1 = ((i + 1 : Nat) : Int) from by omega]
  exact ih k (i + 1) (by omega) (by omega) (by omega)
theorem toInt64S (l : List Int) (hl : l.length ≤ 1048576) : Ev (fun k => laws_toInt64S.f k l) l := by
 refine ⟨l.length + 1, fun k hk => ?_⟩
 show laws_toInt64S.f k l = some l
 unfold laws_toInt64S.f
 rw [if_pos (by omega), Int.toNat_natCast, if_pos (by omega)]
 have := toInt64S_loop l hl l.length k 0 (Nat.zero_le _) rfl (by omega)
 simpa using this
theorem toWhole (s : Int) (l : List Int) (hl : l.length ≤ 1048576) : Ev (fun k => laws_toWhole.f k s l) (s, l) :=
 Ev.bind (f := fun _ t => some (s, t)) (toInt64S l hl) (Ev.now _)
theorem eqInt64S_loop (l : List Int) (hl : l.length ≤ 1048576) (d : Nat) : ∀ (k i : Nat), i ≤ l.length → l.length - i = d → d < k → laws_eqInt64S.l0 k l l (i : Int) = some true := by
 induction d with
 | zero =>
  intro k i h0 h1 hk
  obtain ⟨k, rfl⟩ : ∃ m, k = m + 1 := ⟨k - 1, by omega⟩
  simp only [laws_eqInt64S.l0]
  rw [if_neg (by omega)]
 | succ d ih =>
  intro k i h0 h1 hk
  obtain ⟨k, rfl⟩ : ∃ m, k = m + 1 := ⟨k - 1, by omega⟩
  simp only [laws_eqInt64S.l0]
  rw [if_pos (by omega), if_pos (by omega), if_pos (by omega), if_pos trivial, w64s (by omega) (by omega), show (i : Int) + 1 = ((i + 1 : Nat) : Int) from by omega]
  exact ih k (i + 1) (by omega) (by omega) (by omega)
theorem eqInt64S (l : List Int) (hl : l.length ≤ 1048576) : Ev (fun k => laws_eqInt64S.f k l l) true := by
 refine ⟨l.length + 1, fun k hk => ?_⟩
 show laws_eqInt64S.f k l l = some true
 unfold laws_eqInt64S.f
 rw [if_pos rfl]
 exact eqInt64S_loop l hl l.length k 0 (Nat.zero_le _) rfl (by omega)
theorem eqWhole (s : Int) (l : List Int) (hl : l.length ≤ 1048576) : Ev (fun k => laws_eqWhole.f k s l s l) true := by
 unfold laws_eqWhole.f
 simp only [if_true]
 exact Ev.bind (f := fun _ t => if t = true then some true else some false) (eqInt64S l hl) (Ev.now _)
theorem l01In (x lo hi : Int) : spec_l01In.f x lo hi = some (decide (lo ≤ x) && decide (x ≤ hi)) := by
 unfold spec_l01In.f
 by_cases h : lo ≤ x
 ·rw [if_pos h]
  simp [h]
 ·rw [if_neg h]
  simp [h]
theorem l02Is_loop (s : Int) (l : List Int) (hl : l.length ≤ 1000000000) (d : Nat) : ∀ (k i : Nat), i ≤ l.length → l.length - i = d → d < k →
  spec_l02Is.l0 k (l.length : Int) (i : Int) s l = some ((l.drop i).all limbOk && tailOk s l) := by
 induction d with
 | zero =>
  intro k i h0 h1 hk
  obtain ⟨k, rfl⟩ : ∃ m, k = m + 1 := ⟨k - 1, by omega⟩
  obtain rfl : i = l.length := by omega
  simp only [spec_l02Is.l0]
  rw [if_neg (by omega), List.drop_of_length_le (Nat.le_refl _), List.all_nil, Bool.true_and]
  unfold tailOk
  by_cases e : l = []
  ·subst e
   simp
  ·have hp : 0 < l.length := List.length_pos_iff.2 e
   rw [if_neg (by omega), if_neg e]
   by_cases h2 : l.length ≤ 200
   ·rw [if_pos (by omega), w64s (by omega) (by omega), if_pos (by omega), if_pos (by omega)]
    rw [show (l.length : Int) - 1 = ((l.length - 1 : Nat) : Int) from by omega, rd_cast]
    generalize l.getD (l.length - 1) 0 = g
    by_cases h3 : g = 0
    ·rw [if_pos h3]
     simp [h3, h2]
    ·rw [if_neg h3]
     by_cases h4 : s = 1
     ·rw [if_pos h4]
      simp [h4, h2, h3]
     ·rw [if_neg h4]
      have e1 : (g != 0) = true := by simpa using h3
      have e2 : (s == 1) = false := by simpa using h4
      rw [e1, e2]
      simp [h2]
   ·rw [if_neg (by omega)]
    simp [h2]
 | succ d ih =>
  intro k i h0 h1 hk
  obtain ⟨k, rfl⟩ : ∃ m, k = m + 1 := ⟨k - 1, by omega⟩
  simp only [spec_l02Is.l0]
  have hin : spec_l01In.f (l.getD i 0) 0 16777215 = some (limbOk (l.getD i 0)) := l01In _ _ _
  rw [if_pos (by omega), if_pos (by omega), if_pos (by omega), rd_cast, hin, all_drop l i (by omega)]
  simp only [Option.bind_some]
  by_cases hb : limbOk (l.getD i 0) = true
  ·rw [if_pos hb, w64s (by omega) (by omega), show (i : Int) + 1 = ((i + 1 : Nat) : Int) from by omega, ih k (i + 1) (by omega) (by omega) (by omega), hb, Bool.true_and]
  ·rw [if_neg hb]
   simp only [Bool.not_eq_true] at hb
   rw [hb, Bool.false_and, Bool.false_and]
theorem l02Is (s : Int) (l : List Int) (hl : l.length ≤ 1000000000) : Ev (fun k => spec_l02Is.f k s l) (isW s l) := by
 refine ⟨l.length + 1, fun k hk => ?_⟩
 show spec_l02Is.f k s l = some (isW s l)
 unfold spec_l02Is.f
 have := l02Is_loop s l hl l.length k 0 (Nat.zero_le _) rfl (by omega)
 simpa [isW] using this
end Go.Proofs.YtghhphndbbefjaaDoor.Pur
namespace Go.Proofs.YtghhphndbbefjaaDoor.Pur
open Go.RowKit Go.Proofs.YtghhphndbbefjaaDoor.X Go.Proofs.YtghhphndbbefjaaDoorW.PrintWords Go.Proofs.YtghhphndbbefjaaDoorW.PrintLast Go.Proofs.YtghhphndbbefjaaDoor.Math
set_option linter.unusedVariables false
set_option linter.unusedSimpArgs false
theorem Ev.step {α : Type} {F g : Nat → Option α} {r : α} (h : ∀ k, F (k + 1) = g k) (e : Ev g r) : Ev F r := by
 obtain ⟨K, hK⟩ := e
 refine ⟨K + 1, fun k hk => ?_⟩
 obtain ⟨k, rfl⟩ : ∃ m, k = m + 1 := ⟨k - 1, by omega⟩
 rw [h]
 exact hK k (by omega)
theorem Ev.as {α : Type} {F g : Nat → Option α} {r : α} (h : ∀ k, F k = g k) (e : Ev g r) : Ev F r := by
 obtain ⟨K, hK⟩ := e
 exact ⟨K, fun k hk => by rw [h]; exact hK k hk⟩
theorem drop_getD {xs : List Int} {k : Nat} (h : k < xs.length) : xs.drop k = xs.getD k 0 :: xs.drop (k + 1) := by
 rw [List.getD_eq_getElem?_getD, List.getElem?_eq_getElem h]
 exact List.drop_eq_getElem_cons h
theorem l02CompareLimbs_loop {l m : List Int} (ol : Okl l) (om : Okl m) (hlm : l.length = m.length) (hl : l.length ≤ 1000000000) (n : Nat) : ∀ k, n ≤ l.length → l.drop n = m.drop n → n < k →
  spec_l02CompareLimbs.l0 k l m ((n : Int) - 1) = some (sgn (lv l - lv m)) := by
 induction n with
 | zero =>
  intro k h0 hd hk
  obtain ⟨k, rfl⟩ : ∃ m, k = m + 1 := ⟨k - 1, by omega⟩
  simp only [spec_l02CompareLimbs.l0]
  rw [if_neg (by omega)]
  simp only [List.drop_zero] at hd
  rw [hd, Int.sub_self]
  rfl
 | succ n ih =>
  intro k h0 hd hk
  obtain ⟨k, rfl⟩ : ∃ m, k = m + 1 := ⟨k - 1, by omega⟩
  simp only [spec_l02CompareLimbs.l0]
  rw [show ((n + 1 : Nat) : Int) - 1 = (n : Int) from by omega, if_pos (by omega), if_pos (by omega), if_pos (by omega), if_pos (by omega), rd_cast, rd_cast]
  by_cases h1 : l.getD n 0 = m.getD n 0
  ·rw [if_pos h1, w64s (by omega) (by omega)]
   refine ih k (by omega) ?_ (by omega)
   rw [drop_getD (show n < l.length from by omega), drop_getD (show n < m.length from by omega), h1, hd]
  ·rw [if_neg h1]
   by_cases h2 : l.getD n 0 < m.getD n 0
   ·rw [if_pos h2, sgn_lt (lv_drop_lt ol om hlm (by omega) hd h2)]
   ·rw [if_neg h2, sgn_gt (lv_drop_lt om ol hlm.symm (by omega) hd.symm (by omega))]
theorem l02CompareLimbs {l m : List Int} (ol : Okl l) (om : Okl m) (tl : Tight l) (tm : Tight m) (hl : l.length ≤ 1000000000) (hm : m.length ≤ 1000000000) : Ev (fun k => spec_l02CompareLimbs.f k l m) (sgn (lv l - lv m)) := by
 refine ⟨l.length + 2, fun k hk => ?_⟩
 show spec_l02CompareLimbs.f k l m = _
 unfold spec_l02CompareLimbs.f
 by_cases h1 : l.length = m.length
 ·rw [if_pos (by omega), w64s (by omega) (by omega)]
  exact l02CompareLimbs_loop ol om h1 hl l.length k (Nat.le_refl _) (by rw [List.drop_length, h1, List.drop_length]) (by omega)
 ·rw [if_neg (by omega)]
  by_cases h2 : l.length < m.length
  ·rw [if_pos (by omega), sgn_lt (lv_lt_of_length ol om tm h2)]
  ·rw [if_neg (by omega), sgn_gt (lv_lt_of_length om ol tl (by omega))]
theorem l01Own (l : List Int) (h : l.length ≤ 1000000000000) : spec_l01Own.f l = some l := by
 unfold spec_l01Own.f
 simp only [Option.bind_some, List.nil_append, List.length_nil, Nat.zero_add]
 rw [if_pos (by omega)]
theorem lv_take_zero {l : List Int} {n : Nat} (hn : n < l.length) (h : l.getD n 0 = 0) : lv (l.take (n + 1)) = lv (l.take n) := by
 rw [lv_take_succ hn, h]
 omega
theorem tight_take {l : List Int} {n : Nat} (hn : n < l.length) (h : l.getD n 0 ≠ 0) : Tight (l.take (n + 1)) := by
 intro hne
 rw [tight_getD hne, List.length_take, Nat.min_eq_left (by omega), Nat.add_sub_cancel, List.getD_eq_getElem?_getD, List.getElem?_take, if_pos (by omega), ← List.getD_eq_getElem?_getD]
 exact h
theorem l02Make_loop {s : Int} (hs : s = 1 ∨ s = -1) {l : List Int} (ol : Okl l) (hl : l.length ≤ 1000000000) (n : Nat) : ∀ k, n ≤ l.length → lv (l.take n) = lv l → n < k →
  spec_l02Make.l0 k s l (n : Int) = some (cn (s * lv l)) := by
 induction n with
 | zero =>
  intro k h0 hd hk
  obtain ⟨k, rfl⟩ : ∃ m, k = m + 1 := ⟨k - 1, by omega⟩
  simp only [spec_l02Make.l0]
  rw [if_neg (by omega), if_pos (by omega), ← hd, show s * lv (l.take 0) = 0 from by simp [lv]]
  congr 1
  simp only [cn, show (0 : Int).natAbs = 0 from rfl, limbs_zero]
  rfl
 | succ n ih =>
  intro k h0 hd hk
  obtain ⟨k, rfl⟩ : ∃ m, k = m + 1 := ⟨k - 1, by omega⟩
  simp only [spec_l02Make.l0]
  rw [if_pos (by omega), w64s (by omega) (by omega), show ((n + 1 : Nat) : Int) - 1 = (n : Int) from by omega, if_pos (by omega), if_pos (by omega), rd_cast]
  by_cases h1 : l.getD n 0 = 0
  ·rw [if_pos h1]
   exact ih k (by omega) (by rw [← hd, lv_take_zero (by omega) h1]) (by omega)
  ·rw [if_neg h1, if_neg (by omega), if_pos (by omega), if_pos (by omega), Int.toNat_natCast, l01Own _ (by rw [List.length_take, Nat.min_eq_left (by omega)]; omega)]
   simp only [Option.bind_some]
   have ht := tight_take (show n < l.length from by omega) h1
   have ho := okl_take ol (n + 1)
   have hne : l.take (n + 1) ≠ [] := by
    intro e
    have := congrArg List.length e
    rw [List.length_take, List.length_nil, Nat.min_eq_left (by omega)] at this
    omega
   have hc : CW s (l.take (n + 1)) := ⟨ho, ht, fun e => absurd e hne, fun _ => hs⟩
   rw [hc.eq, hc.val, hd]
theorem l02Make {s : Int} (hs : s = 1 ∨ s = -1) {l : List Int} (ol : Okl l) (hl : l.length ≤ 1000000000) : Ev (fun k => spec_l02Make.f k s l) (cn (s * lv l)) := by
 refine ⟨l.length + 1, fun k hk => ?_⟩
 show spec_l02Make.f k s l = _
 unfold spec_l02Make.f
 exact l02Make_loop hs ol hl l.length k (Nat.le_refl _) (by rw [List.take_of_length_le (Nat.le_refl _)]) (by omega)
end Go.Proofs.YtghhphndbbefjaaDoor.Pur
