/- Plain facts on what the laws and the reference reckon: sizes, copies, comparisons of whole numbers; IsWhole of the reference. Conditions: at most 1048576 limbs. -/
import Derived.Test.YtlkomiiijhphnaaDoorG16
import Derived.Test.YtlkomiiijhphnaaDoorMathM
import Derived.Test.YtlkomiiijhphnaaDoorG18
import Derived.Test.YtlkomiiijhphnaaDoorX8
import Derived.Test.YtlkomiiijhphnaaDoorG15
/- The reference's comparing, measuring and making of whole numbers, as plain mathematics. Conditions: limbs in range, lengths to 10^9. -/
namespace Go.Proofs.YtlkomiiijhphnaaDoor.Pur
open Go.RowKit Go.Proofs.YtlkomiiijhphnaaDoor.X Go.Proofs.YtlkomiiijhphnaaDoorW.PrintWords Go.Proofs.YtlkomiiijhphnaaDoorW.PrintLast Go.Proofs.YtlkomiiijhphnaaDoor.Math
set_option linter.unusedVariables false
set_option linter.unusedSimpArgs false
theorem l01In (x lo hi : Int) : spec_l01In.f x lo hi = some (decide (lo ≤ x) && decide (x ≤ hi)) := by
 unfold spec_l01In.f
 by_cases h : lo ≤ x
 ·rw [if_pos h]
  simp [h]
 ·rw [if_neg h]
  simp [h]
theorem l02Is_loop (s : Int) (l : List Int) (hl : l.length ≤ 1000000000) (d : Nat) : ∀ (k i : Nat), i ≤ l.length → l.length - i = d → d < k →
  spec_l02Is.l0 k (l.length : Int) (i : Int) s l = some ((l.drop i).all limbOk && tailOk s l) := by
 induction d with
 | zero =>
  intro k i h0 h1 hk
  obtain ⟨k, rfl⟩ : ∃ m, k = m + 1 := ⟨k - 1, by omega⟩
  obtain rfl : i = l.length := by omega
  simp only [spec_l02Is.l0]
  rw [if_neg (by omega), List.drop_of_length_le (Nat.le_refl _), List.all_nil, Bool.true_and]
  unfold tailOk
  by_cases e : l = []
  ·subst e
   simp
  ·have hp : 0 < l.length := List.length_pos_iff.2 e
   rw [if_neg (by omega), if_neg e]
   by_cases h2 : l.length ≤ 200
   ·rw [if_pos (by omega), w64s (by omega) (by omega), if_pos (by omega), if_pos (by omega)]
    rw [show (l.length : Int) - 1 = ((l.length - 1 : Nat) : Int) from by omega, rd_cast]
    generalize l.getD (l.length - 1) 0 = g
    by_cases h3 : g = 0
    ·rw [if_pos h3]
     simp [h3, h2]
    ·rw [if_neg h3]
     by_cases h4 : s = 1
     ·rw [if_pos h4]
      simp [h4, h2, h3]
     ·rw [if_neg h4]
      have e1 : (g != 0) = true := by simpa using h3
      have e2 : (s == 1) = false := by simpa using h4
      rw [e1, e2]
      simp [h2]
   ·rw [if_neg (by omega)]
    simp [h2]
 | succ d ih =>
  intro k i h0 h1 hk
  obtain ⟨k, rfl⟩ : ∃ m, k = m + 1 := ⟨k - 1, by omega⟩
  simp only [spec_l02Is.l0]
  have hin : spec_l01In.f (l.getD i 0) 0 16777215 = some (limbOk (l.getD i 0)) := l01In _ _ _
  rw [if_pos (by omega), if_pos (by omega), if_pos (by omega), rd_cast, hin, all_drop l i (by omega)]
  simp only [Option.bind_some]
  by_cases hb : limbOk (l.getD i 0) = true
  ·rw [if_pos hb, w64s (by omega) (by omega), show (i : Int) + 1 = ((i + 1 : Nat) : Int) from by omega, ih k (i + 1) (by omega) (by omega) (by omega), hb, Bool.true_and]
  ·rw [if_neg hb]
   simp only [Bool.not_eq_true] at hb
   rw [hb, Bool.false_and, Bool.false_and]
theorem l02Is (s : Int) (l : List Int) (hl : l.length ≤ 1000000000) : Ev (fun k => spec_l02Is.f k s l) (isW s l) := by
 refine ⟨l.length + 1, fun k hk => ?_⟩
 show spec_l02Is.f k s l = some (isW s l)
 unfold spec_l02Is.f
 have := l02Is_loop s l hl l.length k 0 (Nat.zero_le _) rfl (by omega)
 simpa [isW] using this
end Go.Proofs.YtlkomiiijhphnaaDoor.Pur
namespace Go.Proofs.YtlkomiiijhphnaaDoor.Pur
open Go.RowKit Go.Proofs.YtlkomiiijhphnaaDoor.X Go.Proofs.YtlkomiiijhphnaaDoorW.PrintWords Go.Proofs.YtlkomiiijhphnaaDoorW.PrintLast Go.Proofs.YtlkomiiijhphnaaDoor.Math
set_option linter.unusedVariables false
set_option linter.unusedSimpArgs false
theorem Ev.step {α : Type} {F g : Nat → Option α} {r : α} (h : ∀ k, F (k + 1) = g k) (e : Ev g r) : Ev F r := by
 obtain ⟨K, hK⟩ := e
 refine ⟨K + 1, fun k hk => ?_⟩
 obtain ⟨k, rfl⟩ : ∃ m, k = m + 1 := ⟨k - 1, by omega⟩
 rw [h]
 exact hK k (by omega)
theorem Ev.as {α : Type} {F g : Nat → Option α} {r : α} (h : ∀ k, F k = g k) (e : Ev g r) : Ev F r := by
 obtain ⟨K, hK⟩ := e
 exact ⟨K, fun k hk => by rw [h]; exact hK k hk⟩
theorem l02Length_loop (k : Nat) : ∀ (y : Nat) (x : Int), y ≤ 16777215 → nlen y < k → 0 ≤ x → x + nlen y ≤ 1000000000000 → spec_l02Length.l0 k x (y : Int) = some (x + nlen y) := by
 induction k with
 | zero =>
  intro y x hy hk
  omega
 | succ k ih =>
  intro y x hb hk h0 h1
  simp only [spec_l02Length.l0]
  by_cases hy : y = 0
  ·subst hy
   rw [if_neg (by omega)]
   simp [nlen]
  ·have hs := nlen_step hy
   have htd : Int.tdiv (y : Int) 2 = ((y / 2 : Nat) : Int) := by rw [Int.tdiv_eq_ediv_of_nonneg (by omega)]; omega
   rw [if_pos (by omega), htd, w64s (by omega) (by omega), w64s (by omega) (by omega), ih (y / 2) (x + 1) (by omega) (by omega) (by omega) (by omega)]
   congr 1
   omega
theorem nlen_le {y k : Nat} (h : y < 2 ^ k) : nlen y ≤ k := by
 unfold nlen
 split
 ·omega
 ·have := (Nat.log2_lt (by omega)).2 h
  omega
theorem l02Length {s : Int} {l : List Int} (hw : CW s l) (hl : l.length ≤ 1000000000) : Ev (fun k => spec_l02Length.f k s l) ((blen (wv s l) : Nat) : Int) := by
 refine ⟨30, fun k hk => ?_⟩
 show spec_l02Length.f k s l = _
 unfold spec_l02Length.f
 by_cases e : l = []
 ·rw [if_pos (by rw [e]; rfl), e, hw.z e]
  rfl
 ·have hp : 0 < l.length := List.length_pos_iff.2 e
  have ht := hw.ti e
  rw [tight_getD e] at ht
  have hb := okl_getD hw.ok (l.length - 1)
  rw [if_neg (by omega), w64s (by omega) (by omega), if_pos (by omega), if_pos (by omega), w64s (by omega) (by omega), show (l.length : Int) - 1 = ((l.length - 1 : Nat) : Int) from by omega, rd_cast]
  obtain ⟨ys, y, rfl⟩ : ∃ ys y, l = ys ++ [y] := (snoc_cases l).resolve_left e
  have hy : (ys ++ [y]).getD ((ys ++ [y]).length - 1) 0 = y := by simp
  rw [hy] at ht hb ⊢
  have hn : nlen y.toNat ≤ 24 := nlen_le (by omega)
  have he := blen_limbs hw.ok ht
  rw [blen_wv hw, he]
  have := l02Length_loop k y.toNat (((ys ++ [y]).length - 1 : Nat) * 24) (by omega) (by omega) (by omega) (by simp at hl ⊢; omega)
  rw [show ((y.toNat : Nat) : Int) = y from by omega] at this
  rw [this]
  congr 1
  simp
  omega
theorem drop_getD {xs : List Int} {k : Nat} (h : k < xs.length) : xs.drop k = xs.getD k 0 :: xs.drop (k + 1) := by
 rw [List.getD_eq_getElem?_getD, List.getElem?_eq_getElem h]
 exact List.drop_eq_getElem_cons h
theorem l02CompareLimbs_loop {l m : List Int} (ol : Okl l) (om : Okl m) (hlm : l.length = m.length) (hl : l.length ≤ 1000000000) (n : Nat) : ∀ k, n ≤ l.length → l.drop n = m.drop n → n < k →
  spec_l02CompareLimbs.l0 k l m ((n : Int) - 1) = some (sgn (lv l - lv m)) := by
 induction n with
 | zero =>
  intro k h0 hd hk
  obtain ⟨k, rfl⟩ : ∃ m, k = m + 1 := ⟨k - 1, by omega⟩
  simp only [spec_l02CompareLimbs.l0]
  rw [if_neg (by omega)]
  simp only [List.drop_zero] at hd
  rw [hd, Int.sub_self]
  rfl
 | succ n ih =>
  intro k h0 hd hk
  obtain ⟨k, rfl⟩ : ∃ m, k = m + 1 := ⟨k - 1, by omega⟩
  simp only [spec_l02CompareLimbs.l0]
  rw [show ((n + 1 : Nat) : Int) - 1 = (n : Int) from by omega, if_pos (by omega), if_pos (by omega), if_pos (by omega), if_pos (by omega), rd_cast, rd_cast]
  by_cases h1 : l.getD n 0 = m.getD n 0
  ·rw [if_pos h1, w64s (by omega) (by omega)]
   refine ih k (by omega) ?_ (by omega)
   rw [drop_getD (show n < l.length from by omega), drop_getD (show n < m.length from by omega), h1, hd]
  ·rw [if_neg h1]
   by_cases h2 : l.getD n 0 < m.getD n 0
   ·rw [if_pos h2, sgn_lt (lv_drop_lt ol om hlm (by omega) hd h2)]
   ·rw [if_neg h2, sgn_gt (lv_drop_lt om ol hlm.symm (by omega) hd.symm (by omega))]
theorem l02CompareLimbs {l m : List Int} (ol : Okl l) (om : Okl m) (tl : Tight l) (tm : Tight m) (hl : l.length ≤ 1000000000) (hm : m.length ≤ 1000000000) : Ev (fun k => spec_l02CompareLimbs.f k l m) (sgn (lv l - lv m)) := by
 refine ⟨l.length + 2, fun k hk => ?_⟩
 show spec_l02CompareLimbs.f k l m = _
 unfold spec_l02CompareLimbs.f
 by_cases h1 : l.length = m.length
 ·rw [if_pos (by omega), w64s (by omega) (by omega)]
  exact l02CompareLimbs_loop ol om h1 hl l.length k (Nat.le_refl _) (by rw [List.drop_length, h1, List.drop_length]) (by omega)
 ·rw [if_neg (by omega)]
  by_cases h2 : l.length < m.length
  ·rw [if_pos (by omega), sgn_lt (lv_lt_of_length ol om tm h2)]
  ·rw [if_neg (by omega), sgn_gt (lv_lt_of_length om ol tl (by omega))]
theorem l02Compare {s t : Int} {l m : List Int} (h : CW s l) (g : CW t m) (hl : l.length ≤ 1000000000) (hm : m.length ≤ 1000000000) : Ev (fun k => spec_l02Compare.f k s l t m) (sgn (wv s l - wv t m)) := by
 have hs := h.sign
 have ht := g.sign
 rw [sgn_cw h g]
 unfold spec_l02Compare.f
 by_cases e : s = t
 ·rw [if_pos e]
  simp only [if_pos e]
  refine Ev.bind (f := fun _ t178 => some (wrap64 (s * t178))) (l02CompareLimbs h.ok g.ok h.ti g.ti hl hm) ?_
  have hb := sgn_bounds (lv l - lv m)
  generalize sgn (lv l - lv m) = z at hb ⊢
  have : -1 ≤ s * z ∧ s * z ≤ 1 := by
   rcases (show s = -1 ∨ s = 0 ∨ s = 1 from by omega) with rfl | rfl | rfl <;> omega
  rw [w64s (by omega) (by omega)]
  exact Ev.now _
 ·rw [if_neg e]
  simp only [if_neg e]
  by_cases h2 : s < t
  ·rw [if_pos h2]
   simp only [if_pos h2]
   exact Ev.now _
  ·rw [if_neg h2]
   simp only [if_neg h2]
   exact Ev.now _
theorem l02Both (s : Int) (l : List Int) (t : Int) (m : List Int) (hl : l.length ≤ 1000000000) (hm : m.length ≤ 1000000000) : Ev (fun k => spec_l02Both.f k s l t m) (if isW s l && isW t m then 0 else 1) := by
 unfold spec_l02Both.f
 refine Ev.bind (l02Is s l hl) ?_
 cases isW s l
 ·exact Ev.now _
 ·simp only [if_true, Bool.true_and]
  refine Ev.bind (l02Is t m hm) ?_
  cases isW t m
  ·exact Ev.now _
  ·exact Ev.now _
theorem l01Own (l : List Int) (h : l.length ≤ 1000000000000) : spec_l01Own.f l = some l := by
 unfold spec_l01Own.f
 simp only [Option.bind_some, List.nil_append, List.length_nil, Nat.zero_add]
 rw [if_pos (by omega)]
theorem lv_take_zero {l : List Int} {n : Nat} (hn : n < l.length) (h : l.getD n 0 = 0) : lv (l.take (n + 1)) = lv (l.take n) := by
 rw [lv_take_succ hn, h]
 omega
theorem tight_take {l : List Int} {n : Nat} (hn : n < l.length) (h : l.getD n 0 ≠ 0) : Tight (l.take (n + 1)) := by
 intro hne
 rw [tight_getD hne, List.length_take, Nat.min_eq_left (by omega), Nat.add_sub_cancel, List.getD_eq_getElem?_getD, List.getElem?_take, if_pos (by omega), ← List.getD_eq_getElem?_getD]
 exact h
theorem l02Make_loop {s : Int} (hs : s = 1 ∨ s = -1) {l : List Int} (ol : Okl l) (hl : l.length ≤ 1000000000) (n : Nat) : ∀ k, n ≤ l.length → lv (l.take n) = lv l → n < k →
  spec_l02Make.l0 k s l (n : Int) = some (cn (s * lv l)) := by
 induction n with
 | zero =>
  intro k h0 hd hk
  obtain ⟨k, rfl⟩ : ∃ m, k = m + 1 := ⟨k - 1, by omega⟩
  simp only [spec_l02Make.l0]
  rw [if_neg (by omega), if_pos (by omega), ← hd, show s * lv (l.take 0) = 0 from by simp [lv]]
  congr 1
  simp only [cn, show (0 : Int).natAbs = 0 from rfl, limbs_zero]
  rfl
 | succ n ih =>
  intro k h0 hd hk
  obtain ⟨k, rfl⟩ : ∃ m, k = m + 1 := ⟨k - 1, by omega⟩
  simp only [spec_l02Make.l0]
  rw [if_pos (by omega), w64s (by omega) (by omega), show ((n + 1 : Nat) : Int) - 1 = (n : Int) from by omega, if_pos (by omega), if_pos (by omega), rd_cast]
  by_cases h1 : l.getD n 0 = 0
  ·rw [if_pos h1]
   exact ih k (by omega) (by rw [← hd, lv_take_zero (by omega) h1]) (by omega)
  ·rw [if_neg h1, if_neg (by omega), if_pos (by omega), if_pos (by omega), Int.toNat_natCast, l01Own _ (by rw [List.length_take, Nat.min_eq_left (by omega)]; omega)]
   simp only [Option.bind_some]
   have ht := tight_take (show n < l.length from by omega) h1
   have ho := okl_take ol (n + 1)
   have hne : l.take (n + 1) ≠ [] := by
    intro e
    have := congrArg List.length e
    rw [List.length_take, List.length_nil, Nat.min_eq_left (by omega)] at this
    omega
   have hc : CW s (l.take (n + 1)) := ⟨ho, ht, fun e => absurd e hne, fun _ => hs⟩
   rw [hc.eq, hc.val, hd]
theorem l02Make {s : Int} (hs : s = 1 ∨ s = -1) {l : List Int} (ol : Okl l) (hl : l.length ≤ 1000000000) : Ev (fun k => spec_l02Make.f k s l) (cn (s * lv l)) := by
 refine ⟨l.length + 1, fun k hk => ?_⟩
 show spec_l02Make.f k s l = _
 unfold spec_l02Make.f
 exact l02Make_loop hs ol hl l.length k (Nat.le_refl _) (by rw [List.take_of_length_le (Nat.le_refl _)]) (by omega)
theorem l02Of_loop {s : Int} (hs : s = 1 ∨ s = -1) (n : Nat) : ∀ (x : Int) (acc : List Int), x.natAbs = n → -9223372036854775808 ≤ x → x ≤ 9223372036854775807 → Okl acc → acc.length + (limbs n).length ≤ 1000 →
  Ev (fun k => spec_l02Of.l0 k x s acc) (cn (s * (lv acc + 16777216 ^ acc.length * x.natAbs))) := by
 induction n using Nat.strongRecOn with
 | ind n ih =>
  intro x acc hx h0 h1 ok hl
  by_cases e : x = 0
  ·subst e
   refine Ev.step (g := fun k => (spec_l02Make.f k s acc).bind fun bt239 => (some (bt239.1, bt239.2))) (fun k => by simp [spec_l02Of.l0]) ?_
   have := l02Make hs ok (show acc.length ≤ 1000000000 from by omega)
   rw [show (lv acc + 16777216 ^ acc.length * ((0 : Int).natAbs : Int)) = lv acc from by simp]
   exact Ev.bind (f := fun _ bt239 => some (bt239.1, bt239.2)) this (Ev.now _)
  ·have hne : n ≠ 0 := by omega
   have hd : (Int.tdiv x 16777216).natAbs = n / 16777216 := by rw [Int.natAbs_tdiv, hx]; rfl
   have hm : (Int.tmod x 16777216).natAbs = n % 16777216 := by rw [Int.natAbs_tmod, hx]; rfl
   rw [limbs_pos hne, List.length_cons] at hl
   have step : ∀ d : Int, d = ((n % 16777216 : Nat) : Int) → Ev (fun k => spec_l02Of.l0 k (Int.tdiv x 16777216) s (acc ++ [d])) (cn (s * (lv acc + 16777216 ^ acc.length * x.natAbs))) := by
    intro d hd2
    have := ih (n / 16777216) (by omega) (Int.tdiv x 16777216) (acc ++ [d]) hd (by omega) (by omega) (ok.append (okl_single (by omega))) (by rw [List.length_append, List.length_singleton]; omega)
    have hv : lv (acc ++ [d]) + 16777216 ^ (acc ++ [d]).length * ((Int.tdiv x 16777216).natAbs : Int) = lv acc + 16777216 ^ acc.length * x.natAbs := by
     rw [lv_append, hd, hx, List.length_append, List.length_singleton, Int.pow_succ, Int.add_assoc, Int.mul_assoc, ← Int.mul_add]
     congr 2
     simp only [lv]
     omega
    rwa [hv] at this
   by_cases hneg : Int.tmod x 16777216 < 0
   ·refine Ev.step (fun k => ?_) (step (-(Int.tmod x 16777216)) (by omega))
    simp only [spec_l02Of.l0]
    rw [if_neg e, if_pos hneg, if_pos (by omega), w64s (by omega) (by omega), w64s (by omega) (by omega)]
   ·refine Ev.step (fun k => ?_) (step (Int.tmod x 16777216) (by omega))
    simp only [spec_l02Of.l0]
    rw [if_neg e, if_neg hneg, if_pos (by omega), w64s (by omega) (by omega)]
theorem l02Of {x : Int} (h0 : -9223372036854775808 ≤ x) (h1 : x ≤ 9223372036854775807) : Ev (fun k => spec_l02Of.f k x) (cn x) := by
 have hl : (limbs x.natAbs).length ≤ 3 := limbs_length_le (by omega)
 unfold spec_l02Of.f
 simp only [Option.bind_some]
 by_cases hx : x < 0
 ·simp only [if_pos hx]
  refine Ev.step (g := fun k => spec_l02Of.l0 k x (-1) []) (fun k => by simp [spec_l02Of.j0]) ?_
  have := l02Of_loop (s := -1) (.inr rfl) x.natAbs x [] rfl h0 h1 Okl.nil (by simp; omega)
  rwa [show (-1 : Int) * (lv [] + 16777216 ^ ([] : List Int).length * (x.natAbs : Int)) = x from by simp [lv]; omega] at this
 ·simp only [if_neg hx]
  refine Ev.step (g := fun k => spec_l02Of.l0 k x 1 []) (fun k => by simp [spec_l02Of.j0]) ?_
  have := l02Of_loop (s := 1) (.inl rfl) x.natAbs x [] rfl h0 h1 Okl.nil (by simp; omega)
  rwa [show (1 : Int) * (lv [] + 16777216 ^ ([] : List Int).length * (x.natAbs : Int)) = x from by simp [lv]; omega] at this
end Go.Proofs.YtlkomiiijhphnaaDoor.Pur
namespace Go.Proofs.YtlkomiiijhphnaaDoor.Pur
open Go.RowKit Go.Proofs.YtlkomiiijhphnaaDoor.X Go.Proofs.YtlkomiiijhphnaaDoorW.PrintWords Go.Proofs.YtlkomiiijhphnaaDoorW.PrintLast Go.Proofs.YtlkomiiijhphnaaDoor.Math
set_option linter.unusedVariables false
set_option linter.unusedSimpArgs false
end Go.Proofs.YtlkomiiijhphnaaDoor.Pur
