/- Plain facts on what the laws and the reference reckon: sizes, copies, comparisons of whole numbers; IsWhole of the reference. Conditions: at most 1048576 limbs. -/
import Derived.Test.YtdbdhgimokaooaaDoorG27
import Derived.Test.YtdbdhgimokaooaaDoorMathM
/- The reference's comparing, measuring and making of whole numbers, as plain mathematics. Conditions: limbs in range, lengths to 10^9. -/
namespace Go.Proofs.YtdbdhgimokaooaaDoor.Pur
open Go.RowKit Go.Proofs.YtdbdhgimokaooaaDoor.X Go.Proofs.YtdbdhgimokaooaaDoorW.PrintWords Go.Proofs.YtdbdhgimokaooaaDoorW.PrintLast Go.Proofs.YtdbdhgimokaooaaDoor.Math
set_option linter.unusedVariables false
set_option linter.unusedSimpArgs false
theorem eqInt64S_loop (l : List Int) (hl : l.length ≤ 1048576) (d : Nat) : ∀ (k i : Nat), i ≤ l.length → l.length - i = d → d < k → laws_eqInt64S.l0 k l l (i : Int) = some true := by
 induction d with
 | zero =>
  intro k i h0 h1 hk
  obtain ⟨k, rfl⟩ : ∃ m, k = m + 1 := ⟨k - 1, by omega⟩
  simp only [laws_eqInt64S.l0]
  rw [if_neg (by omega)]
 | succ d ih =>
  intro k i h0 h1 hk
  obtain ⟨k, rfl⟩ : ∃ m, k = m + 1 := ⟨k - 1, by omega⟩
  simp only [laws_eqInt64S.l0]
  rw [if_pos (by omega), if_pos (by omega), if_pos (by omega), if_pos trivial, w64s (by omega) (by omega), show (i : Int) + 1 = ((i + 1 : Nat) : Int) from by omega]
  exact ih k (i + 1) (by omega) (by omega) (by omega)
theorem eqInt64S (l : List Int) (hl : l.length ≤ 1048576) : Ev (fun k => laws_eqInt64S.f k l l) true := by
 refine ⟨l.length + 1, fun k hk => ?_⟩
 show laws_eqInt64S.f k l l = some true
 unfold laws_eqInt64S.f
 rw [if_pos rfl]
 exact eqInt64S_loop l hl l.length k 0 (Nat.zero_le _) rfl (by omega)
theorem eqWhole (s : Int) (l : List Int) (hl : l.length ≤ 1048576) : Ev (fun k => laws_eqWhole.f k s l s l) true := by
 unfold laws_eqWhole.f
 simp only [if_true]
 exact Ev.bind (f := fun _ t => if t = true then some true else some false) (eqInt64S l hl) (Ev.now _)
end Go.Proofs.YtdbdhgimokaooaaDoor.Pur
namespace Go.Proofs.YtdbdhgimokaooaaDoor.Pur
open Go.RowKit Go.Proofs.YtdbdhgimokaooaaDoor.X Go.Proofs.YtdbdhgimokaooaaDoorW.PrintWords Go.Proofs.YtdbdhgimokaooaaDoorW.PrintLast Go.Proofs.YtdbdhgimokaooaaDoor.Math
set_option linter.unusedVariables false
set_option linter.unusedSimpArgs false
theorem Ev.step {α : Type} {F g : Nat → Option α} {r : α} (h : ∀ k, F (k + 1) = g k) (e : Ev g r) : Ev F r := by
 obtain ⟨K, hK⟩ := e
 refine ⟨K + 1, fun k hk => ?_⟩
 obtain ⟨k, rfl⟩ : ∃ m, k = m + 1 := ⟨k - 1, by omega⟩
 rw [h]
 exact hK k (by omega)
theorem Ev.as {α : Type} {F g : Nat → Option α} {r : α} (h : ∀ k, F k = g k) (e : Ev g r) : Ev F r := by
 obtain ⟨K, hK⟩ := e
 exact ⟨K, fun k hk => by rw [h]; exact hK k hk⟩
theorem l01Own (l : List Int) (h : l.length ≤ 1000000000000) : spec_l01Own.f l = some l := by
 unfold spec_l01Own.f
 simp only [Option.bind_some, List.nil_append, List.length_nil, Nat.zero_add]
 rw [if_pos (by omega)]
theorem lv_take_zero {l : List Int} {n : Nat} (hn : n < l.length) (h : l.getD n 0 = 0) : lv (l.take (n + 1)) = lv (l.take n) := by
 rw [lv_take_succ hn, h]
 omega
theorem tight_take {l : List Int} {n : Nat} (hn : n < l.length) (h : l.getD n 0 ≠ 0) : Tight (l.take (n + 1)) := by
 intro hne
 rw [tight_getD hne, List.length_take, Nat.min_eq_left (by omega), Nat.add_sub_cancel, List.getD_eq_getElem?_getD, List.getElem?_take, if_pos (by omega), ← List.getD_eq_getElem?_getD]
 exact h
theorem l02Make_loop {s : Int} (hs : s = 1 ∨ s = -1) {l : List Int} (ol : Okl l) (hl : l.length ≤ 1000000000) (n : Nat) : ∀ k, n ≤ l.length → lv (l.take n) = lv l → n < k →
  spec_l02Make.l0 k s l (n : Int) = some (cn (s * lv l)) := by
 induction n with
 | zero =>
  intro k h0 hd hk
  obtain ⟨k, rfl⟩ : ∃ m, k = m + 1 := ⟨k - 1, by omega⟩
  simp only [spec_l02Make.l0]
  rw [if_neg (by omega), if_pos (by omega), ← hd, show s * lv (l.take 0) = 0 from by simp [lv]]
  congr 1
  simp only [cn, show (0 : Int).natAbs = 0 from rfl, limbs_zero]
  rfl
 | succ n ih =>
  intro k h0 hd hk
  obtain ⟨k, rfl⟩ : ∃ m, k = m + 1 := ⟨k - 1, by omega⟩
  simp only [spec_l02Make.l0]
  rw [if_pos (by omega), w64s (by omega) (by omega), show ((n + 1 : Nat) : Int) - 1 = (n : Int) from by omega, if_pos (by omega), if_pos (by omega), rd_cast]
  by_cases h1 : l.getD n 0 = 0
  ·rw [if_pos h1]
   exact ih k (by omega) (by rw [← hd, lv_take_zero (by omega) h1]) (by omega)
  ·rw [if_neg h1, if_neg (by omega), if_pos (by omega), if_pos (by omega), Int.toNat_natCast, l01Own _ (by rw [List.length_take, Nat.min_eq_left (by omega)]; omega)]
   simp only [Option.bind_some]
   have ht := tight_take (show n < l.length from by omega) h1
   have ho := okl_take ol (n + 1)
   have hne : l.take (n + 1) ≠ [] := by
    intro e
    have := congrArg List.length e
    rw [List.length_take, List.length_nil, Nat.min_eq_left (by omega)] at this
    omega
   have hc : CW s (l.take (n + 1)) := ⟨ho, ht, fun e => absurd e hne, fun _ => hs⟩
   rw [hc.eq, hc.val, hd]
theorem l02Make {s : Int} (hs : s = 1 ∨ s = -1) {l : List Int} (ol : Okl l) (hl : l.length ≤ 1000000000) : Ev (fun k => spec_l02Make.f k s l) (cn (s * lv l)) := by
 refine ⟨l.length + 1, fun k hk => ?_⟩
 show spec_l02Make.f k s l = _
 unfold spec_l02Make.f
 exact l02Make_loop hs ol hl l.length k (Nat.le_refl _) (by rw [List.take_of_length_le (Nat.le_refl _)]) (by omega)
theorem l02Of_loop {s : Int} (hs : s = 1 ∨ s = -1) (n : Nat) : ∀ (x : Int) (acc : List Int), x.natAbs = n → -9223372036854775808 ≤ x → x ≤ 9223372036854775807 → Okl acc → acc.length + (limbs n).length ≤ 1000 →
  Ev (fun k => spec_l02Of.l0 k x s acc) (cn (s * (lv acc + 16777216 ^ acc.length * x.natAbs))) := by
 induction n using Nat.strongRecOn with
 | ind n ih =>
  intro x acc hx h0 h1 ok hl
  by_cases e : x = 0
  ·subst e
   refine Ev.step (g := fun k => (spec_l02Make.f k s acc).bind fun bt239 => (some (bt239.1, bt239.2))) (fun k => by simp [spec_l02Of.l0]) ?_
   have := l02Make hs ok (show acc.length ≤ 1000000000 from by omega)
   rw [show (lv acc + 16777216 ^ acc.length * ((0 : Int).natAbs : Int)) = lv acc from by simp]
   exact Ev.bind (f := fun _ bt239 => some (bt239.1, bt239.2)) this (Ev.now _)
  ·have hne : n ≠ 0 := by omega
   have hd : (Int.tdiv x 16777216).natAbs = n / 16777216 := by rw [Int.natAbs_tdiv, hx]; rfl
   have hm : (Int.tmod x 16777216).natAbs = n % 16777216 := by rw [Int.natAbs_tmod, hx]; rfl
   rw [limbs_pos hne, List.length_cons] at hl
   have step : ∀ d : Int, d = ((n % 16777216 : Nat) : Int) → Ev (fun k => spec_l02Of.l0 k (Int.tdiv x 16777216) s (acc ++ [d])) (cn (s * (lv acc + 16777216 ^ acc.length * x.natAbs))) := by
    intro d hd2
    have := ih (n / 16777216) (by omega) (Int.tdiv x 16777216) (acc ++ [d]) hd (by omega) (by omega) (ok.append (okl_single (by omega))) (by rw [List.length_append, List.length_singleton]; omega)
    have hv : lv (acc ++ [d]) + 16777216 ^ (acc ++ [d]).length * ((Int.tdiv x 16777216).natAbs : Int) = lv acc + 16777216 ^ acc.length * x.natAbs := by
     rw [lv_append, hd, hx, List.length_append, List.length_singleton, Int.pow_succ, Int.add_assoc, Int.mul_assoc, ← Int.mul_add]
     congr 2
     simp only [lv]
     omega
    rwa [hv] at this
   by_cases hneg : Int.tmod x 16777216 < 0
   ·refine Ev.step (fun k => ?_) (step (-(Int.tmod x 16777216)) (by omega))
    simp only [spec_l02Of.l0]
    rw [if_neg e, if_pos hneg, if_pos (by omega), w64s (by omega) (by omega), w64s (by omega) (by omega)]
   ·refine Ev.step (fun k => ?_) (step (Int.tmod x 16777216) (by omega))
    simp only [spec_l02Of.l0]
    rw [if_neg e, if_neg hneg, if_pos (by omega), w64s (by omega) (by omega)]
theorem l02Of {x : Int} (h0 : -9223372036854775808 ≤ x) (h1 : x ≤ 9223372036854775807) : Ev (fun k => spec_l02Of.f k x) (cn x) := by
 have hl : (limbs x.natAbs).length ≤ 3 := limbs_length_le (by omega)
 unfold spec_l02Of.f
 simp only [Option.bind_some]
 by_cases hx : x < 0
 ·simp only [if_pos hx]
  refine Ev.step (g := fun k => spec_l02Of.l0 k x (-1) []) (fun k => by simp [spec_l02Of.j0]) ?_
  have := l02Of_loop (s := -1) (.inr rfl) x.natAbs x [] rfl h0 h1 Okl.nil (by simp; omega)
  rwa [show (-1 : Int) * (lv [] + 16777216 ^ ([] : List Int).length * (x.natAbs : Int)) = x from by simp [lv]; omega] at this
 ·simp only [if_neg hx]
  refine Ev.step (g := fun k => spec_l02Of.l0 k x 1 []) (fun k => by simp [spec_l02Of.j0]) ?_
  have := l02Of_loop (s := 1) (.inl rfl) x.natAbs x [] rfl h0 h1 Okl.nil (by simp; omega)
  rwa [show (1 : Int) * (lv [] + 16777216 ^ ([] : List Int).length * (x.natAbs : Int)) = x from by simp [lv]; omega] at this
end Go.Proofs.YtdbdhgimokaooaaDoor.Pur
