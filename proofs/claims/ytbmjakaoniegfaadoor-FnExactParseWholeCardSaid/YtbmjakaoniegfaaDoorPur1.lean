/- The reference's comparing, measuring and making of whole numbers, as plain mathematics. Conditions: limbs in range, lengths to 10^9. -/
import Derived.Test.YtbmjakaoniegfaaDoorPur0
import Derived.Test.YtbmjakaoniegfaaDoorMathM
import Derived.Test.YtbmjakaoniegfaaDoorX1
namespace Go.Proofs.YtbmjakaoniegfaaDoor.Pur
open Go.RowKit Go.Proofs.YtbmjakaoniegfaaDoor.X Go.Proofs.YtbmjakaoniegfaaDoorW.PrintWords Go.Proofs.YtbmjakaoniegfaaDoorW.PrintLast Go.Proofs.YtbmjakaoniegfaaDoor.Math
set_option linter.unusedVariables false
set_option linter.unusedSimpArgs false

/-- One unit of fuel more. -/
theorem Ev.step {α : Type} {F g : Nat → Option α} {r : α} (h : ∀ k, F (k + 1) = g k) (e : Ev g r) : Ev F r := by
  obtain ⟨K, hK⟩ := e
  refine ⟨K + 1, fun k hk => ?_⟩
  obtain ⟨k, rfl⟩ : ∃ m, k = m + 1 := ⟨k - 1, by omega⟩
  rw [h]
  exact hK k (by omega)
/-- Read as another. -/
theorem Ev.as {α : Type} {F g : Nat → Option α} {r : α} (h : ∀ k, F k = g k) (e : Ev g r) : Ev F r := by
  obtain ⟨K, hK⟩ := e
  exact ⟨K, fun k hk => by rw [h]; exact hK k hk⟩
theorem l01Own (l : List Int) (h : l.length ≤ 1000000000000) : spec_l01Own.f l = some l := by
  unfold spec_l01Own.f
  simp only [Option.bind_some, List.nil_append, List.length_nil, Nat.zero_add]
  rw [if_pos (by omega)]
/-- Limbs that end with 0 have one less. -/
theorem lv_take_zero {l : List Int} {n : Nat} (hn : n < l.length) (h : l.getD n 0 = 0) : lv (l.take (n + 1)) = lv (l.take n) := by
  rw [lv_take_succ hn, h]
  omega
theorem tight_take {l : List Int} {n : Nat} (hn : n < l.length) (h : l.getD n 0 ≠ 0) : Tight (l.take (n + 1)) := by
  intro hne
  rw [tight_getD hne, List.length_take, Nat.min_eq_left (by omega), Nat.add_sub_cancel, List.getD_eq_getElem?_getD, List.getElem?_take, if_pos (by omega), ← List.getD_eq_getElem?_getD]
  exact h
theorem l02Make_loop {s : Int} (hs : s = 1 ∨ s = -1) {l : List Int} (ol : Okl l) (hl : l.length ≤ 1000000000) (n : Nat) : ∀ k, n ≤ l.length → lv (l.take n) = lv l → n < k →
    spec_l02Make.l0 k s l (n : Int) = some (cn (s * lv l)) := by
  induction n with
  | zero =>
    intro k h0 hd hk
    obtain ⟨k, rfl⟩ : ∃ m, k = m + 1 := ⟨k - 1, by omega⟩
    simp only [spec_l02Make.l0]
    rw [if_neg (by omega), if_pos (by omega), ← hd, show s * lv (l.take 0) = 0 from by simp [lv]]
    congr 1
    simp only [cn, show (0 : Int).natAbs = 0 from rfl, limbs_zero]
    rfl
  | succ n ih =>
    intro k h0 hd hk
    obtain ⟨k, rfl⟩ : ∃ m, k = m + 1 := ⟨k - 1, by omega⟩
    simp only [spec_l02Make.l0]
    rw [if_pos (by omega), w64s (by omega) (by omega), show ((n + 1 : Nat) : Int) - 1 = (n : Int) from by omega, if_pos (by omega), if_pos (by omega), rd_cast]
    by_cases h1 : l.getD n 0 = 0
    · rw [if_pos h1]
      exact ih k (by omega) (by rw [← hd, lv_take_zero (by omega) h1]) (by omega)
    · rw [if_neg h1, if_neg (by omega), if_pos (by omega), if_pos (by omega), Int.toNat_natCast, l01Own _ (by rw [List.length_take, Nat.min_eq_left (by omega)]; omega)]
      simp only [Option.bind_some]
      have ht := tight_take (show n < l.length from by omega) h1
      have ho := okl_take ol (n + 1)
      have hne : l.take (n + 1) ≠ [] := by
        intro e
        have := congrArg List.length e
        rw [List.length_take, List.length_nil, Nat.min_eq_left (by omega)] at this
        omega
      have hc : CW s (l.take (n + 1)) := ⟨ho, ht, fun e => absurd e hne, fun _ => hs⟩
      rw [hc.eq, hc.val, hd]
theorem l02Make {s : Int} (hs : s = 1 ∨ s = -1) {l : List Int} (ol : Okl l) (hl : l.length ≤ 1000000000) : Ev (fun k => spec_l02Make.f k s l) (cn (s * lv l)) := by
  refine ⟨l.length + 1, fun k hk => ?_⟩
  show spec_l02Make.f k s l = _
  unfold spec_l02Make.f
  exact l02Make_loop hs ol hl l.length k (Nat.le_refl _) (by rw [List.take_of_length_le (Nat.le_refl _)]) (by omega)
end Go.Proofs.YtbmjakaoniegfaaDoor.Pur
