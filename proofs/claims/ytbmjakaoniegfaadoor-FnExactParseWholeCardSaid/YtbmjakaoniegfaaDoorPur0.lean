/- Plain facts on what the laws and the reference reckon: sizes, copies, comparisons of whole numbers; IsWhole of the reference. Conditions: at most 1048576 limbs. -/
import Derived.Test.YtbmjakaoniegfaaDoorX3
import Derived.Test.YtbmjakaoniegfaaDoorX1
import Derived.Test.YtbmjakaoniegfaaDoorMathM
namespace Go.Proofs.YtbmjakaoniegfaaDoor.Pur
open Go.RowKit Go.Proofs.YtbmjakaoniegfaaDoor.X Go.Proofs.YtbmjakaoniegfaaDoorW.PrintWords Go.Proofs.YtbmjakaoniegfaaDoorW.PrintLast Go.Proofs.YtbmjakaoniegfaaDoor.Math
set_option linter.unusedVariables false
set_option linter.unusedSimpArgs false

theorem ev_of_loop {α : Type} {g : Nat → Option α} {r : α} (h : ∃ K, ∀ k, K ≤ k → g k = some r) : Ev g r := h

theorem eqInt64S_loop (l : List Int) (hl : l.length ≤ 1048576) (d : Nat) : ∀ (k i : Nat), i ≤ l.length → l.length - i = d → d < k → laws_eqInt64S.l0 k l l (i : Int) = some true := by
  induction d with
  | zero =>
    intro k i h0 h1 hk
    obtain ⟨k, rfl⟩ : ∃ m, k = m + 1 := ⟨k - 1, by omega⟩
    simp only [laws_eqInt64S.l0]
    rw [if_neg (by omega)]
  | succ d ih =>
    intro k i h0 h1 hk
    obtain ⟨k, rfl⟩ : ∃ m, k = m + 1 := ⟨k - 1, by omega⟩
    simp only [laws_eqInt64S.l0]
    rw [if_pos (by omega), if_pos (by omega), if_pos (by omega), if_pos trivial, w64s (by omega) (by omega), show (i : Int) + 1 = ((i + 1 : Nat) : Int) from by omega]
    exact ih k (i + 1) (by omega) (by omega) (by omega)
theorem eqInt64S (l : List Int) (hl : l.length ≤ 1048576) : Ev (fun k => laws_eqInt64S.f k l l) true := by
  refine ⟨l.length + 1, fun k hk => ?_⟩
  show laws_eqInt64S.f k l l = some true
  unfold laws_eqInt64S.f
  rw [if_pos rfl]
  exact eqInt64S_loop l hl l.length k 0 (Nat.zero_le _) rfl (by omega)
theorem eqWhole (s : Int) (l : List Int) (hl : l.length ≤ 1048576) : Ev (fun k => laws_eqWhole.f k s l s l) true := by
  unfold laws_eqWhole.f
  simp only [if_true]
  exact Ev.bind (f := fun _ t => if t = true then some true else some false) (eqInt64S l hl) (Ev.now _)

theorem l01In (x lo hi : Int) : spec_l01In.f x lo hi = some (decide (lo ≤ x) && decide (x ≤ hi)) := by
  unfold spec_l01In.f
  by_cases h : lo ≤ x
  · rw [if_pos h]
    simp [h]
  · rw [if_neg h]
    simp [h]
theorem l02Is_loop (s : Int) (l : List Int) (hl : l.length ≤ 1000000000) (d : Nat) : ∀ (k i : Nat), i ≤ l.length → l.length - i = d → d < k →
    spec_l02Is.l0 k (l.length : Int) (i : Int) s l = some ((l.drop i).all limbOk && tailOk s l) := by
  induction d with
  | zero =>
    intro k i h0 h1 hk
    obtain ⟨k, rfl⟩ : ∃ m, k = m + 1 := ⟨k - 1, by omega⟩
    obtain rfl : i = l.length := by omega
    simp only [spec_l02Is.l0]
    rw [if_neg (by omega), List.drop_of_length_le (Nat.le_refl _), List.all_nil, Bool.true_and]
    unfold tailOk
    by_cases e : l = []
    · subst e
      simp
    · have hp : 0 < l.length := List.length_pos_iff.2 e
      rw [if_neg (by omega), if_neg e]
      by_cases h2 : l.length ≤ 200
      · rw [if_pos (by omega), w64s (by omega) (by omega), if_pos (by omega), if_pos (by omega)]
        rw [show (l.length : Int) - 1 = ((l.length - 1 : Nat) : Int) from by omega, rd_cast]
        generalize l.getD (l.length - 1) 0 = g
        by_cases h3 : g = 0
        · rw [if_pos h3]
          simp [h3, h2]
        · rw [if_neg h3]
          by_cases h4 : s = 1
          · rw [if_pos h4]
            simp [h4, h2, h3]
          · rw [if_neg h4]
            have e1 : (g != 0) = true := by simpa using h3
            have e2 : (s == 1) = false := by simpa using h4
            rw [e1, e2]
            simp [h2]
      · rw [if_neg (by omega)]
        simp [h2]
  | succ d ih =>
    intro k i h0 h1 hk
    obtain ⟨k, rfl⟩ : ∃ m, k = m + 1 := ⟨k - 1, by omega⟩
    simp only [spec_l02Is.l0]
    have hin : spec_l01In.f (l.getD i 0) 0 16777215 = some (limbOk (l.getD i 0)) := l01In _ _ _
    rw [if_pos (by omega), if_pos (by omega), if_pos (by omega), rd_cast, hin, all_drop l i (by omega)]
    simp only [Option.bind_some]
    by_cases hb : limbOk (l.getD i 0) = true
    · rw [if_pos hb, w64s (by omega) (by omega), show (i : Int) + 1 = ((i + 1 : Nat) : Int) from by omega, ih k (i + 1) (by omega) (by omega) (by omega), hb, Bool.true_and]
    · rw [if_neg hb]
      simp only [Bool.not_eq_true] at hb
      rw [hb, Bool.false_and, Bool.false_and]
theorem l02Is (s : Int) (l : List Int) (hl : l.length ≤ 1000000000) : Ev (fun k => spec_l02Is.f k s l) (isW s l) := by
  refine ⟨l.length + 1, fun k hk => ?_⟩
  show spec_l02Is.f k s l = some (isW s l)
  unfold spec_l02Is.f
  have := l02Is_loop s l hl l.length k 0 (Nat.zero_le _) rfl (by omega)
  simpa [isW] using this
end Go.Proofs.YtbmjakaoniegfaaDoor.Pur
