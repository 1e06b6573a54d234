/- The law FnExactIsDyadic, as a plain statement: it answers true at every sign, limbs and exponent. -/
import Derived.Test.YtbmjakaoniegfaaPur0
import Derived.Test.YtbmjakaoniegfaaX16
namespace Go.Proofs.Ytbmjakaoniegfaa.Pur
open Go.RowKit Go.Proofs.Ytbmjakaoniegfaa Go.Proofs.Ytbmjakaoniegfaa.X Go.Proofs.YtbmjakaoniegfaaW.PrintWords Go.Proofs.YtbmjakaoniegfaaW.PrintLast Go.Proofs.Ytbmjakaoniegfaa.Math
set_option linter.unusedVariables false
set_option linter.unusedSimpArgs false

/-- One unit of fuel more. -/
theorem dyadStep {α : Type} {F g : Nat → Option α} {r : α} (h : ∀ k, F (k + 1) = g k) (e : Ev g r) : Ev F r := by
  obtain ⟨K, hK⟩ := e
  refine ⟨K + 1, fun k hk => ?_⟩
  obtain ⟨k, rfl⟩ : ∃ m, k = m + 1 := ⟨k - 1, by omega⟩
  rw [h]
  exact hK k (by omega)
theorem isD_tail {s : Int} {l : List Int} {e : Int} (h : isW s l = true) : (if s = 0 then some (e == 0) else if 0 < (l.length : Int) then some (Int.tmod (rd l 0) 2 == 1) else none) = some (if s = 0 then e == 0 else Int.tmod (l.getD 0 0) 2 == 1) := by
  by_cases hs : s = 0
  · rw [if_pos hs, if_pos hs]
  · have hne := isW_ne h hs
    have hp : 0 < l.length := List.length_pos_iff.2 hne
    rw [if_neg hs, if_neg hs, if_pos (by omega)]
    rfl
theorem specIsDyadic (s : Int) (l : List Int) (e : Int) (hl : l.length ≤ 1000000000) : Ev (fun k => spec_IsDyadic.f k s l e) (isD s l e) := by
  unfold spec_IsDyadic.f spec_l03Is.f
  refine Ev.bind (f := fun _ t291 => some t291) ?_ (Ev.now _)
  refine Ev.bind (l02Is s l hl) ?_
  unfold isD
  cases h : isW s l
  · simp only [Bool.false_eq_true, if_false, Bool.false_and]
    exact dyadStep (fun k => by rw [spec_l03Is.j0, if_pos rfl]) (Ev.now _)
  · simp only [if_true, l01In, Option.bind_some, Bool.true_and]
    cases h2 : (decide (-5000 ≤ e) && decide (e ≤ 5000))
    · exact dyadStep (fun k => by simp [spec_l03Is.j0]) (Ev.now _)
    · refine dyadStep (fun k => by rw [spec_l03Is.j0, if_neg (by simp), isD_tail h, Bool.true_and]) (Ev.now _)
theorem between (x lo hi : Int) : impl_between.f x lo hi = some (decide (lo ≤ x) && decide (x ≤ hi)) := by
  unfold impl_between.f
  by_cases h : lo ≤ x
  · rw [if_pos h]
    simp [h]
  · rw [if_neg h]
    simp [h]
theorem implIsDyadic (s : Int) (l : List Int) (e : Int) (hl : l.length ≤ 1000000000) : Ev (fun k => impl_IsDyadic.f k s l e) (isD s l e) := by
  unfold impl_IsDyadic.f impl_IsWhole.f
  simp only [if_pos hl, Option.bind_some]
  unfold isD
  cases h : isW s l
  · simp only [Bool.false_eq_true, if_false, Bool.false_and]
    exact dyadStep (fun k => by rw [impl_IsDyadic.j0, if_pos rfl]) (Ev.now _)
  · simp only [if_true, between, Option.bind_some, Bool.true_and]
    cases h2 : (decide (-5000 ≤ e) && decide (e ≤ 5000))
    · exact dyadStep (fun k => by simp [impl_IsDyadic.j0]) (Ev.now _)
    · refine dyadStep (fun k => by rw [impl_IsDyadic.j0, if_neg (by simp), isD_tail h, Bool.true_and]) (Ev.now _)
theorem szDyadic (s : Int) (l : List Int) (e left : Int) (h0 : 0 ≤ left) (h1 : left ≤ 1048576) (hl : l.length ≤ maxLen) :
    laws_szDyadic.f s l e left = some (if left - l.length < 0 then -1 else left - l.length) := by
  unfold laws_szDyadic.f
  rw [szWhole s l left h0 h1 hl]
  simp only [Option.bind_some]
  by_cases h : left - (l.length : Int) < 0
  · simp [h]
  · rw [if_neg h, if_neg h]
theorem toDyadic (s : Int) (l : List Int) (e : Int) (hl : l.length ≤ 1048576) : Ev (fun k => laws_toDyadic.f k s l e) (s, l, e) := by
  unfold laws_toDyadic.f
  exact Ev.bind (f := fun _ t => some (t.1, t.2, e)) (toWhole s l hl) (Ev.now _)
theorem eqDyadic (s : Int) (l : List Int) (e : Int) (hl : l.length ≤ 1048576) : Ev (fun k => laws_eqDyadic.f k s l e s l e) true := by
  unfold laws_eqDyadic.f
  simp only [if_true]
  exact Ev.bind (f := fun _ t => if t = true then some true else some false) (eqWhole s l hl) (Ev.now _)
theorem lawIsDyadic (s : Int) (l : List Int) (e : Int) (hl : l.length ≤ maxLen) : ∃ k, laws_FnExactIsDyadic.f k s l e = some true := by
  refine Ev.rounds ?_
  unfold laws_FnExactIsDyadic.f
  simp only [szDyadic s l e 1048576 (by omega) (by omega) hl, Option.bind_some]
  by_cases h : (1048576 : Int) - l.length < 0
  · simp only [if_pos h]
    exact Ev.now true
  · simp only [if_neg h]
    have hn : l.length ≤ 1048576 := by omega
    refine Ev.bind (toDyadic s l e hn) ?_
    refine Ev.bind (specIsDyadic s l e (by omega)) ?_
    refine Ev.bind (toDyadic s l e hn) ?_
    refine Ev.bind (implIsDyadic s l e (by omega)) ?_
    simp only [bne_self_eq_false, Bool.false_eq_true, if_false]
    refine Ev.bind (toDyadic s l e hn) ?_
    exact Ev.bind (f := fun _ t => if t = true then some true else some false) (eqDyadic s l e hn) (Ev.now _)
end Go.Proofs.Ytbmjakaoniegfaa.Pur
