/- Which signs and limbs are a whole number; their values. Plain Lean; no program. -/
import Derived.Test.YtbmjakaoniegfaaMath2
namespace Go.Proofs.Ytbmjakaoniegfaa.Math
open Go Go.RowKit Go.Proofs.YtbmjakaoniegfaaW.PrintWords
set_option linter.unusedVariables false
set_option linter.unusedSimpArgs false

def limbOk (x : Int) : Bool := decide (0 ≤ x) && decide (x ≤ 16777215)
/-- What is asked of the sign and of the limbs' end. -/
def tailOk (s : Int) (l : List Int) : Bool := if l = [] then s == 0 else decide (l.length ≤ 200) && ((l.getD (l.length - 1) 0 != 0) && (s == 1 || s == -1))
/-- A sign and limbs that are a whole number. -/
def isW (s : Int) (l : List Int) : Bool := l.all limbOk && tailOk s l

theorem isW_okl {s : Int} {l : List Int} (h : isW s l = true) : Okl l := by
  intro x hx
  have h1 := (Bool.and_eq_true_iff.1 h).1
  have h2 := List.all_eq_true.1 h1 x hx
  simp only [limbOk, Bool.and_eq_true, decide_eq_true_eq] at h2
  omega
theorem isW_len {s : Int} {l : List Int} (h : isW s l = true) : l.length ≤ 200 := by
  have h1 := (Bool.and_eq_true_iff.1 h).2
  unfold tailOk at h1
  by_cases e : l = []
  · subst e
    simp
  · rw [if_neg e] at h1
    simp only [Bool.and_eq_true, decide_eq_true_eq] at h1
    exact h1.1
theorem isW_nil {s : Int} (h : isW s [] = true) : s = 0 := by
  have h1 := (Bool.and_eq_true_iff.1 h).2
  simpa [tailOk] using h1
theorem isW_last {s : Int} {l : List Int} (h : isW s l = true) (hne : l ≠ []) : l.getD (l.length - 1) 0 ≠ 0 ∧ (s = 1 ∨ s = -1) := by
  have h1 := (Bool.and_eq_true_iff.1 h).2
  unfold tailOk at h1
  rw [if_neg hne] at h1
  simp only [Bool.and_eq_true, decide_eq_true_eq, bne_iff_ne, Bool.or_eq_true, beq_iff_eq] at h1
  exact ⟨h1.2.1, h1.2.2⟩
theorem isW_sign {s : Int} {l : List Int} (h : isW s l = true) : -1 ≤ s ∧ s ≤ 1 := by
  by_cases e : l = []
  · subst e
    have := isW_nil h
    omega
  · have := (isW_last h e).2
    omega
theorem rd_cast (l : List Int) (i : Nat) : rd l (i : Int) = l.getD i 0 := by simp [rd]
theorem all_drop (l : List Int) (i : Nat) (h : i < l.length) : (l.drop i).all limbOk = (limbOk (l.getD i 0) && (l.drop (i + 1)).all limbOk) := by
  rw [List.drop_eq_getElem_cons h, List.all_cons, List.getD_eq_getElem?_getD, List.getElem?_eq_getElem h]
  rfl
theorem w64s {x : Int} (h0 : -9223372036854775808 ≤ x) (h1 : x ≤ 9223372036854775807) : wrap64 x = x := by
  unfold wrap64
  omega
/-- A sign, limbs and an exponent that are an exact number. -/
def isD (s : Int) (l : List Int) (e : Int) : Bool := isW s l && ((decide (-5000 ≤ e) && decide (e ≤ 5000)) && (if s = 0 then e == 0 else Int.tmod (l.getD 0 0) 2 == 1))
theorem isW_ne {s : Int} {l : List Int} (h : isW s l = true) (hs : s ≠ 0) : l ≠ [] := fun e => hs (isW_nil (e ▸ h))
end Go.Proofs.Ytbmjakaoniegfaa.Math
