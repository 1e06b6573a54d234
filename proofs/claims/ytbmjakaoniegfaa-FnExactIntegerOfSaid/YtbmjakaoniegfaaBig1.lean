/- The walks of trimmed and put: digits without zeros at the end; a number gets its sign and digits. Conditions: the receiver is a bigInt, the digits are digits in memory. -/
import Derived.Test.YtbmjakaoniegfaaBig0
import Derived.Test.YtbmjakaoniegfaaMath0
namespace Go.Proofs.Ytbmjakaoniegfaa.Big
open Go.RowKit Go.Proofs.YtbmjakaoniegfaaW.PrintWords Go.Proofs.Ytbmjakaoniegfaa.Math
set_option linter.unusedVariables false
set_option linter.unusedSimpArgs false

/-- The cell at the end of digits. -/
theorem Digs.last {w : World} {A : Option Addr} {c n : Nat} {ys : List Int} {y : Int} (h : Digs w (.slice A n c) (ys ++ [y])) :
    n = ys.length + 1 ∧ ∃ g, A = some ⟨g, 0, none⟩ ∧ w.cell? ⟨g, ys.length, none⟩ = some (.int .u32 y) ∧ ys.length + 1 ≤ 9223372036854775807 ∧ ys.length + 1 ≤ c := by
  have h' : w.ownsRow 0 66 1 (.slice A n c) (ys ++ [y]).length (nums .u32 (ys ++ [y])) := h
  have hl : (ys ++ [y]).length = ys.length + 1 := by simp
  rw [hl] at h'
  obtain ⟨g, cap, he, _, _⟩ := h'.form (by omega)
  injection he with e1 e2 e3
  subst e1 e2 e3
  have hc := own_at h' (ys.length : Int) (by omega) (by omega)
  refine ⟨rfl, g, rfl, ?_, ?_⟩
  · have := hc.1
    simpa [rd] using this
  · rcases h'.2 with ⟨h1, _⟩ | ⟨g', cap', cur, h1, _, _, h2, h3, _⟩
    · cases h1
    · injection h1 with _ _ h1
      subst h1
      simp only [maxLen] at h3
      omega
theorem Digs.empty {w : World} {A : Option Addr} {c n : Nat} (h : Digs w (.slice A n c) []) : n = 0 := by
  rcases h.2 with ⟨h1, _⟩ | ⟨g', cap', cur, h1, _⟩
  · injection h1
  · injection h1
theorem Digs.cut {w : World} {g c : Nat} {ys : List Int} {y : Int} (h : Digs w (.slice (some ⟨g, 0, none⟩) (ys.length + 1) c) (ys ++ [y])) :
    Digs w (.slice (some ⟨g, 0, none⟩) ys.length c) ys := by
  rcases h.2 with ⟨h1, _⟩ | ⟨g', cap', cur, h1, h2, h3, h4, h5, h6, h7⟩
  · cases h1
  · injection h1 with e1 e2 e3
    injection e1 with e1
    injection e1 with e1
    subst e1 e3
    simp only [List.length_append, List.length_cons, List.length_nil, Nat.zero_add, Nat.mul_one] at h4 h7
    refine ⟨by simp [nums], .inr ⟨g, c, cur, rfl, h2, h3, by omega, h5, h6, ?_⟩⟩
    have := congrArg (List.take ys.length) h7
    rw [List.take_take, Nat.min_eq_left (by omega)] at this
    rw [Nat.mul_one, this]
    simp [nums]
theorem Digs.shape {w : World} {v : Value} {xs : List Int} (h : Digs w v xs) : ∃ A c, v = .slice A xs.length c := own_slice h

set_option maxHeartbeats 400000 in
theorem trimmed_calls (v : Value) (xs : List Int) (w : World) (hv : Digs w v xs) :
    Calls Try.prog 52 #[v] w fun e w' => ∃ v', e = .returned v' ∧ Digs w v' (trim xs) ∧ w' = w := by
  obtain ⟨A, c, rfl⟩ := hv.shape
  have HV := Aside0.mk hv
  clear hv
  go_enter Try.func52, Try.ntmps52
  go_wp2
  go_loop [0] (fun u => ∃ (A : Option Addr) (c n : Nat) (l : List Int), u = .slice A n c ∧ Aside0 (Digs w (.slice A n c) l ∧ trim l = trim xs)) (fun u => match u with | .slice _ n _ => n | _ => 0)
  case atStart => exact ⟨A, c, _, xs, rfl, ⟨HV.out, rfl⟩⟩
  case round =>
    obtain ⟨A, c, n, l, rfl, hl⟩ := hrel
    rcases snoc_cases l with rfl | ⟨ys, y, rfl⟩
    · have hn := hl.out.1.empty
      subst hn
      go_wp2
      go_ret
      exact ⟨_, rfl, hl.out.2 ▸ hl.out.1, rfl⟩
    · obtain ⟨rfl, g, rfl, hcell, hb, hb2⟩ := hl.out.1.last
      by_cases hy : y = 0
      · subst hy
        go_wp2
        go_round
        case rel => exact ⟨_, _, _, ys, rfl, ⟨hl.out.1.cut, by rw [← hl.out.2, trim_snoc_zero]⟩⟩
        case measure => simp
      · have hy' : (y == 0) = false := by simpa using hy
        go_wp2
        go_ret
        exact ⟨_, rfl, by rw [← hl.out.2, trim_snoc _ hy]; exact hl.out.1, rfl⟩

theorem big_cells {w : World} {z : Nat} {n : Bool} {v : Value} (h : w.heap[z]? = some (.cells #[.bool n, v] 59 (0, 0))) :
    w.cell? ⟨z, 0, none⟩ = some (.bool n) ∧ w.cell? ⟨z, 1, none⟩ = some v ∧ w.frozen? ⟨z, 0, none⟩ = false ∧ w.frozen? ⟨z, 1, none⟩ = false :=
  ⟨(blk_cell h 0).trans rfl, (blk_cell h 1).trans rfl, blk_frozen h 0, blk_frozen h 1⟩
theorem grownBy_store (w : World) (z i : Nat) (v : Value) : w.grownBy (w.setCell ⟨z, i, none⟩ v) (some z) :=
  ⟨rfl, rfl, rfl, by simp, fun k hk hne => Below.heap_setCell w _ v k (fun e => hne (by rw [e]))⟩
theorem put_end {w : World} {z : Nat} {n b : Bool} {v v' : Value} {xs : List Int} (h : w.heap[z]? = some (.cells #[.bool n, v] 59 (0, 0))) (hd : Digs w v' xs) :
    BigAt ((w.setCell ⟨z, 1, none⟩ v').setCell ⟨z, 0, none⟩ (.bool b)) z b xs ∧ w.grownBy ((w.setCell ⟨z, 1, none⟩ v').setCell ⟨z, 0, none⟩ (.bool b)) (some z) := by
  have hg : w.grownBy ((w.setCell ⟨z, 1, none⟩ v').setCell ⟨z, 0, none⟩ (.bool b)) (some z) := (grownBy_store w z 1 v').trans (grownBy_store _ z 0 _)
  refine ⟨⟨v', ?_, hd.grown hg ⟨_, _, h⟩⟩, hg⟩
  exact blk_put (cs := #[.bool n, v']) (blk_put (cs := #[.bool n, v]) h 1 _ rfl) 0 _ rfl

set_option maxHeartbeats 400000 in
theorem put_calls (z : Nat) (neg n0 : Bool) (v v0 : Value) (xs : List Int) (w : World) (hz : w.heap[z]? = some (.cells #[.bool n0, v0] 59 (0, 0))) (hv : Digs w v xs) :
    Calls Try.prog 48 #[.pointer (some ⟨z, 0, none⟩), .bool neg, v] w fun e w' => e = .returned (.pointer (some ⟨z, 0, none⟩)) ∧ BigAt w' z (neg && decide (trim xs ≠ [])) (trim xs) ∧ w.grownBy w' (some z) := by
  obtain ⟨A, c, rfl⟩ := hv.shape
  have HV := Aside0.mk hv
  obtain ⟨c0, c1, f0, f1⟩ := big_cells hz
  have HZ := Aside0.mk hz
  clear hv hz
  have post : ∀ (b : Bool) (v' : Value), Aside0 (Digs w v' (trim xs) ∧ b = (neg && decide (trim xs ≠ []))) → BigAt ((w.setCell ⟨z, 1, none⟩ v').setCell ⟨z, 0, none⟩ (.bool b)) z (neg && decide (trim xs ≠ [])) (trim xs) ∧ w.grownBy ((w.setCell ⟨z, 1, none⟩ v').setCell ⟨z, 0, none⟩ (.bool b)) (some z) := by
    rintro b v' ⟨h1, h2⟩
    have := put_end (b := b) HZ.out h1
    exact h2 ▸ this
  have PO := Aside0.mk post
  clear post
  go_enter Try.func48, Try.ntmps48
  go_wp2_with fail
  refine (trimmed_calls _ xs _ HV.out).mono ?_
  rintro e w' ⟨v', rfl, h2, rfl⟩
  obtain ⟨A', c', rfl⟩ := h2.shape
  have H2 := Aside0.mk h2
  clear h2
  cases neg
  · go_wp2
    go_ret
    exact ⟨rfl, PO.out _ _ ⟨H2.out, rfl⟩⟩
  · by_cases ht : trim xs = []
    · have hp : decide ((0 : Int) < ((trim xs).length : Int)) = false := by rw [ht]; rfl
      have HT := Aside0.mk ht
      clear ht
      go_wp2
      go_ret
      exact ⟨rfl, PO.out _ _ ⟨H2.out, by simp [HT.out]⟩⟩
    · have hl : 0 < (trim xs).length := List.length_pos_iff.2 ht
      go_wp2
      go_ret
      exact ⟨rfl, PO.out _ _ ⟨H2.out, by simp [ht]⟩⟩
end Go.Proofs.Ytbmjakaoniegfaa.Big
