/- The laws' marks in results: written one after the other, and held. Conditions: at most 1048576 limbs. -/
import Derived.Test.YtdbdhgimokaooaaDoorPurA
import Derived.Test.YtdbdhgimokaooaaDoorG27
namespace Go.Proofs.YtdbdhgimokaooaaDoor.Pur
open Go.RowKit Go.Proofs.YtdbdhgimokaooaaDoor.X Go.Proofs.YtdbdhgimokaooaaDoorW.PrintWords Go.Proofs.YtdbdhgimokaooaaDoorW.PrintLast Go.Proofs.YtdbdhgimokaooaaDoor.Math
set_option linter.unusedVariables false
set_option linter.unusedSimpArgs false
def marks : Int → Nat → List Int
 | _, 0 => []
 | k, n + 1 => k :: marks (k + 1) n
theorem marks_length (n : Nat) : ∀ k, (marks k n).length = n := by
 induction n with
 | zero => intro k; rfl
 | succ n ih => intro k; simp [marks, ih]
theorem marks_snoc (n : Nat) : ∀ k, marks k (n + 1) = marks k n ++ [k + n] := by
 induction n with
 | zero => intro k; simp [marks]
 | succ n ih =>
  intro k
  have := ih (k + 1)
  rw [marks, this, marks, List.cons_append]
  congr 3
  omega
theorem marks_getD (n : Nat) : ∀ (k : Int) (i : Nat), i < n → (marks k n).getD i 0 = k + i := by
 induction n with
 | zero => intro k i hi; omega
 | succ n ih =>
  intro k i hi
  cases i with
  | zero => simp [marks]
  | succ i =>
   rw [marks, List.getD_cons_succ, ih (k + 1) i (by omega)]
   omega
theorem set_marks (l : List Int) (k : Int) (i : Nat) (h : i < l.length) : (marks k i ++ l.drop i).set i (k + i) = marks k (i + 1) ++ l.drop (i + 1) := by
 rw [List.set_append_right _ _ (by rw [marks_length]; omega), marks_length, Nat.sub_self, List.drop_eq_getElem_cons h, List.set_cons_zero, marks_snoc, List.append_assoc]
 rfl
theorem mark_loop (l : List Int) (k0 : Int) (h0 : 0 ≤ k0) (h1 : k0 ≤ 1000000000) (hl : l.length ≤ 1048576) (d : Nat) : ∀ (k i : Nat), i ≤ l.length → l.length - i = d → d < k →
  laws_markInt64S.l0 k (marks k0 i ++ l.drop i) (k0 + i) (i : Int) = some (k0 + l.length, marks k0 l.length) := by
 induction d with
 | zero =>
  intro k i hi hd hk
  obtain ⟨k, rfl⟩ : ∃ m, k = m + 1 := ⟨k - 1, by omega⟩
  obtain rfl : i = l.length := by omega
  simp only [laws_markInt64S.l0]
  rw [List.drop_length, List.append_nil, if_neg (by rw [marks_length]; omega)]
 | succ d ih =>
  intro k i hi hd hk
  obtain ⟨k, rfl⟩ : ∃ m, k = m + 1 := ⟨k - 1, by omega⟩
  simp only [laws_markInt64S.l0]
  have hlen : (marks k0 i ++ l.drop i).length = l.length := by rw [List.length_append, marks_length, List.length_drop]; omega
  rw [if_pos (by rw [hlen]; omega), if_pos (by omega), Int.toNat_natCast, set_marks l k0 i (by omega), w64s (by omega) (by omega), w64s (by omega) (by omega), show k0 + (i : Int) + 1 = k0 + ((i + 1 : Nat) : Int) from by omega, show (i : Int) + 1 = ((i + 1 : Nat) : Int) from by omega]
  exact ih k (i + 1) (by omega) (by omega) (by omega)
theorem markWhole (s : Int) (l : List Int) (k0 : Int) (h0 : 0 ≤ k0) (h1 : k0 ≤ 1000000000) (hl : l.length ≤ 1048576) : Ev (fun k => laws_markWhole.f k s l k0) (k0 + l.length, marks k0 l.length) := by
 unfold laws_markWhole.f
 refine Ev.bind (f := fun _ bt => some (bt.1, bt.2)) (a := (k0 + l.length, marks k0 l.length)) ?_ (Ev.now _)
 refine ⟨l.length + 1, fun k hk => ?_⟩
 show laws_markInt64S.f k l k0 = _
 unfold laws_markInt64S.f
 have := mark_loop l k0 h0 h1 hl l.length k 0 (Nat.zero_le _) rfl (by omega)
 simpa [marks] using this
theorem held_loop (n : Nat) (k0 : Int) (h0 : 0 ≤ k0) (h1 : k0 ≤ 1000000000) (hl : n ≤ 1048576) (d : Nat) : ∀ (k i : Nat), i ≤ n → n - i = d → d < k →
  laws_heldInt64S.l0 k (marks k0 n) (k0 + i) (i : Int) = some (k0 + n) := by
 induction d with
 | zero =>
  intro k i hi hd hk
  obtain ⟨k, rfl⟩ : ∃ m, k = m + 1 := ⟨k - 1, by omega⟩
  obtain rfl : i = n := by omega
  simp only [laws_heldInt64S.l0]
  rw [if_neg (by rw [marks_length]; omega)]
 | succ d ih =>
  intro k i hi hd hk
  obtain ⟨k, rfl⟩ : ∃ m, k = m + 1 := ⟨k - 1, by omega⟩
  simp only [laws_heldInt64S.l0]
  rw [if_pos (by rw [marks_length]; omega), if_pos (by omega), rd_cast, marks_getD n k0 i (by omega), if_pos rfl, w64s (by omega) (by omega), w64s (by omega) (by omega), show k0 + (i : Int) + 1 = k0 + ((i + 1 : Nat) : Int) from by omega, show (i : Int) + 1 = ((i + 1 : Nat) : Int) from by omega]
  exact ih k (i + 1) (by omega) (by omega) (by omega)
theorem heldWhole (s : Int) (n : Nat) (k0 : Int) (h0 : 0 ≤ k0) (h1 : k0 ≤ 1000000000) (hl : n ≤ 1048576) : Ev (fun k => laws_heldWhole.f k s (marks k0 n) k0) (k0 + n) := by
 unfold laws_heldWhole.f
 refine Ev.bind (f := fun _ t => if t < 0 then some (-1) else some t) (a := k0 + n) ?_ ?_
 ·refine ⟨n + 1, fun k hk => ?_⟩
  show laws_heldInt64S.f k (marks k0 n) k0 = _
  unfold laws_heldInt64S.f
  have := held_loop n k0 h0 h1 hl n k 0 (Nat.zero_le _) rfl (by omega)
  simpa using this
 ·simp only [if_neg (show ¬ k0 + (n : Int) < 0 from by omega)]
  exact Ev.now _
end Go.Proofs.YtdbdhgimokaooaaDoor.Pur
