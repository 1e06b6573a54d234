/- Plain facts on what the laws and the reference reckon: sizes, copies, comparisons of whole numbers; IsWhole of the reference. Conditions: at most 1048576 limbs. -/
import Derived.Test.YtghhphndbbefjaaDoorG15
import Derived.Test.YtghhphndbbefjaaDoorX3
import Derived.Test.YtghhphndbbefjaaDoorMathM
/- The reference's comparing, measuring and making of whole numbers, as plain mathematics. Conditions: limbs in range, lengths to 10^9. -/
namespace Go.Proofs.YtghhphndbbefjaaDoor.Pur
open Go.RowKit Go.Proofs.YtghhphndbbefjaaDoor.X Go.Proofs.YtghhphndbbefjaaDoorW.PrintWords Go.Proofs.YtghhphndbbefjaaDoorW.PrintLast Go.Proofs.YtghhphndbbefjaaDoor.Math
set_option linter.unusedVariables false
set_option linter.unusedSimpArgs false
theorem szInt64S (l : List Int) (left : Int) (h0 : 0 ≤ left) (h1 : left ≤ 1048576) (hl : l.length ≤ maxLen) :
  laws_szInt64S.f l left = some (if left - l.length < 0 then -1 else left - l.length) := by
 unfold laws_szInt64S.f
 simp only [maxLen] at hl
 rw [w64s (by omega) (by omega)]
 split <;> rfl
theorem szWhole (s : Int) (l : List Int) (left : Int) (h0 : 0 ≤ left) (h1 : left ≤ 1048576) (hl : l.length ≤ maxLen) :
  laws_szWhole.f s l left = some (if left - l.length < 0 then -1 else left - l.length) := by
 unfold laws_szWhole.f
 rw [szInt64S l left h0 h1 hl]
 simp only [Option.bind_some]
 by_cases h : left - (l.length : Int) < 0
 ·simp [h]
 ·rw [if_neg h, if_neg h]
theorem set_copy (l : List Int) (i : Nat) (h : i < l.length) : (l.take i ++ List.replicate (l.length - i) 0).set i (l.getD i 0) = l.take (i + 1) ++ List.replicate (l.length - (i + 1)) 0 := by
 have hl : (l.take i).length = i := by rw [List.length_take]; omega
 have h2 := set_fill (l.take i) (l.length - (i + 1)) (l.getD i 0)
 rw [hl, show l.length - (i + 1) + 1 = l.length - i from by omega] at h2
 rw [h2, take_succ_getD h]
theorem toInt64S_loop (l : List Int) (hl : l.length ≤ 1048576) (d : Nat) : ∀ (k i : Nat), i ≤ l.length → l.length - i = d → d < k →
  laws_toInt64S.l0 k l (l.take i ++ List.replicate (l.length - i) 0) (i : Int) = some l := by
 induction d with
 | zero =>
  intro k i h0 h1 hk
  obtain ⟨k, rfl⟩ : ∃ m, k = m + 1 := ⟨k - 1, by omega⟩
  obtain rfl : i = l.length := by omega
  simp only [laws_toInt64S.l0]
  rw [if_neg (by omega), Nat.sub_self, List.take_of_length_le (Nat.le_refl _)]
  simp
 | succ d ih =>
  intro k i h0 h1 hk
  obtain ⟨k, rfl⟩ : ∃ m, k = m + 1 := ⟨k - 1, by omega⟩
  simp only [laws_toInt64S.l0]
  rw [if_pos (by omega), if_pos (by omega), if_pos (by simp; omega), rd_cast, Int.toNat_natCast, set_copy l i (by omega), w64s (by omega) (by omega), show (i : Int) + 1 = ((i + 1 : Nat) : Int) from by omega]
  exact ih k (i + 1) (by omega) (by omega) (by omega)
theorem toInt64S (l : List Int) (hl : l.length ≤ 1048576) : Ev (fun k => laws_toInt64S.f k l) l := by
 refine ⟨l.length + 1, fun k hk => ?_⟩
 show laws_toInt64S.f k l = some l
 unfold laws_toInt64S.f
 rw [if_pos (by omega), Int.toNat_natCast, if_pos (by omega)]
 have := toInt64S_loop l hl l.length k 0 (Nat.zero_le _) rfl (by omega)
 simpa using this
theorem toWhole (s : Int) (l : List Int) (hl : l.length ≤ 1048576) : Ev (fun k => laws_toWhole.f k s l) (s, l) :=
 Ev.bind (f := fun _ t => some (s, t)) (toInt64S l hl) (Ev.now _)
theorem eqInt64S_loop (l : List Int) (hl : l.length ≤ 1048576) (d : Nat) : ∀ (k i : Nat), i ≤ l.length → l.length - i = d → d < k → laws_eqInt64S.l0 k l l (i : Int) = some true := by
 induction d with
 | zero =>
  intro k i h0 h1 hk
  obtain ⟨k, rfl⟩ : ∃ m, k = m + 1 := ⟨k - 1, by omega⟩
  simp only [laws_eqInt64S.l0]
  rw [if_neg (by omega)]
 | succ d ih =>
  intro k i h0 h1 hk
  obtain ⟨k, rfl⟩ : ∃ m, k = m + 1 := ⟨k - 1, by omega⟩
  simp only [laws_eqInt64S.l0]
  rw [if_pos (by omega), if_pos (by omega), if_pos (by omega), if_pos trivial, w64s (by omega) (by omega), show (i : Int) + 1 = ((i + 1 : Nat) : Int) from by omega]
  exact ih k (i + 1) (by omega) (by omega) (by omega)
theorem eqInt64S (l : List Int) (hl : l.length ≤ 1048576) : Ev (fun k => laws_eqInt64S.f k l l) true := by
 refine ⟨l.length + 1, fun k hk => ?_⟩
 show laws_eqInt64S.f k l l = some true
 unfold laws_eqInt64S.f
 rw [if_pos rfl]
 exact eqInt64S_loop l hl l.length k 0 (Nat.zero_le _) rfl (by omega)
theorem eqWhole (s : Int) (l : List Int) (hl : l.length ≤ 1048576) : Ev (fun k => laws_eqWhole.f k s l s l) true := by
 unfold laws_eqWhole.f
 simp only [if_true]
 exact Ev.bind (f := fun _ t => if t = true then some true else some false) (eqInt64S l hl) (Ev.now _)
theorem l01In (x lo hi : Int) : spec_l01In.f x lo hi = some (decide (lo ≤ x) && decide (x ≤ hi)) := by
 unfold spec_l01In.f
 by_cases h : lo ≤ x
 ·rw [if_pos h]
  simp [h]
 ·rw [if_neg h]
  simp [h]
theorem l02Is_loop (s : Int) (l : List Int) (hl : l.length ≤ 1000000000) (d : Nat) : ∀ (k i : Nat), i ≤ l.length → l.length - i = d → d < k →
  spec_l02Is.l0 k (l.length : Int) (i : Int) s l = some ((l.drop i).all limbOk && tailOk s l) := by
 induction d with
 | zero =>
  intro k i h0 h1 hk
  obtain ⟨k, rfl⟩ : ∃ m, k = m + 1 := ⟨k - 1, by omega⟩
  obtain rfl : i = l.length := by omega
  simp only [spec_l02Is.l0]
  rw [if_neg (by omega), List.drop_of_length_le (Nat.le_refl _), List.all_nil, Bool.true_and]
  unfold tailOk
  by_cases e : l = []
  ·subst e
   simp
  ·have hp : 0 < l.length := List.length_pos_iff.2 e
   rw [if_neg (by omega), if_neg e]
   by_cases h2 : l.length ≤ 200
   ·rw [if_pos (by omega), w64s (by omega) (by omega), if_pos (by omega), if_pos (by omega)]
    rw [show (l.length : Int) - 1 = ((l.length - 1 : Nat) : Int) from by omega, rd_cast]
    generalize l.getD (l.length - 1) 0 = g
    by_cases h3 : g = 0
    ·rw [if_pos h3]
     simp [h3, h2]
    ·rw [if_neg h3]
     by_cases h4 : s = 1
     ·rw [if_pos h4]
      simp [h4, h2, h3]
     ·rw [if_neg h4]
      have e1 : (g != 0) = true := by simpa using h3
      have e2 : (s == 1) = false := by simpa using h4
      rw [e1, e2]
      simp [h2]
   ·rw [if_neg (by omega)]
    simp [h2]
 | succ d ih =>
  intro k i h0 h1 hk
  obtain ⟨k, rfl⟩ : ∃ m, k = m + 1 := ⟨k - 1, by omega⟩
  simp only [spec_l02Is.l0]
  have hin : spec_l01In.f (l.getD i 0) 0 16777215 = some (limbOk (l.getD i 0)) := l01In _ _ _
  rw [if_pos (by omega), if_pos (by omega), if_pos (by omega), rd_cast, hin, all_drop l i (by omega)]
  simp only [Option.bind_some]
  by_cases hb : limbOk (l.getD i 0) = true
  ·rw [if_pos hb, w64s (by omega) (by omega), show (i : Int) + 1 = ((i + 1 : Nat) : Int) from by omega, ih k (i + 1) (by omega) (by omega) (by omega), hb, Bool.true_and]
  ·rw [if_neg hb]
   simp only [Bool.not_eq_true] at hb
   rw [hb, Bool.false_and, Bool.false_and]
theorem l02Is (s : Int) (l : List Int) (hl : l.length ≤ 1000000000) : Ev (fun k => spec_l02Is.f k s l) (isW s l) := by
 refine ⟨l.length + 1, fun k hk => ?_⟩
 show spec_l02Is.f k s l = some (isW s l)
 unfold spec_l02Is.f
 have := l02Is_loop s l hl l.length k 0 (Nat.zero_le _) rfl (by omega)
 simpa [isW] using this
end Go.Proofs.YtghhphndbbefjaaDoor.Pur
namespace Go.Proofs.YtghhphndbbefjaaDoor.Pur
open Go.RowKit Go.Proofs.YtghhphndbbefjaaDoor.X Go.Proofs.YtghhphndbbefjaaDoorW.PrintWords Go.Proofs.YtghhphndbbefjaaDoorW.PrintLast Go.Proofs.YtghhphndbbefjaaDoor.Math
set_option linter.unusedVariables false
set_option linter.unusedSimpArgs false
theorem Ev.step {α : Type} {F g : Nat → Option α} {r : α} (h : ∀ k, F (k + 1) = g k) (e : Ev g r) : Ev F r := by
 obtain ⟨K, hK⟩ := e
 refine ⟨K + 1, fun k hk => ?_⟩
 obtain ⟨k, rfl⟩ : ∃ m, k = m + 1 := ⟨k - 1, by omega⟩
 rw [h]
 exact hK k (by omega)
theorem Ev.as {α : Type} {F g : Nat → Option α} {r : α} (h : ∀ k, F k = g k) (e : Ev g r) : Ev F r := by
 obtain ⟨K, hK⟩ := e
 exact ⟨K, fun k hk => by rw [h]; exact hK k hk⟩
theorem l02Length_loop (k : Nat) : ∀ (y : Nat) (x : Int), y ≤ 16777215 → nlen y < k → 0 ≤ x → x + nlen y ≤ 1000000000000 → spec_l02Length.l0 k x (y : Int) = some (x + nlen y) := by
 induction k with
 | zero =>
  intro y x hy hk
  omega
 | succ k ih =>
  intro y x hb hk h0 h1
  simp only [spec_l02Length.l0]
  by_cases hy : y = 0
  ·subst hy
   rw [if_neg (by omega)]
   simp [nlen]
  ·have hs := nlen_step hy
   have htd : Int.tdiv (y : Int) 2 = ((y / 2 : Nat) : Int) := by rw [Int.tdiv_eq_ediv_of_nonneg (by omega)]; omega
   rw [if_pos (by omega), htd, w64s (by omega) (by omega), w64s (by omega) (by omega), ih (y / 2) (x + 1) (by omega) (by omega) (by omega) (by omega)]
   congr 1
   omega
theorem nlen_le {y k : Nat} (h : y < 2 ^ k) : nlen y ≤ k := by
 unfold nlen
 split
 ·omega
 ·have := (Nat.log2_lt (by omega)).2 h
  omega
theorem l02Length {s : Int} {l : List Int} (hw : CW s l) (hl : l.length ≤ 1000000000) : Ev (fun k => spec_l02Length.f k s l) ((blen (wv s l) : Nat) : Int) := by
 refine ⟨30, fun k hk => ?_⟩
 show spec_l02Length.f k s l = _
 unfold spec_l02Length.f
 by_cases e : l = []
 ·rw [if_pos (by rw [e]; rfl), e, hw.z e]
  rfl
 ·have hp : 0 < l.length := List.length_pos_iff.2 e
  have ht := hw.ti e
  rw [tight_getD e] at ht
  have hb := okl_getD hw.ok (l.length - 1)
  rw [if_neg (by omega), w64s (by omega) (by omega), if_pos (by omega), if_pos (by omega), w64s (by omega) (by omega), show (l.length : Int) - 1 = ((l.length - 1 : Nat) : Int) from by omega, rd_cast]
  obtain ⟨ys, y, rfl⟩ : ∃ ys y, l = ys ++ [y] := (snoc_cases l).resolve_left e
  have hy : (ys ++ [y]).getD ((ys ++ [y]).length - 1) 0 = y := by simp
  rw [hy] at ht hb ⊢
  have hn : nlen y.toNat ≤ 24 := nlen_le (by omega)
  have he := blen_limbs hw.ok ht
  rw [blen_wv hw, he]
  have := l02Length_loop k y.toNat (((ys ++ [y]).length - 1 : Nat) * 24) (by omega) (by omega) (by omega) (by simp at hl ⊢; omega)
  rw [show ((y.toNat : Nat) : Int) = y from by omega] at this
  rw [this]
  congr 1
  simp
  omega
theorem l02Both (s : Int) (l : List Int) (t : Int) (m : List Int) (hl : l.length ≤ 1000000000) (hm : m.length ≤ 1000000000) : Ev (fun k => spec_l02Both.f k s l t m) (if isW s l && isW t m then 0 else 1) := by
 unfold spec_l02Both.f
 refine Ev.bind (l02Is s l hl) ?_
 cases isW s l
 ·exact Ev.now _
 ·simp only [if_true, Bool.true_and]
  refine Ev.bind (l02Is t m hm) ?_
  cases isW t m
  ·exact Ev.now _
  ·exact Ev.now _
theorem l01Own (l : List Int) (h : l.length ≤ 1000000000000) : spec_l01Own.f l = some l := by
 unfold spec_l01Own.f
 simp only [Option.bind_some, List.nil_append, List.length_nil, Nat.zero_add]
 rw [if_pos (by omega)]
theorem lv_take_zero {l : List Int} {n : Nat} (hn : n < l.length) (h : l.getD n 0 = 0) : lv (l.take (n + 1)) = lv (l.take n) := by
 rw [lv_take_succ hn, h]
 omega
theorem tight_take {l : List Int} {n : Nat} (hn : n < l.length) (h : l.getD n 0 ≠ 0) : Tight (l.take (n + 1)) := by
 intro hne
 rw [tight_getD hne, List.length_take, Nat.min_eq_left (by omega), Nat.add_sub_cancel, List.getD_eq_getElem?_getD, List.getElem?_take, if_pos (by omega), ← List.getD_eq_getElem?_getD]
 exact h
theorem l02Make_loop {s : Int} (hs : s = 1 ∨ s = -1) {l : List Int} (ol : Okl l) (hl : l.length ≤ 1000000000) (n : Nat) : ∀ k, n ≤ l.length → lv (l.take n) = lv l → n < k →
  spec_l02Make.l0 k s l (n : Int) = some (cn (s * lv l)) := by
 induction n with
 | zero =>
  intro k h0 hd hk
  obtain ⟨k, rfl⟩ : ∃ m, k = m + 1 := ⟨k - 1, by omega⟩
  simp only [spec_l02Make.l0]
  rw [if_neg (by omega), if_pos (by omega), ← hd, show s * lv (l.take 0) = 0 from by simp [lv]]
  congr 1
  simp only [cn, show (0 : Int).natAbs = 0 from rfl, limbs_zero]
  rfl
 | succ n ih =>
  intro k h0 hd hk
  obtain ⟨k, rfl⟩ : ∃ m, k = m + 1 := ⟨k - 1, by omega⟩
  simp only [spec_l02Make.l0]
  rw [if_pos (by omega), w64s (by omega) (by omega), show ((n + 1 : Nat) : Int) - 1 = (n : Int) from by omega, if_pos (by omega), if_pos (by omega), rd_cast]
  by_cases h1 : l.getD n 0 = 0
  ·rw [if_pos h1]
   exact ih k (by omega) (by rw [← hd, lv_take_zero (by omega) h1]) (by omega)
  ·rw [if_neg h1, if_neg (by omega), if_pos (by omega), if_pos (by omega), Int.toNat_natCast, l01Own _ (by rw [List.length_take, Nat.min_eq_left (by omega)]; omega)]
   simp only [Option.bind_some]
   have ht := tight_take (show n < l.length from by omega) h1
   have ho := okl_take ol (n + 1)
   have hne : l.take (n + 1) ≠ [] := by
    intro e
    have := congrArg List.length e
    rw [List.length_take, List.length_nil, Nat.min_eq_left (by omega)] at this
    omega
   have hc : CW s (l.take (n + 1)) := ⟨ho, ht, fun e => absurd e hne, fun _ => hs⟩
   rw [hc.eq, hc.val, hd]
theorem l02Make {s : Int} (hs : s = 1 ∨ s = -1) {l : List Int} (ol : Okl l) (hl : l.length ≤ 1000000000) : Ev (fun k => spec_l02Make.f k s l) (cn (s * lv l)) := by
 refine ⟨l.length + 1, fun k hk => ?_⟩
 show spec_l02Make.f k s l = _
 unfold spec_l02Make.f
 exact l02Make_loop hs ol hl l.length k (Nat.le_refl _) (by rw [List.take_of_length_le (Nat.le_refl _)]) (by omega)
end Go.Proofs.YtghhphndbbefjaaDoor.Pur
namespace Go.Proofs.YtghhphndbbefjaaDoor.Pur
open Go.RowKit Go.Proofs.YtghhphndbbefjaaDoor.X Go.Proofs.YtghhphndbbefjaaDoorW.PrintWords Go.Proofs.YtghhphndbbefjaaDoorW.PrintLast Go.Proofs.YtghhphndbbefjaaDoor.Math
set_option linter.unusedVariables false
set_option linter.unusedSimpArgs false
def marks : Int → Nat → List Int
 | _, 0 => []
 | k, n + 1 => k :: marks (k + 1) n
theorem marks_length (n : Nat) : ∀ k, (marks k n).length = n := by
 induction n with
 | zero => intro k; rfl
 | succ n ih => intro k; simp [marks, ih]
theorem marks_snoc (n : Nat) : ∀ k, marks k (n + 1) = marks k n ++ [k + n] := by
 induction n with
 | zero => intro k; simp [marks]
 | succ n ih =>
  intro k
  have := ih (k + 1)
  rw [marks, this, marks, List.cons_append]
  congr 3
  omega
theorem marks_getD (n : Nat) : ∀ (k : Int) (i : Nat), i < n → (marks k n).getD i 0 = k + i := by
 induction n with
 | zero => intro k i hi; omega
 | succ n ih =>
  intro k i hi
  cases i with
  | zero => simp [marks]
  | succ i =>
   rw [marks, List.getD_cons_succ, ih (k + 1) i (by omega)]
   omega
theorem set_marks (l : List Int) (k : Int) (i : Nat) (h : i < l.length) : (marks k i ++ l.drop i).set i (k + i) = marks k (i + 1) ++ l.drop (i + 1) := by
 rw [List.set_append_right _ _ (by rw [marks_length]; omega), marks_length, Nat.sub_self, List.drop_eq_getElem_cons h, List.set_cons_zero, marks_snoc, List.append_assoc]
 rfl
theorem mark_loop (l : List Int) (k0 : Int) (h0 : 0 ≤ k0) (h1 : k0 ≤ 1000000000) (hl : l.length ≤ 1048576) (d : Nat) : ∀ (k i : Nat), i ≤ l.length → l.length - i = d → d < k →
  laws_markInt64S.l0 k (marks k0 i ++ l.drop i) (k0 + i) (i : Int) = some (k0 + l.length, marks k0 l.length) := by
 induction d with
 | zero =>
  intro k i hi hd hk
  obtain ⟨k, rfl⟩ : ∃ m, k = m + 1 := ⟨k - 1, by omega⟩
  obtain rfl : i = l.length := by omega
  simp only [laws_markInt64S.l0]
  rw [List.drop_length, List.append_nil, if_neg (by rw [marks_length]; omega)]
 | succ d ih =>
  intro k i hi hd hk
  obtain ⟨k, rfl⟩ : ∃ m, k = m + 1 := ⟨k - 1, by omega⟩
  simp only [laws_markInt64S.l0]
  have hlen : (marks k0 i ++ l.drop i).length = l.length := by rw [List.length_append, marks_length, List.length_drop]; omega
  rw [if_pos (by rw [hlen]; omega), if_pos (by omega), Int.toNat_natCast, set_marks l k0 i (by omega), w64s (by omega) (by omega), w64s (by omega) (by omega), show k0 + (i : Int) + 1 = k0 + ((i + 1 : Nat) : Int) from by omega, show (i : Int) + 1 = ((i + 1 : Nat) : Int) from by omega]
  exact ih k (i + 1) (by omega) (by omega) (by omega)
theorem markWhole (s : Int) (l : List Int) (k0 : Int) (h0 : 0 ≤ k0) (h1 : k0 ≤ 1000000000) (hl : l.length ≤ 1048576) : Ev (fun k => laws_markWhole.f k s l k0) (k0 + l.length, marks k0 l.length) := by
 unfold laws_markWhole.f
 refine Ev.bind (f := fun _ bt => some (bt.1, bt.2)) (a := (k0 + l.length, marks k0 l.length)) ?_ (Ev.now _)
 refine ⟨l.length + 1, fun k hk => ?_⟩
 show laws_markInt64S.f k l k0 = _
 unfold laws_markInt64S.f
 have := mark_loop l k0 h0 h1 hl l.length k 0 (Nat.zero_le _) rfl (by omega)
 simpa [marks] using this
theorem held_loop (n : Nat) (k0 : Int) (h0 : 0 ≤ k0) (h1 : k0 ≤ 1000000000) (hl : n ≤ 1048576) (d : Nat) : ∀ (k i : Nat), i ≤ n → n - i = d → d < k →
  laws_heldInt64S.l0 k (marks k0 n) (k0 + i) (i : Int) = some (k0 + n) := by
 induction d with
 | zero =>
  intro k i hi hd hk
  obtain ⟨k, rfl⟩ : ∃ m, k = m + 1 := ⟨k - 1, by omega⟩
  obtain rfl : i = n := by omega
  simp only [laws_heldInt64S.l0]
  rw [if_neg (by rw [marks_length]; omega)]
 | succ d ih =>
  intro k i hi hd hk
  obtain ⟨k, rfl⟩ : ∃ m, k = m + 1 := ⟨k - 1, by omega⟩
  simp only [laws_heldInt64S.l0]
  rw [if_pos (by rw [marks_length]; omega), if_pos (by omega), rd_cast, marks_getD n k0 i (by omega), if_pos rfl, w64s (by omega) (by omega), w64s (by omega) (by omega), show k0 + (i : Int) + 1 = k0 + ((i + 1 : Nat) : Int) from by omega, show (i : Int) + 1 = ((i + 1 : Nat) : Int) from by omega]
  exact ih k (i + 1) (by omega) (by omega) (by omega)
theorem heldWhole (s : Int) (n : Nat) (k0 : Int) (h0 : 0 ≤ k0) (h1 : k0 ≤ 1000000000) (hl : n ≤ 1048576) : Ev (fun k => laws_heldWhole.f k s (marks k0 n) k0) (k0 + n) := by
 unfold laws_heldWhole.f
 refine Ev.bind (f := fun _ t => if t < 0 then some (-1) else some t) (a := k0 + n) ?_ ?_
 ·refine ⟨n + 1, fun k hk => ?_⟩
  show laws_heldInt64S.f k (marks k0 n) k0 = _
  unfold laws_heldInt64S.f
  have := held_loop n k0 h0 h1 hl n k 0 (Nat.zero_le _) rfl (by omega)
  simpa using this
 ·simp only [if_neg (show ¬ k0 + (n : Int) < 0 from by omega)]
  exact Ev.now _
end Go.Proofs.YtghhphndbbefjaaDoor.Pur
