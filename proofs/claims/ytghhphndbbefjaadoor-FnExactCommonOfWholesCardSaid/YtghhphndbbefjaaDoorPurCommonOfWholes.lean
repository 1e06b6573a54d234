/- The law FnExactCommonOfWholes, as a plain statement: it answers true at every two signs and limbs. -/
import Derived.Test.YtghhphndbbefjaaDoorPur2
import Derived.Test.YtghhphndbbefjaaDoorPurB
import Derived.Test.YtghhphndbbefjaaDoorMathN
import Derived.Test.YtghhphndbbefjaaDoorX2
import Derived.Test.YtghhphndbbefjaaDoorX5
import Derived.Test.YtghhphndbbefjaaDoorX6
import Derived.Test.YtghhphndbbefjaaDoorX7
import Derived.Test.YtghhphndbbefjaaDoorBnd11
namespace Go.Proofs.YtghhphndbbefjaaDoor.Pur
open Go.RowKit Go.Proofs.YtghhphndbbefjaaDoor Go.Proofs.YtghhphndbbefjaaDoor.Big Go.Proofs.YtghhphndbbefjaaDoor.X Go.Proofs.YtghhphndbbefjaaDoorW.PrintWords Go.Proofs.YtghhphndbbefjaaDoorW.PrintLast Go.Proofs.YtghhphndbbefjaaDoorW.PrintMore Go.Proofs.YtghhphndbbefjaaDoor.Math
set_option linter.unusedVariables false
set_option linter.unusedSimpArgs false

theorem nat_isW {x : Nat} (h : x < 16777216 ^ 200) : isW (cn (x : Int)).1 (cn (x : Int)).2 = true := cw_isW (cw_cn _) (limbs_length_le (by rw [Int.natAbs_natCast]; exact h))
theorem nat_len {x : Nat} (h : x < 16777216 ^ 200) : (cn (x : Int)).2.length ≤ 1000000 := Nat.le_trans (isW_len (nat_isW h)) (by omega)
theorem nat_sgn {x : Nat} (h : 0 < x) : (cn (x : Int)).1 = 1 := by
  show sgn (x : Int) = 1
  unfold sgn
  rw [if_neg (by omega)]
  split <;> omega
theorem twos_cn {x : Nat} (h0 : 0 < x) (h : x < 16777216 ^ 200) : Ev (fun k => spec_l02Twos.f k (cn (x : Int)).1 (cn (x : Int)).2) (ctz x : Int) := by
  have := l02Twos (nat_isW h) (show (cn (x : Int)).1 ≠ 0 from by rw [nat_sgn h0]; omega)
  rw [wv_cn] at this
  exact this
theorem ctz_lt {x : Nat} (h0 : 0 < x) (h : x < 16777216 ^ 200) : ctz x < 4800 := by
  have := tz_isW (nat_isW h) (show (cn (x : Int)).1 ≠ 0 from by rw [nat_sgn h0]; omega)
  rw [wv_cn] at this
  exact this
theorem cut_cn {x k : Nat} (h0 : 0 < x) (h : x < 16777216 ^ 200) (hk : k ≤ 100000) : Ev (fun f => spec_l02Cut.f f (cn (x : Int)).1 (cn (x : Int)).2 (k : Int)) (cn ((x / 2 ^ k : Nat) : Int)) := by
  have hc := cw_cn (x : Int)
  have := l02Cut hc (nat_len h) hk
  have hv : wv (cn (x : Int)).1 (cn (x : Int)).2 = x := wv_cn _
  rw [hc.val] at hv
  rw [nat_sgn h0, Int.one_mul] at this hv
  rw [nat_sgn h0]
  rw [hv] at this
  rw [Int.natCast_ediv, Int.natCast_pow]
  exact this
theorem l02Abs {s : Int} {l : List Int} (h : CW s l) (hl : l.length ≤ 1000000) : Ev (fun k => spec_l02Abs.f k s l) (cn (((wv s l).natAbs : Nat) : Int)) := by
  have hs := h.sign
  have hn := lv_nonneg h.ok
  have e : (((wv s l).natAbs : Nat) : Int) = (s * s) * lv l := by
    rw [h.natAbs, Int.toNat_of_nonneg hn]
    rcases (show s = -1 ∨ s = 0 ∨ s = 1 from by omega) with rfl | rfl | rfl
    · omega
    · have := h.szero.1 rfl
      rw [this]
      simp [lv]
    · omega
  have hb : -1 ≤ s * s ∧ s * s ≤ 1 := by rcases (show s = -1 ∨ s = 0 ∨ s = 1 from by omega) with rfl | rfl | rfl <;> omega
  unfold spec_l02Abs.f
  rw [e, w64s (by omega) (by omega)]
  refine Ev.bind (f := fun _ bt => some (bt.1, bt.2)) (l02Make_any hb (fun z => ?_) h.ok (by omega)) (Ev.now _)
  have hz : s = 0 := by
    rcases (show s = -1 ∨ s = 0 ∨ s = 1 from by omega) with rfl | rfl | rfl
    · omega
    · rfl
    · omega
  rw [h.szero.1 hz]
  rfl
theorem sub_cn {x y : Nat} (hx : x < 16777216 ^ 200) (hy : y < 16777216 ^ 200) (hl : y ≤ x) : Ev (fun k => spec_l02Sub.f k (cn (x : Int)).1 (cn (x : Int)).2 (cn (y : Int)).1 (cn (y : Int)).2) (cn ((x - y : Nat) : Int)) := by
  have := l02Sub (cw_cn (x : Int)) (cw_cn (y : Int)) (nat_len hx) (nat_len hy)
  rw [wv_cn, wv_cn, ← Int.ofNat_sub hl] at this
  exact this
theorem compare_cn {x y : Nat} (hx : x < 16777216 ^ 200) (hy : y < 16777216 ^ 200) : Ev (fun k => spec_l02Compare.f k (cn (x : Int)).1 (cn (x : Int)).2 (cn (y : Int)).1 (cn (y : Int)).2) (sgn ((x : Int) - (y : Int))) := by
  have := l02Compare (cw_cn (x : Int)) (cw_cn (y : Int)) (Nat.le_trans (nat_len hx) (by omega)) (Nat.le_trans (nat_len hy) (by omega))
  rw [wv_cn, wv_cn] at this
  exact this
theorem lt_of_le_pow {x y : Nat} (h : x ≤ y) (hy : y < 16777216 ^ 200) : x < 16777216 ^ 200 := Nat.lt_of_le_of_lt h hy
theorem odd_pos {m : Nat} (h : m % 2 = 1) : 0 < m := by omega
theorem sum_one {x y m d : Nat} (hd : x + y = d) (hx : 0 < x) (g : x < y) (h : m ≤ y - x) : x + m < d := by omega
theorem sum_two {x y m d : Nat} (hd : x + y = d) (hy : 0 < y) (g : y < x) (h : m ≤ x - y) : m + y < d := by omega
theorem specCommon_loop {tw : Nat} (ht : tw ≤ 4800) (d : Nat) : ∀ x y : Nat, x + y = d → 0 < x → 0 < y → x % 2 = 1 → y % 2 = 1 → x < 16777216 ^ 200 → y < 16777216 ^ 200 →
    Ev (fun f => spec_l02Common.l0 f (tw : Int) (sgn ((x : Int) - (y : Int))) (cn (x : Int)).1 (cn (x : Int)).2 (cn (y : Int)).1 (cn (y : Int)).2) (cn ((Nat.gcd x y * 2 ^ tw : Nat) : Int)) := by
  induction d using Nat.strongRecOn with
  | _ d ih =>
    intro x y hd hx hy ox oy bx by'
    rcases Nat.lt_trichotomy x y with g | g | g
    · have hs : sgn ((x : Int) - (y : Int)) < 0 := by unfold sgn; rw [if_pos (by omega)]; omega
      have hne : y - x ≠ 0 := by omega
      have hc := ctz_lt (x := y - x) (by omega) (lt_of_le_pow (Nat.sub_le _ _) by')
      have hle : (y - x) / 2 ^ ctz (y - x) ≤ y - x := Nat.div_le_self _ _
      have ho := odd_cut hne
      have hp : 0 < (y - x) / 2 ^ ctz (y - x) := odd_pos ho
      have hbd := lt_of_le_pow (Nat.le_trans hle (Nat.sub_le _ _)) by'
      refine Ev.step (fun f => by simp only [spec_l02Common.l0]; rw [if_neg (show ¬ sgn ((x : Int) - (y : Int)) = 0 from by omega), if_pos hs]) ?_
      refine Ev.bind (sub_cn by' bx (Nat.le_of_lt g)) ?_
      refine Ev.bind (twos_cn (by omega) (lt_of_le_pow (Nat.sub_le _ _) by')) ?_
      refine Ev.bind (cut_cn (by omega) (lt_of_le_pow (Nat.sub_le _ _) by') (by omega)) ?_
      refine Ev.bind (compare_cn bx hbd) ?_
      rw [← gcd_step ox g]
      exact ih _ (sum_one hd hx g hle) x _ rfl hx hp ox ho bx hbd
    · subst g
      have hs : sgn ((x : Int) - (x : Int)) = 0 := by rw [Int.sub_self]; rfl
      refine Ev.step (fun f => by simp only [spec_l02Common.l0]; rw [if_pos hs]) ?_
      have := l02Left (cw_cn (x : Int)) (nat_len bx) (k := tw) (by omega)
      rw [wv_cn] at this
      rw [Nat.gcd_self, Int.natCast_mul, Int.natCast_pow]
      exact Ev.bind (f := fun _ bt => some (bt.1, bt.2)) this (Ev.now _)
    · have hs : ¬ sgn ((x : Int) - (y : Int)) < 0 := by unfold sgn; rw [if_neg (by omega)]; split <;> omega
      have hs0 : ¬ sgn ((x : Int) - (y : Int)) = 0 := by unfold sgn; rw [if_neg (by omega)]; split <;> omega
      have hne : x - y ≠ 0 := by omega
      have hc := ctz_lt (x := x - y) (by omega) (lt_of_le_pow (Nat.sub_le _ _) bx)
      have hle : (x - y) / 2 ^ ctz (x - y) ≤ x - y := Nat.div_le_self _ _
      have ho := odd_cut hne
      have hp : 0 < (x - y) / 2 ^ ctz (x - y) := odd_pos ho
      have hbd := lt_of_le_pow (Nat.le_trans hle (Nat.sub_le _ _)) bx
      refine Ev.step (fun f => by simp only [spec_l02Common.l0]; rw [if_neg hs0, if_neg hs]) ?_
      refine Ev.bind (sub_cn bx by' (Nat.le_of_lt g)) ?_
      refine Ev.bind (twos_cn (by omega) (lt_of_le_pow (Nat.sub_le _ _) bx)) ?_
      refine Ev.bind (cut_cn (by omega) (lt_of_le_pow (Nat.sub_le _ _) bx) (by omega)) ?_
      refine Ev.bind (compare_cn hbd by') ?_
      rw [Nat.gcd_comm x y, ← gcd_step oy g, Nat.gcd_comm y]
      exact ih _ (sum_two hd hy g hle) _ y rfl hp hy ho oy hbd by'
theorem mn_cast (a b : Nat) : mn (a : Int) (b : Int) = ((min a b : Nat) : Int) := by
  unfold mn
  split <;> omega
theorem l02Common {s t : Int} {l m : List Int} (hw : isW s l = true) (hv : isW t m = true) : Ev (fun k => spec_l02Common.f k s l t m) (cn ((Nat.gcd (wv s l).natAbs (wv t m).natAbs : Nat) : Int)) := by
  have bx := wv_bound hw
  have by' := wv_bound hv
  unfold spec_l02Common.f
  refine Ev.bind (l02Abs (isW_cw hw) (Nat.le_trans (isW_len hw) (by omega))) ?_
  refine Ev.bind (l02Abs (isW_cw hv) (Nat.le_trans (isW_len hv) (by omega))) ?_
  generalize (wv s l).natAbs = x at bx ⊢
  generalize (wv t m).natAbs = y at by' ⊢
  by_cases hx : x = 0
  · subst hx
    have e : (cn ((0 : Nat) : Int)).1 = 0 := rfl
    simp only [if_pos e]
    rw [Nat.gcd_zero_left]
    exact Ev.now _
  · by_cases hy : y = 0
    · subst hy
      have e : (cn ((0 : Nat) : Int)).1 = 0 := rfl
      have e1 : ¬ (cn (x : Int)).1 = 0 := by rw [nat_sgn (by omega)]; omega
      simp only [if_pos e, if_neg e1]
      rw [Nat.gcd_zero_right]
      exact Ev.now _
    · have e1 : ¬ (cn (x : Int)).1 = 0 := by rw [nat_sgn (by omega)]; omega
      have e2 : ¬ (cn (y : Int)).1 = 0 := by rw [nat_sgn (by omega)]; omega
      have cx := ctz_lt (x := x) (by omega) bx
      have cy := ctz_lt (x := y) (by omega) by'
      have ox := odd_cut hx
      have oy := odd_cut hy
      have lx := lt_of_le_pow (Nat.div_le_self x (2 ^ ctz x)) bx
      have ly := lt_of_le_pow (Nat.div_le_self y (2 ^ ctz y)) by'
      simp only [if_neg e1, if_neg e2]
      refine Ev.bind (twos_cn (by omega) bx) ?_
      refine Ev.bind (twos_cn (by omega) by') ?_
      refine Ev.bind (twos_cn (by omega) bx) ?_
      refine Ev.bind (cut_cn (by omega) bx (by omega)) ?_
      refine Ev.bind (twos_cn (by omega) by') ?_
      refine Ev.bind (cut_cn (by omega) by' (by omega)) ?_
      refine Ev.bind (compare_cn lx ly) ?_
      rw [gcd_twos hx hy, mn_cast]
      exact specCommon_loop (by omega) _ _ _ rfl (odd_pos ox) (odd_pos oy) ox oy lx ly
theorem gcd_small {x y : Nat} (bx : x < 16777216 ^ 200) (by' : y < 16777216 ^ 200) : Nat.gcd x y < 16777216 ^ 200 := by
  by_cases hx : x = 0
  · subst hx
    rw [Nat.gcd_zero_left]
    exact by'
  · exact lt_of_le_pow (Nat.gcd_le_left y (by omega)) bx
theorem specCommonOfWholes (s : Int) (l : List Int) (t : Int) (m : List Int) (hl : l.length ≤ 1000000000) (hm : m.length ≤ 1000000000) : Ev (fun k => spec_CommonOfWholes.f k s l t m) (bfit (fun n k => ((Nat.gcd n.natAbs k.natAbs : Nat) : Int)) s l t m) := by
  unfold spec_CommonOfWholes.f bfit
  refine Ev.bind (l02Both s l t m hl hm) ?_
  cases h : isW s l
  · exact Ev.now _
  · cases g : isW t m
    · exact Ev.now _
    · simp only [Bool.and_self, if_true]
      have hsm := nat_len (gcd_small (wv_bound h) (wv_bound g))
      rw [wfit_cn, if_pos (limbs_length_le (by rw [Int.natAbs_natCast]; exact gcd_small (wv_bound h) (wv_bound g)))]
      exact Ev.bind (f := fun _ bt => some (bt.1, bt.2, (0 : Int))) (l02Common h g) (Ev.now _)
theorem implCommonOfWholes (s : Int) (l : List Int) (t : Int) (m : List Int) (hl : l.length ≤ 1000000000) (hm : m.length ≤ 1000000000) : impl_CommonOfWholes.f s l t m = some (bfit (fun n k => ((Nat.gcd n.natAbs k.natAbs : Nat) : Int)) s l t m) := by
  unfold impl_CommonOfWholes.f
  rw [if_pos ⟨hl, hm⟩]
theorem bfit_length (op : Int → Int → Int) (s : Int) (l : List Int) (t : Int) (m : List Int) : (bfit op s l t m).2.1.length ≤ 200 := by
  unfold bfit
  split
  · rw [wfit_cn]
    split
    · assumption
    · simp
  · simp
set_option maxHeartbeats 1000000 in
theorem lawCommonOfWholes (s : Int) (l : List Int) (t : Int) (m : List Int) (hl : l.length ≤ maxLen) (hm : m.length ≤ maxLen) : ∃ k, laws_FnExactCommonOfWholes.f k s l t m = some true := by
  refine Ev.rounds ?_
  unfold laws_FnExactCommonOfWholes.f
  simp only [szWhole s l 1048576 (by omega) (by omega) hl, Option.bind_some]
  by_cases h : (1048576 : Int) - l.length < 0
  · simp only [if_pos h]
    exact Ev.now true
  · simp only [if_neg h]
    have hn : l.length ≤ 1048576 := by omega
    simp only [szWhole t m (1048576 - l.length) (by omega) (by omega) hm, Option.bind_some]
    by_cases h2 : (1048576 : Int) - l.length - m.length < 0
    · simp only [if_pos h2]
      exact Ev.now true
    · simp only [if_neg h2]
      have hn2 : m.length ≤ 1048576 := by omega
      have hr := bfit_length (fun n k => ((Nat.gcd n.natAbs k.natAbs : Nat) : Int)) s l t m
      refine Ev.bind (toWhole s l hn) ?_
      refine Ev.bind (toWhole t m hn2) ?_
      refine Ev.bind (specCommonOfWholes s l t m (by omega) (by omega)) ?_
      refine Ev.bind (toWhole s l hn) ?_
      refine Ev.bind (toWhole t m hn2) ?_
      simp only [implCommonOfWholes s l t m (by omega) (by omega), Option.bind_some]
      generalize hR : bfit (fun n k => ((Nat.gcd n.natAbs k.natAbs : Nat) : Int)) s l t m = R at hr ⊢
      obtain ⟨q, u, e⟩ := R
      simp only at hr ⊢
      refine Ev.bind (eqWhole _ _ (by omega)) ?_
      simp only [if_true, bne_self_eq_false]
      refine Ev.step (fun k => by rw [laws_FnExactCommonOfWholes.j0, if_neg (by simp)]) ?_
      refine Ev.bind (toWhole s l hn) ?_
      refine Ev.bind (eqWhole s l hn) ?_
      simp only [if_true]
      refine Ev.bind (toWhole t m hn2) ?_
      refine Ev.bind (eqWhole t m hn2) ?_
      simp only [if_true]
      refine Ev.bind (markWhole s l 1 (by omega) (by omega) (by omega)) ?_
      refine Ev.bind (markWhole t m (1 + l.length) (by omega) (by omega) (by omega)) ?_
      simp only [if_neg (show ¬ (1 : Int) + (l.length : Int) + (m.length : Int) < 0 from by omega)]
      refine Ev.bind (eqWhole _ _ (by omega)) ?_
      simp only [if_true, bne_self_eq_false]
      refine Ev.step (fun k => by rw [laws_FnExactCommonOfWholes.j1, if_neg (by simp)]) ?_
      refine Ev.bind (markWhole _ _ 1 (by omega) (by omega) (by omega)) ?_
      refine Ev.bind (heldWhole _ _ 1 (by omega) (by omega) (by omega)) ?_
      simp only [if_neg (show ¬ (1 : Int) + (u.length : Int) < 0 from by omega), if_true]
      refine Ev.bind (toWhole s l hn) ?_
      refine Ev.bind (toWhole t m hn2) ?_
      simp only [implCommonOfWholes s l t m (by omega) (by omega), hR, Option.bind_some]
      refine Ev.bind (eqWhole _ _ (by omega)) ?_
      simp only [if_true, bne_self_eq_false]
      refine Ev.step (fun k => by rw [laws_FnExactCommonOfWholes.j2, if_neg (by simp)]) ?_
      refine Ev.bind (heldWhole _ _ 1 (by omega) (by omega) (by omega)) ?_
      simp only [if_neg (show ¬ (1 : Int) + (u.length : Int) < 0 from by omega), if_true]
      exact Ev.now true
end Go.Proofs.YtghhphndbbefjaaDoor.Pur
