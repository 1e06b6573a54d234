/- The contract of impl.IntegerOf in plain words. Condition: at most 1000000000 limbs. -/
import Derived.Test.YtlkomiiijhphnaaDoorBnd1
import Derived.Test.YtlkomiiijhphnaaDoorG6
import Derived.Test.YtlkomiiijhphnaaDoorG20
namespace Go.Proofs.YtlkomiiijhphnaaDoor
open Go.RowKit Go.Proofs.YtlkomiiijhphnaaDoorW.PrintWords Go.Proofs.YtlkomiiijhphnaaDoorW.PrintLast Go.Proofs.YtlkomiiijhphnaaDoorW.PrintMore Go.Proofs.YtlkomiiijhphnaaDoor.Math Go.Proofs.YtlkomiiijhphnaaDoor.Big
set_option linter.unusedVariables false
set_option linter.unusedSimpArgs false
def impl_IntegerOf.f (a0_0 : Int) (l0_1 : List Int) : Option (Int × Int) := if l0_1.length ≤ 1000000000 then some (if isW a0_0 l0_1 then (if fits64 (wv a0_0 l0_1) then (wv a0_0 l0_1, 0) else (0, 3)) else (0, 1)) else none
set_option maxHeartbeats 2000000 in
theorem impl_IntegerOf.calls (a0_0 : Int) (A0_1 : Option Addr) (c0_1 : Nat) (l0_1 : List Int) (r1 r2 : Int) (w : World) (hr0_1 : Kd.C (Kd.int .i64) w A0_1 l0_1.length l0_1) (hc0_1 : l0_1.length ≤ c0_1) (h : impl_IntegerOf.f a0_0 l0_1 = some (r1, r2)) :
  Calls Tryd.prog 21 #[.agg #[.int .i64 a0_0, .slice A0_1 l0_1.length c0_1]] w fun e w' => e = .returned (.tuple #[.int .i64 r1, .int .i64 r2]) ∧ Below w.heap.size w w' := by
 unfold impl_IntegerOf.f at h
 split at h
 case isFalse => cases h
 rename_i hl
 have HR := Aside0.mk hr0_1
 have b0 := Aside0.mk (below_alloc (Below.refl w.heap.size w) (.cells #[.int .i64 a0_0, .slice A0_1 l0_1.length c0_1] 26))
 have hx := heap_alloc_new w (.cells #[.int .i64 a0_0, .slice A0_1 l0_1.length c0_1] 26)
 have X := Aside0.mk hx
 clear hr0_1 hx
 cases hw : isW a0_0 l0_1
 ·rw [hw] at h
  simp only [Bool.false_eq_true, if_false, Option.some.injEq, Prod.mk.injEq] at h
  obtain ⟨rfl, rfl⟩ := h
  have HW := Aside0.mk hw
  clear hw
  go_enter Tryd.func21, Tryd.ntmps21
  go_wp2_with fail
  refine (isWhole_of _ _ _ _ (Kd.C_below HR.out b0.out) hc0_1 hl).mono ?_
  rintro e w1 ⟨rfl, hb⟩
  rw [HW.out]
  have B1 := Aside0.mk (b0.out.trans (hb.mono b0.out.size))
  clear hb
  go_wp2
  go_ret2
  exact ⟨rfl, B1.out⟩
 ·rw [hw] at h
  simp only [if_true, Option.some.injEq] at h
  have HW := Aside0.mk hw
  have H := Aside0.mk h
  clear hw h
  go_enter Tryd.func21, Tryd.ntmps21
  go_wp2_with fail
  refine (isWhole_of _ _ _ _ (Kd.C_below HR.out b0.out) hc0_1 hl).mono ?_
  rintro e w1 ⟨rfl, hb⟩
  rw [HW.out]
  have B1 := Aside0.mk (b0.out.trans (hb.mono b0.out.size))
  have X1 := Aside0.mk (blk_below X.out hb)
  have p0 : w1.cell? ⟨w.heap.size, 0, none⟩ = some (.int .i64 a0_0) := (blk_cell X1.out 0).trans rfl
  have p1 : w1.cell? ⟨w.heap.size, 1, none⟩ = some (.slice A0_1 l0_1.length c0_1) := (blk_cell X1.out 1).trans rfl
  clear hb
  go_wp2_with fail
  refine (value_calls _ _ _ _ _ (lims_of (Kd.C_below HR.out B1.out) HW.out)).mono ?_
  rintro e w2 ⟨b, rfl, hge, hbig, hb⟩
  have BB := Aside0.mk hbig
  have B2 := Aside0.mk (B1.out.trans (hb.mono B1.out.size))
  clear hbig hb hge
  have hlm := Nat.le_trans (isW_len HW.out) (show 200 ≤ 1000000 by omega)
  have HLM := Aside0.mk hlm
  clear hlm
  go_wp2_with fail
  refine (isInt64_calls _ _ _ _ BB.out HLM.out).mono ?_
  rintro e w3 ⟨rfl, hb⟩
  have BB3 := Aside0.mk (BB.out.below hb)
  have B3 := Aside0.mk (B2.out.trans (hb.mono B2.out.size))
  clear hb
  cases hf : fits64 (wv a0_0 l0_1)
  ·have h := H.out
   rw [hf] at h
   simp only [Bool.false_eq_true, if_false, Prod.mk.injEq] at h
   obtain ⟨rfl, rfl⟩ := h
   go_wp2
   go_ret2
   exact ⟨rfl, B3.out⟩
  ·have h := H.out
   rw [hf] at h
   simp only [if_true, Prod.mk.injEq] at h
   obtain ⟨rfl, rfl⟩ := h
   obtain ⟨t, ht, hft, hc⟩ := int64_calls _ _ _ _ BB3.out HLM.out
   have hr : -9223372036854775808 ≤ wv a0_0 l0_1 ∧ wv a0_0 l0_1 ≤ 9223372036854775807 := by
    simpa only [fits64, Bool.and_eq_true, decide_eq_true_eq] using hf
   have HC := Aside0.mk hc
   have HT := Aside0.mk (hft hr)
   clear hc ht hft hr H hf
   go_wp2_with fail
   refine HC.out.mono ?_
   rintro e w4 ⟨rfl, rfl⟩
   go_wp2
   go_ret2
   exact ⟨by rw [← HT.out]; rfl, B3.out⟩
end Go.Proofs.YtlkomiiijhphnaaDoor
namespace Go.Proofs.YtlkomiiijhphnaaDoor.Pur
open Go.RowKit Go.Proofs.YtlkomiiijhphnaaDoor Go.Proofs.YtlkomiiijhphnaaDoor.Big Go.Proofs.YtlkomiiijhphnaaDoor.X Go.Proofs.YtlkomiiijhphnaaDoorW.PrintWords Go.Proofs.YtlkomiiijhphnaaDoorW.PrintLast Go.Proofs.YtlkomiiijhphnaaDoor.Math
set_option linter.unusedVariables false
set_option linter.unusedSimpArgs false
theorem implIntegerOf (s : Int) (l : List Int) (hl : l.length ≤ 1000000000) : impl_IntegerOf.f s l = some (if isW s l then (if fits64 (wv s l) then (wv s l, 0) else (0, 3)) else (0, 1)) := by
 unfold impl_IntegerOf.f
 rw [if_pos hl]
theorem lv_drop_le {l : List Int} (ok : Okl l) (n : Nat) : lv (l.drop n) ≤ lv l := by
 induction n with
 | zero => exact Int.le_refl _
 | succ n ih =>
  rcases Nat.lt_or_ge n l.length with h | h
  ·have h1 := lv_drop h
   have h2 := okl_getD ok n
   have h3 := lv_nonneg (okl_drop ok (n + 1))
   omega
  ·rw [List.drop_of_length_le (by omega)]
   exact lv_nonneg ok
theorem integer_loop {s : Int} {l : List Int} (ok : Okl l) (hs : s = 0 ∨ s = 1 ∨ s = -1) (hl : l.length ≤ 1000000000) (h0 : -9223372036854775808 ≤ s * lv l) (h1 : s * lv l ≤ 9223372036854775807) (n : Nat) : ∀ k, n ≤ l.length → n < k →
  spec_IntegerOf.l0 k (s * lv (l.drop n)) ((n : Int) - 1) s l = some (s * lv l, 0) := by
 induction n with
 | zero =>
  intro k hn hk
  obtain ⟨k, rfl⟩ : ∃ m, k = m + 1 := ⟨k - 1, by omega⟩
  simp only [spec_IntegerOf.l0]
  rw [if_neg (by omega)]
  rfl
 | succ n ih =>
  intro k hn hk
  obtain ⟨k, rfl⟩ : ∃ m, k = m + 1 := ⟨k - 1, by omega⟩
  simp only [spec_IntegerOf.l0]
  have a := lv_drop (show n < l.length from by omega)
  have b := lv_drop_le ok n
  have c := okl_getD ok n
  have d := lv_nonneg (okl_drop ok (n + 1))
  have e : s * lv (l.drop (n + 1)) * 16777216 + s * l.getD n 0 = s * lv (l.drop n) := by
   rw [a, Int.mul_add, Int.mul_assoc, Int.mul_comm (lv (l.drop (n + 1))) 16777216]
   omega
  rw [show ((n + 1 : Nat) : Int) - 1 = (n : Int) from by omega, if_pos (by omega), if_pos (by omega), if_pos (by omega), rd_cast]
  rw [w64s (x := s * lv (l.drop (n + 1)) * 16777216) (by rcases hs with rfl | rfl | rfl <;> omega) (by rcases hs with rfl | rfl | rfl <;> omega)]
  rw [w64s (x := s * l.getD n 0) (by rcases hs with rfl | rfl | rfl <;> omega) (by rcases hs with rfl | rfl | rfl <;> omega), e]
  rw [w64s (x := s * lv (l.drop n)) (by rcases hs with rfl | rfl | rfl <;> omega) (by rcases hs with rfl | rfl | rfl <;> omega), w64s (by omega) (by omega)]
  exact ih k (by omega) (by omega)
theorem integer_end {s : Int} {l : List Int} (hw : CW s l) (hl : l.length ≤ 1000000000) (hf : fits64 (wv s l) = true) : Ev (fun k => spec_IntegerOf.j0 k false s l) (wv s l, 0) := by
 simp only [fits64, Bool.and_eq_true, decide_eq_true_eq] at hf
 rw [hw.val] at hf ⊢
 refine Ev.step (fun k => by rw [spec_IntegerOf.j0, if_neg (by simp), w64s (by omega) (by omega)]) ?_
 refine ⟨l.length + 1, fun k hk => ?_⟩
 have hs : s = 0 ∨ s = 1 ∨ s = -1 := by have := hw.sign; omega
 have := integer_loop hw.ok hs hl (by omega) (by omega) l.length k (Nat.le_refl _) (by omega)
 rw [List.drop_length, show s * lv [] = 0 from by simp [lv]] at this
 exact this
theorem sgn_neg_iff {n : Int} : sgn n < 0 ↔ n < 0 := by
 unfold sgn
 split
 ·omega
 ·split <;> omega
theorem sgn_pos_iff {n : Int} : sgn n > 0 ↔ n > 0 := by
 unfold sgn
 split
 ·omega
 ·split <;> omega
theorem specIntegerOf (s : Int) (l : List Int) (hl : l.length ≤ 1000000000) : Ev (fun k => spec_IntegerOf.f k s l) (if isW s l then (if fits64 (wv s l) then (wv s l, 0) else (0, 3)) else (0, 1)) := by
 unfold spec_IntegerOf.f
 refine Ev.bind (l02Is s l hl) ?_
 cases h : isW s l
 ·exact Ev.now _
 ·simp only [if_true]
  have hw := isW_cw h
  refine Ev.bind (l02Of (x := -9223372036854775808) (by omega) (by omega)) ?_
  refine Ev.bind (l02Of (x := 9223372036854775807) (by omega) (by omega)) ?_
  have len : ∀ z : Int, z.natAbs < 16777216 ^ 3 → (cn z).2.length ≤ 1000000000 := fun z hz => Nat.le_trans (limbs_length_le hz) (by omega)
  refine Ev.bind (l02Compare hw (cw_cn _) hl (len _ (by decide))) ?_
  rw [wv_cn]
  by_cases h1 : wv s l < -9223372036854775808
  ·have e : fits64 (wv s l) = false := by simp [fits64]; omega
   simp only [if_pos (sgn_neg_iff.2 (show wv s l - -9223372036854775808 < 0 from by omega)), e]
   exact Ev.step (fun k => by rw [spec_IntegerOf.j0, if_pos rfl]; rfl) (Ev.now _)
  ·have h1' : ¬ sgn (wv s l - -9223372036854775808) < 0 := fun e => h1 (by have := sgn_neg_iff.1 e; omega)
   simp only [if_neg h1']
   refine Ev.bind (l02Compare hw (cw_cn _) hl (len _ (by decide))) ?_
   rw [wv_cn]
   by_cases h2 : wv s l > 9223372036854775807
   ·have e : fits64 (wv s l) = false := by simp [fits64]; omega
    simp only [decide_eq_true (sgn_pos_iff.2 (show wv s l - 9223372036854775807 > 0 from by omega)), e]
    exact Ev.step (fun k => by rw [spec_IntegerOf.j0, if_pos rfl]; rfl) (Ev.now _)
   ·have h2' : ¬ sgn (wv s l - 9223372036854775807) > 0 := fun e => h2 (by have := sgn_pos_iff.1 e; omega)
    have e : fits64 (wv s l) = true := by simp [fits64]; omega
    simp only [decide_eq_false h2', e, if_true]
    exact integer_end hw hl e
end Go.Proofs.YtlkomiiijhphnaaDoor.Pur
namespace Go.Proofs.YtlkomiiijhphnaaDoor.Pur
open Go.RowKit Go.Proofs.YtlkomiiijhphnaaDoor Go.Proofs.YtlkomiiijhphnaaDoor.X Go.Proofs.YtlkomiiijhphnaaDoorW.PrintWords Go.Proofs.YtlkomiiijhphnaaDoorW.PrintLast Go.Proofs.YtlkomiiijhphnaaDoor.Math
set_option linter.unusedVariables false
set_option linter.unusedSimpArgs false
theorem implCompareWholes (s : Int) (l : List Int) (t : Int) (m : List Int) (hl : l.length ≤ 1000000000) (hm : m.length ≤ 1000000000) : impl_CompareWholes.f s l t m = some (if isW s l && isW t m then (sgn (wv s l - wv t m), 0) else (0, 1)) := by
 unfold impl_CompareWholes.f
 rw [if_pos ⟨hl, hm⟩]
end Go.Proofs.YtlkomiiijhphnaaDoor.Pur
