/- The contract of impl.IntegerOf in plain words. Condition: at most 1000000000 limbs. -/
import Derived.Test.YtbmjakaoniegfaaBnd1
import Derived.Test.YtbmjakaoniegfaaBig9
namespace Go.Proofs.Ytbmjakaoniegfaa
open Go.RowKit Go.Proofs.YtbmjakaoniegfaaW.PrintWords Go.Proofs.YtbmjakaoniegfaaW.PrintLast Go.Proofs.YtbmjakaoniegfaaW.PrintMore Go.Proofs.Ytbmjakaoniegfaa.Math Go.Proofs.Ytbmjakaoniegfaa.Big
set_option linter.unusedVariables false
set_option linter.unusedSimpArgs false

def impl_IntegerOf.f (a0_0 : Int) (l0_1 : List Int) : Option (Int × Int) := if l0_1.length ≤ 1000000000 then some (if isW a0_0 l0_1 then (if fits64 (wv a0_0 l0_1) then (wv a0_0 l0_1, 0) else (0, 3)) else (0, 1)) else none
set_option maxHeartbeats 2000000 in
theorem impl_IntegerOf.calls (a0_0 : Int) (A0_1 : Option Addr) (c0_1 : Nat) (l0_1 : List Int) (r1 r2 : Int) (w : World) (hr0_1 : Kd.C (Kd.int .i64) w A0_1 l0_1.length l0_1) (hc0_1 : l0_1.length ≤ c0_1) (h : impl_IntegerOf.f a0_0 l0_1 = some (r1, r2)) :
    Calls Try.prog 18 #[.agg #[.int .i64 a0_0, .slice A0_1 l0_1.length c0_1]] w fun e w' => e = .returned (.tuple #[.int .i64 r1, .int .i64 r2]) ∧ Below w.heap.size w w' := by
  unfold impl_IntegerOf.f at h
  split at h
  case isFalse => cases h
  rename_i hl
  have HR := Aside0.mk hr0_1
  have b0 := Aside0.mk (below_alloc (Below.refl w.heap.size w) (.cells #[.int .i64 a0_0, .slice A0_1 l0_1.length c0_1] 27))
  have hx := heap_alloc_new w (.cells #[.int .i64 a0_0, .slice A0_1 l0_1.length c0_1] 27)
  have X := Aside0.mk hx
  clear hr0_1 hx
  cases hw : isW a0_0 l0_1
  · rw [hw] at h
    simp only [Bool.false_eq_true, if_false, Option.some.injEq, Prod.mk.injEq] at h
    obtain ⟨rfl, rfl⟩ := h
    have HW := Aside0.mk hw
    clear hw
    go_enter Try.func18, Try.ntmps18
    go_wp2_with fail
    refine (isWhole_of _ _ _ _ (Kd.C_below HR.out b0.out) hc0_1 hl).mono ?_
    rintro e w1 ⟨rfl, hb⟩
    rw [HW.out]
    have B1 := Aside0.mk (b0.out.trans (hb.mono b0.out.size))
    clear hb
    go_wp2
    go_ret2
    exact ⟨rfl, B1.out⟩
  · rw [hw] at h
    simp only [if_true, Option.some.injEq] at h
    have HW := Aside0.mk hw
    have H := Aside0.mk h
    clear hw h
    go_enter Try.func18, Try.ntmps18
    go_wp2_with fail
    refine (isWhole_of _ _ _ _ (Kd.C_below HR.out b0.out) hc0_1 hl).mono ?_
    rintro e w1 ⟨rfl, hb⟩
    rw [HW.out]
    have B1 := Aside0.mk (b0.out.trans (hb.mono b0.out.size))
    have X1 := Aside0.mk (blk_below X.out hb)
    have p0 : w1.cell? ⟨w.heap.size, 0, none⟩ = some (.int .i64 a0_0) := (blk_cell X1.out 0).trans rfl
    have p1 : w1.cell? ⟨w.heap.size, 1, none⟩ = some (.slice A0_1 l0_1.length c0_1) := (blk_cell X1.out 1).trans rfl
    clear hb
    go_wp2_with fail
    refine (value_calls _ _ _ _ _ (lims_of (Kd.C_below HR.out B1.out) HW.out)).mono ?_
    rintro e w2 ⟨b, rfl, hge, hbig, hb⟩
    have BB := Aside0.mk hbig
    have B2 := Aside0.mk (B1.out.trans (hb.mono B1.out.size))
    clear hbig hb hge
    have hlm := Nat.le_trans (isW_len HW.out) (show 200 ≤ 1000000 by omega)
    have HLM := Aside0.mk hlm
    clear hlm
    go_wp2_with fail
    refine (isInt64_calls _ _ _ _ BB.out HLM.out).mono ?_
    rintro e w3 ⟨rfl, hb⟩
    have BB3 := Aside0.mk (BB.out.below hb)
    have B3 := Aside0.mk (B2.out.trans (hb.mono B2.out.size))
    clear hb
    cases hf : fits64 (wv a0_0 l0_1)
    · have h := H.out
      rw [hf] at h
      simp only [Bool.false_eq_true, if_false, Prod.mk.injEq] at h
      obtain ⟨rfl, rfl⟩ := h
      go_wp2
      go_ret2
      exact ⟨rfl, B3.out⟩
    · have h := H.out
      rw [hf] at h
      simp only [if_true, Prod.mk.injEq] at h
      obtain ⟨rfl, rfl⟩ := h
      obtain ⟨t, ht, hft, hc⟩ := int64_calls _ _ _ _ BB3.out HLM.out
      have hr : -9223372036854775808 ≤ wv a0_0 l0_1 ∧ wv a0_0 l0_1 ≤ 9223372036854775807 := by
        simpa only [fits64, Bool.and_eq_true, decide_eq_true_eq] using hf
      have HC := Aside0.mk hc
      have HT := Aside0.mk (hft hr)
      clear hc ht hft hr H hf
      go_wp2_with fail
      refine HC.out.mono ?_
      rintro e w4 ⟨rfl, rfl⟩
      go_wp2
      go_ret2
      exact ⟨by rw [← HT.out]; rfl, B3.out⟩
end Go.Proofs.Ytbmjakaoniegfaa
