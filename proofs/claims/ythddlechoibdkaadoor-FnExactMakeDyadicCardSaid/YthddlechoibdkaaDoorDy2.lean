/- The contract of impl.MakeDyadic in plain words. Conditions: at most 1000000000 limbs; the library's table holds its numbers. -/
import Derived.Test.YthddlechoibdkaaDoorDyM
namespace Go.Proofs.YthddlechoibdkaaDoor
open Go.RowKit Go.Proofs.YthddlechoibdkaaDoorW.PrintWords Go.Proofs.YthddlechoibdkaaDoorW.PrintLast Go.Proofs.YthddlechoibdkaaDoorW.PrintMore Go.Proofs.YthddlechoibdkaaDoor.Math Go.Proofs.YthddlechoibdkaaDoor.Big
set_option linter.unusedVariables false
set_option linter.unusedSimpArgs false

def mkres (s : Int) (l : List Int) (k : Int) : Int × List Int × Int × Int := if isW s l then (if -10000 ≤ k ∧ k ≤ 10000 then dyfit (wv s l) k else (0, [], 0, 2)) else (0, [], 0, 1)
def impl_MakeDyadic.f (a0_0 : Int) (l0_1 : List Int) (a1 : Int) : Option (Int × List Int × Int × Int) := if l0_1.length ≤ 1000000000 then some (mkres a0_0 l0_1 a1) else none
set_option maxRecDepth 100000 in
set_option maxHeartbeats 2000000 in
theorem impl_MakeDyadic.calls (a0_0 : Int) (A0_1 : Option Addr) (c0_1 : Nat) (l0_1 : List Int) (a1 : Int) (r1 : Int) (r2 : List Int) (r3 r4 : Int) (w : World) (hr0_1 : Kd.C (Kd.int .i64) w A0_1 l0_1.length l0_1) (hc0_1 : l0_1.length ≤ c0_1) (hT : Tab w) (h : impl_MakeDyadic.f a0_0 l0_1 a1 = some (r1, r2, r3, r4)) :
    Calls Tryd.prog 27 #[.agg #[.int .i64 a0_0, .slice A0_1 l0_1.length c0_1], .int .i64 a1] w fun e w' => ∃ v1_ : Value, e = .returned (.tuple #[.agg #[.int .i64 r1, v1_, .int .i64 r3], .int .i64 r4]) ∧ Kd.R (Kd.int .i64) 2 w' w.heap.size (fun _ => True) v1_ r2 ∧ Below w.heap.size w w' := by
  unfold impl_MakeDyadic.f at h
  split at h
  case isFalse => cases h
  rename_i hl
  injection h with h
  have HR := Aside0.mk hr0_1
  have R0 := Aside0.mk (ResD.next (OneBox.start w a0_0 A0_1 c0_1 l0_1).lo)
  have O0 := Aside0.mk ((OneBox.start w a0_0 A0_1 c0_1 l0_1).below (below_alloc (Below.refl _ _) (.cells #[.int .i64 0, .slice none 0 0, .int .i64 0] 30)))
  have HT := Aside0.mk hT
  have HL := Aside0.mk hl
  clear hr0_1 hT hl
  rw [alloc_size] at R0
  unfold mkres at h
  cases hw : isW a0_0 l0_1
  · rw [hw] at h
    simp only [Bool.false_eq_true, if_false, Prod.mk.injEq] at h
    obtain ⟨rfl, rfl, rfl, rfl⟩ := h
    have HW := Aside0.mk hw
    clear hw
    go_enter Tryd.func27, Tryd.ntmps27
    go_wp2_with fail
    refine (isWhole_of _ _ _ _ (Kd.C_below HR.out O0.out.lo) hc0_1 HL.out).mono ?_
    rintro e w1 ⟨rfl, hb⟩
    rw [HW.out]
    have R1 := Aside0.mk (R0.out.below hb)
    obtain ⟨q0, q1, q2, q3, q4, q5⟩ := R1.out.cells
    clear hb
    go_wp2_with fail
    refine bodyPost_ret (results_ct rfl _ _ (w.heap.size + 1) 30 #[.int .i64 0, .slice none 0 0, .int .i64 0] (0, 0) _ rfl (R1.out.put _ _ _) Tryd.underlying30 rfl (by kernel_rfl)) rfl ?_
    exact ⟨_, rfl, R1.out.row (own_zero w1 (w.heap.size + 3)) (by omega) _ _ _, R1.out.low _ _ _⟩
  · rw [hw] at h
    simp only [if_true] at h
    have HW := Aside0.mk hw
    clear hw
    by_cases hk : -10000 ≤ a1 ∧ a1 ≤ 10000
    · rw [if_pos hk] at h
      have HH := Aside0.mk h
      have HK := Aside0.mk hk
      clear h hk
      go_enter Tryd.func27, Tryd.ntmps27
      go_wp2_with fail
      refine (isWhole_of _ _ _ _ (Kd.C_below HR.out O0.out.lo) hc0_1 HL.out).mono ?_
      rintro e w1 ⟨rfl, hb⟩
      rw [HW.out]
      have R1 := Aside0.mk (R0.out.below hb)
      have O1 := Aside0.mk (O0.out.below hb)
      clear hb
      go_wp2_with fail
      refine (between_of a1 (-10000) 10000 _ true (by simp [HK.out])).mono ?_
      rintro e w2 ⟨rfl, hb⟩
      have R2 := Aside0.mk (R1.out.below hb)
      have O2 := Aside0.mk (O1.out.below hb)
      obtain ⟨p0, p1⟩ := O2.out.cells
      clear hb
      go_wp2_with fail
      refine (value_calls _ _ _ _ _ (lims_of (Kd.C_below HR.out O2.out.lo) HW.out)).mono ?_
      rintro e w3 ⟨b, rfl, hge, hbig, hb⟩
      have BB := Aside0.mk (hbig.more (isW_len HW.out))
      have R3 := Aside0.mk (R2.out.below hb)
      have T3 := Aside0.mk (HT.out.below R3.out.lo)
      clear hb hge hbig p0 p1
      go_wp2_with fail
      refine (dyadic_calls b _ a1 200 _ BB.out (by omega) (by have := HK.out; omega) (by have := HK.out; omega) T3.out r1 r2 r3 r4 HH.out).mono ?_
      rintro e w5 ⟨v, rfl, hr, hb5⟩
      obtain ⟨A1, c1, rfl⟩ := own_slice hr
      have R5 := Aside0.mk (R3.out.below hb5)
      have HRW := Aside0.mk hr
      obtain ⟨q0, q1, q2, q3, q4, q5⟩ := R5.out.cells
      clear hr hb5
      go_wp2_with fail
      refine bodyPost_ret (results_ct rfl _ _ (w.heap.size + 1) 30 #[.int .i64 r1, .slice A1 r2.length c1, .int .i64 r3] (0, 0) _ rfl (R5.out.put _ _ _) Tryd.underlying30 rfl (by kernel_rfl)) rfl ?_
      exact ⟨_, rfl, R5.out.row HRW.out R3.out.lo.size _ _ _, R5.out.low _ _ _⟩
    · rw [if_neg hk] at h
      simp only [Prod.mk.injEq] at h
      obtain ⟨rfl, rfl, rfl, rfl⟩ := h
      have HK := Aside0.mk hk
      clear hk
      go_enter Tryd.func27, Tryd.ntmps27
      go_wp2_with fail
      refine (isWhole_of _ _ _ _ (Kd.C_below HR.out O0.out.lo) hc0_1 HL.out).mono ?_
      rintro e w1 ⟨rfl, hb⟩
      rw [HW.out]
      have R1 := Aside0.mk (R0.out.below hb)
      clear hb
      go_wp2_with fail
      refine (between_of a1 (-10000) 10000 _ false (by have := HK.out; simp; omega)).mono ?_
      rintro e w2 ⟨rfl, hb⟩
      have R2 := Aside0.mk (R1.out.below hb)
      obtain ⟨q0, q1, q2, q3, q4, q5⟩ := R2.out.cells
      clear hb
      go_wp2_with fail
      refine bodyPost_ret (results_ct rfl _ _ (w.heap.size + 1) 30 #[.int .i64 0, .slice none 0 0, .int .i64 0] (0, 0) _ rfl (R2.out.put _ _ _) Tryd.underlying30 rfl (by kernel_rfl)) rfl ?_
      exact ⟨_, rfl, R2.out.row (own_zero w2 (w.heap.size + 3)) (by omega) _ _ _, R2.out.low _ _ _⟩
end Go.Proofs.YthddlechoibdkaaDoor
