/- The contract of impl.RootOfWhole in plain words. Condition: at most 1000000000 limbs; the library's table holds its numbers. -/
import Derived.Test.YtghhphndbbefjaaDoorBndB
import Derived.Test.YtghhphndbbefjaaDoorBigF
namespace Go.Proofs.YtghhphndbbefjaaDoor
open Go.RowKit Go.Proofs.YtghhphndbbefjaaDoorW.PrintWords Go.Proofs.YtghhphndbbefjaaDoorW.PrintLast Go.Proofs.YtghhphndbbefjaaDoorW.PrintMore Go.Proofs.YtghhphndbbefjaaDoor.Math Go.Proofs.YtghhphndbbefjaaDoor.Big
set_option linter.unusedVariables false
set_option linter.unusedSimpArgs false

def rootres (s : Int) (l : List Int) : Int × List Int × Int := if isW s l then (if s < 0 then (0, [], 5) else wfit (iroot (wv s l))) else (0, [], 1)
def impl_RootOfWhole.f (a0_0 : Int) (l0_1 : List Int) : Option (Int × List Int × Int) := if l0_1.length ≤ 1000000000 then some (rootres a0_0 l0_1) else none
set_option maxRecDepth 100000 in
set_option maxHeartbeats 2000000 in
theorem impl_RootOfWhole.calls (a0_0 : Int) (A0_1 : Option Addr) (c0_1 : Nat) (l0_1 : List Int) (r1 : Int) (r2 : List Int) (r3 : Int) (w : World) (hr0_1 : Kd.C (Kd.int .i64) w A0_1 l0_1.length l0_1) (hc0_1 : l0_1.length ≤ c0_1) (h : impl_RootOfWhole.f a0_0 l0_1 = some (r1, r2, r3)) :
    Calls Tryd.prog 21 #[.agg #[.int .i64 a0_0, .slice A0_1 l0_1.length c0_1]] w fun e w' => ∃ v1_ : Value, e = .returned (.tuple #[.agg #[.int .i64 r1, v1_], .int .i64 r3]) ∧ Kd.R (Kd.int .i64) 2 w' w.heap.size (fun _ => True) v1_ r2 ∧ Below w.heap.size w w' := by
  unfold impl_RootOfWhole.f at h
  split at h
  case isFalse => cases h
  rename_i hl
  injection h with h
  have HR := Aside0.mk hr0_1
  have R0 := Aside0.mk (ResAt.next (OneBox.start w a0_0 A0_1 c0_1 l0_1).lo)
  have O0 := Aside0.mk ((OneBox.start w a0_0 A0_1 c0_1 l0_1).below (below_alloc (Below.refl _ _) (.cells #[.int .i64 0, .slice none 0 0] 26)))
  have HL := Aside0.mk hl
  clear hr0_1 hl
  rw [alloc_size] at R0
  unfold rootres at h
  cases hw : isW a0_0 l0_1
  · rw [hw] at h
    simp only [Bool.false_eq_true, if_false, Prod.mk.injEq] at h
    obtain ⟨rfl, rfl, rfl⟩ := h
    have HW := Aside0.mk hw
    clear hw
    go_enter Tryd.func21, Tryd.ntmps21
    go_wp2_with fail
    refine (isWhole_of _ _ _ _ (Kd.C_below HR.out O0.out.lo) hc0_1 HL.out).mono ?_
    rintro e w1 ⟨rfl, hb⟩
    rw [HW.out]
    have R1 := Aside0.mk (R0.out.below hb)
    obtain ⟨q0, q1, q2, q3⟩ := R1.out.cells
    clear hb
    go_wp2_with fail
    refine bodyPost_ret (results_ct rfl _ _ (w.heap.size + 1) 26 #[.int .i64 0, .slice none 0 0] (0, 0) _ rfl (R1.out.put _ _) Tryd.underlying26 rfl (by kernel_rfl)) rfl ?_
    exact ⟨_, rfl, R1.out.row (own_zero w1 (w.heap.size + 3)) (by omega) _ _, R1.out.low _ _⟩
  · rw [hw] at h
    simp only [if_true] at h
    have HW := Aside0.mk hw
    clear hw
    by_cases hs : a0_0 < 0
    · rw [if_pos hs] at h
      simp only [Prod.mk.injEq] at h
      obtain ⟨rfl, rfl, rfl⟩ := h
      go_enter Tryd.func21, Tryd.ntmps21
      go_wp2_with fail
      refine (isWhole_of _ _ _ _ (Kd.C_below HR.out O0.out.lo) hc0_1 HL.out).mono ?_
      rintro e w1 ⟨rfl, hb⟩
      rw [HW.out]
      have R1 := Aside0.mk (R0.out.below hb)
      have O1 := Aside0.mk (O0.out.below hb)
      obtain ⟨p0, p1⟩ := O1.out.cells
      obtain ⟨q0, q1, q2, q3⟩ := R1.out.cells
      clear hb
      go_wp2_with fail
      refine bodyPost_ret (results_ct rfl _ _ (w.heap.size + 1) 26 #[.int .i64 0, .slice none 0 0] (0, 0) _ rfl (R1.out.put _ _) Tryd.underlying26 rfl (by kernel_rfl)) rfl ?_
      exact ⟨_, rfl, R1.out.row (own_zero w1 (w.heap.size + 3)) (by omega) _ _, R1.out.low _ _⟩
    · rw [if_neg hs] at h
      have HH := Aside0.mk h
      have h0 : 0 ≤ wv a0_0 l0_1 := by
        unfold wv
        rw [if_neg hs]
        exact lv_nonneg (isW_okl HW.out)
      have H0 := Aside0.mk h0
      clear h h0
      go_enter Tryd.func21, Tryd.ntmps21
      go_wp2_with fail
      refine (isWhole_of _ _ _ _ (Kd.C_below HR.out O0.out.lo) hc0_1 HL.out).mono ?_
      rintro e w1 ⟨rfl, hb⟩
      rw [HW.out]
      have R1 := Aside0.mk (R0.out.below hb)
      have O1 := Aside0.mk (O0.out.below hb)
      obtain ⟨p0, p1⟩ := O1.out.cells
      have p0' := fun o => pw_cell_below (below_alloc (Below.refl _ _) o) p0
      have p1' := fun o => pw_cell_below (below_alloc (Below.refl _ _) o) p1
      clear hb
      go_wp2_with fail
      have O2 := Aside0.mk (O1.out.below (below_alloc (Below.refl _ _) (.cells #[.bool false, .slice none 0 0] 73)))
      have R2 := Aside0.mk (R1.out.below (below_alloc (Below.refl _ _) (.cells #[.bool false, .slice none 0 0] 73)))
      refine (value_calls _ _ _ _ _ (lims_of (Kd.C_below HR.out O2.out.lo) HW.out)).mono ?_
      rintro e w3 ⟨b, rfl, hge, hbig, hb⟩
      have BB := Aside0.mk (hbig.more (isW_len HW.out))
      have R3 := Aside0.mk (R2.out.below hb)
      have HZ := Aside0.mk ((is_new w1).below hb)
      have GZ := Aside0.mk R1.out.lo.size
      clear hb hge hbig p0 p1 p0' p1'
      go_wp2_with fail
      refine (sqrt_calls w1.heap.size b _ 200 _ HZ.out BB.out H0.out (by omega)).mono ?_
      rintro e w4 ⟨rfl, hbig, hg⟩
      have BZ := Aside0.mk hbig
      have RB := Aside0.mk (whole_ne_big R3.out.box HZ.out)
      have R4 := Aside0.mk (show ResAt w w4 (w.heap.size + 1) from ⟨below_of_grown R3.out.lo hg GZ.out, blk_grown R3.out.box hg (fun e => RB.out (Option.some.inj e)), R3.out.ge⟩)
      clear hg hbig
      go_wp2_with fail
      refine (whole_calls w1.heap.size _ _ _ BZ.out (by omega) r1 r2 r3 HH.out).mono ?_
      rintro e w5 ⟨v, rfl, hr, hb5⟩
      obtain ⟨A1, c1, rfl⟩ := own_slice hr
      have R5 := Aside0.mk (R4.out.below hb5)
      have HRW := Aside0.mk hr
      obtain ⟨q0, q1, q2, q3⟩ := R5.out.cells
      clear hr hb5
      go_wp2_with fail
      refine bodyPost_ret (results_ct rfl _ _ (w.heap.size + 1) 26 #[.int .i64 r1, .slice A1 r2.length c1] (0, 0) _ rfl (R5.out.put _ _) Tryd.underlying26 rfl (by kernel_rfl)) rfl ?_
      exact ⟨_, rfl, R5.out.row HRW.out R4.out.lo.size _ _, R5.out.low _ _⟩
end Go.Proofs.YtghhphndbbefjaaDoor
