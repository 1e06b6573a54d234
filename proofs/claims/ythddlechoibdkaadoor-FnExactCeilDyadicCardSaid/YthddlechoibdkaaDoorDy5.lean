/- The contracts of (impl.number).ceil and impl.CeilDyadic in plain words. Conditions: at most 1000000000 limbs; the library's table holds its numbers. -/
import Derived.Test.YthddlechoibdkaaDoorDyN
namespace Go.Proofs.YthddlechoibdkaaDoor
open Go.RowKit Go.Proofs.YthddlechoibdkaaDoorW.PrintWords Go.Proofs.YthddlechoibdkaaDoorW.PrintLast Go.Proofs.YthddlechoibdkaaDoorW.PrintMore Go.Proofs.YthddlechoibdkaaDoor.Math Go.Proofs.YthddlechoibdkaaDoor.Big
set_option linter.unusedVariables false
set_option linter.unusedSimpArgs false

set_option maxRecDepth 100000 in
set_option maxHeartbeats 2000000 in
theorem ceil_calls (x : Nat) (n p k : Int) (m : Nat) (w : World) (hx : Big w x n m) (hm : m ≤ 100000) (hp : -50000 ≤ p ∧ p ≤ 50000) (hk : -50000 ≤ k ∧ k ≤ 50000) (hT : Tab w) :
    Calls Tryd.prog 46 #[.agg #[.pointer (some ⟨x, 0, none⟩), .int .i64 p], .int .i64 k] w fun e w' => ∃ z, e = .returned (.pointer (some ⟨z, 0, none⟩)) ∧ w.heap.size ≤ z ∧ Big w' z (-(shv (-n) (p + k))) (m + 4000) ∧ Below w.heap.size w w' := by
  have N0 := Aside0.mk (NumBox.start w x p)
  have HX := Aside0.mk (hx.below N0.out.lo)
  have HT := Aside0.mk hT
  have HP := Aside0.mk (And.intro hp hk)
  obtain ⟨p0, p1⟩ := N0.out.cells
  clear hx hT hp hk
  go_enter Tryd.func46, Tryd.ntmps46
  go_wp2
  generalize hw0 : w.alloc (.cells #[.pointer (some ⟨x, 0, none⟩), .int .i64 p] 55) = w1 at N0 HX p0 p1 ⊢
  clear hw0
  refine start_ (n := 10) (S := fun w' => w'.cell? ⟨w.heap.size, 0, none⟩ = some (.pointer (some ⟨x, 0, none⟩)) ∧ w'.cell? ⟨w.heap.size, 1, none⟩ = some (.int .i64 p)) (ds := []) #[false, false, false, false, false, false, false, false, false, false] (by kernel_rfl) rfl rfl ⟨p0, p1⟩ (fun hHeld => ?_)
  have Dw3 := Aside0.mk ((Below.refl w1.heap.size w1).drew)
  generalize w1.drew = w3 at hHeld Dw3 ⊢
  refine pure_ (i := 1) (N := some 7) (v := ?_) (a' := ?_) #[false, true, false, false, false, false, false, false, false, false] rfl rfl (by kernel_rfl) (fun _ _ _ h => h) (Or.inl ⟨by rfl, ?_⟩) ?_ ?_
  rotate_left
  · intro w'
    go_simp
    with_reducible rfl
  rotate_left
  · simp only [Act.put, List.setIfInBounds_toArray, List.set_cons_zero, List.set_cons_succ, i64_w, i32_w]
    rfl
  refine pure_ (i := 4) (N := some 10) (v := ?_) (a' := ?_) #[false, true, false, false, true, false, false, false, false, false] rfl rfl (by kernel_rfl) (fun _ _ _ h => h) (Or.inl ⟨by rfl, ?_⟩) ?_ ?_
  rotate_left
  · intro w'
    go_simp
    with_reducible rfl
  rotate_left
  · simp only [Act.put, List.setIfInBounds_toArray, List.set_cons_zero, List.set_cons_succ, i64_w, i32_w]
    rfl
  refine pure_ (i := 7) (N := some 13) (v := ?_) (a' := ?_) #[false, true, false, false, true, false, false, true, false, false] rfl rfl (by kernel_rfl) (fun _ _ _ h => h) (Or.inl ⟨by rfl, ?_⟩) ?_ ?_
  rotate_left
  · intro w'
    go_simp
    with_reducible rfl
  rotate_left
  · simp only [Act.put, List.setIfInBounds_toArray, List.set_cons_zero, List.set_cons_succ, i64_w, i32_w]
    rfl
  refine take_ (i := 2) (N := some 8) (v := ?_) (a' := ?_) #[false, true, true, false, true, false, false, true, false, false] rfl rfl (by kernel_rfl) (fun _ _ _ h => h) (Or.inl ⟨by rfl, ?_⟩) hHeld ?_ ?_
  rotate_left
  · rintro w' ⟨s0, s1⟩
    go_simp
    with_reducible rfl
  rotate_left
  · simp only [Act.put, List.setIfInBounds_toArray, List.set_cons_zero, List.set_cons_succ, i64_w, i32_w]
    rfl
  refine take_ (i := 5) (N := some 11) (v := ?_) (a' := ?_) #[false, true, true, false, true, true, false, true, false, false] rfl rfl (by kernel_rfl) (fun _ _ _ h => h) (Or.inl ⟨by rfl, ?_⟩) hHeld ?_ ?_
  rotate_left
  · rintro w' ⟨s0, s1⟩
    go_simp
    with_reducible rfl
  rotate_left
  · simp only [Act.put, List.setIfInBounds_toArray, List.set_cons_zero, List.set_cons_succ, i64_w, i32_w]
    rfl
  refine one_ (i := 0) (N := some 6) #[true, true, true, false, true, true, false, true, false, false] rfl rfl (by kernel_rfl) (by decide) (fun K hK => ?_)
  refine value_ (w1 := ?_) (v := ?_) (by rfl) rfl ?_ ?_
  rotate_left 2
  · go_simp
    constructor
    · rfl
    · rfl
  refine hK.out _ _ ⟨pw_cell_below (below_alloc (Below.refl _ _) _) hHeld.1, pw_cell_below (below_alloc (Below.refl _ _) _) hHeld.2⟩ (fun hHeld => ?_)
  clear hK K
  refine norm_ (a' := ?_) ?_ ?_
  rotate_left
  · show Act.put _ (some 6) _ = _
    simp only [Act.put, List.setIfInBounds_toArray, List.set_cons_zero, List.set_cons_succ, i64_w, i32_w]
    rfl
  refine one_ (i := 3) (N := some 9) #[true, true, true, true, true, true, false, true, false, false] rfl rfl (by kernel_rfl) (by decide) (fun K hK => ?_)
  have N3 := Aside0.mk (N0.out.below Dw3.out)
  have X3 := Aside0.mk ((HX.out.below Dw3.out).below (below_alloc (Below.refl w3.heap.size w3) (.cells #[.bool false, .slice none 0 0] 78)))
  refine goes_ Tryd.func74 (by kernel_rfl) rfl #[.pointer (some ⟨w3.heap.size, 0, none⟩), .pointer (some ⟨x, 0, none⟩)] (by rfl) rfl rfl (by simp only [List.map_toArray, List.map_cons, List.map_nil]; rfl) ?_
  with_reducible refine (neg_calls w3.heap.size x n m _ (is_new w3) X3.out (by omega)).mono ?_
  rintro e w4 ⟨rfl, hb4, hg4⟩
  refine ⟨_, rfl, ?_⟩
  have L4 := Aside0.mk (below_of_grown ((Below.refl w3.heap.size w3).alloc (Nat.le_refl _) _) hg4 (Nat.le_refl _))
  have N4 := Aside0.mk (N3.out.below L4.out)
  have B4 := Aside0.mk hb4
  clear hb4 hg4
  refine hK.out _ _ ⟨N4.out.cells.1, N4.out.cells.2⟩ (fun hHeld => ?_)
  clear hK K
  refine norm_ (a' := ?_) ?_ ?_
  rotate_left
  · show Act.put _ (some 9) _ = _
    simp only [Act.put, List.setIfInBounds_toArray, List.set_cons_zero, List.set_cons_succ, i64_w, i32_w]
    rfl
  refine pure_ (i := 6) (N := some 12) (v := ?_) (a' := ?_) #[true, true, true, true, true, true, true, true, false, false] rfl rfl (by kernel_rfl) (fun _ _ _ h => h) (Or.inl ⟨by rfl, ?_⟩) ?_ ?_
  rotate_left
  · intro w'
    go_simp
    with_reducible rfl
  rotate_left
  · simp only [Act.put, List.setIfInBounds_toArray, List.set_cons_zero, List.set_cons_succ, i64_w, i32_w]
    rfl
  refine one_ (i := 8) (N := some 14) #[true, true, true, true, true, true, true, true, true, false] rfl rfl (by kernel_rfl) (by decide) (fun K hK => ?_)
  refine goes_ Tryd.func52 (by kernel_rfl) rfl #[.agg #[.pointer (some ⟨w3.heap.size, 0, none⟩), .int .i64 p], .int .i64 k] (by rfl) rfl rfl (by simp only [List.map_toArray, List.map_cons, List.map_nil]; rfl) ?_
  with_reducible refine (floor_calls w3.heap.size (-n) p k m _ B4.out hm HP.out.1 HP.out.2 (HT.out.below N4.out.lo)).mono ?_
  rintro e w5 ⟨z, rfl, hge, hbig, hb⟩
  refine ⟨_, rfl, ?_⟩
  have N5 := Aside0.mk (N4.out.below hb)
  have BZ := Aside0.mk hbig
  have GE := Aside0.mk (Nat.le_trans N4.out.lo.size hge)
  clear hb hge hbig
  refine hK.out _ _ ⟨N5.out.cells.1, N5.out.cells.2⟩ (fun hHeld => ?_)
  clear hK K
  refine norm_ (a' := ?_) ?_ ?_
  rotate_left
  · show Act.put _ (some 14) _ = _
    simp only [Act.put, List.setIfInBounds_toArray, List.set_cons_zero, List.set_cons_succ, i64_w, i32_w]
    rfl
  refine pure_ (i := 9) (N := some 5) (v := ?_) (a' := ?_) #[true, true, true, true, true, true, true, true, true, true] rfl rfl (by kernel_rfl) (fun _ _ _ h => h) (Or.inl ⟨by rfl, ?_⟩) ?_ ?_
  rotate_left
  · intro w'
    go_simp
    with_reducible rfl
  rotate_left
  · simp only [Act.put, List.setIfInBounds_toArray, List.set_cons_zero, List.set_cons_succ, i64_w, i32_w]
    rfl
  refine done_ (by kernel_rfl) ?_

  go_wp2_with fail
  refine (neg_calls z z _ _ _ BZ.out.is BZ.out (by omega)).mono ?_
  rintro e w6 ⟨rfl, hb6, hg6⟩
  have B6 := Aside0.mk hb6
  have L6 := Aside0.mk (below_of_grown N5.out.lo hg6 GE.out)
  clear hb6 hg6
  go_wp2
  go_ret
  exact ⟨z, rfl, GE.out, B6.out, L6.out⟩
def clres (s : Int) (l : List Int) (e k : Int) : Int × List Int × Int × Int := if rcode s l e k (-1000) 1000 = 0 then dyfit (-(shv (-(wv s l)) (e + k))) (-k) else (0, [], 0, rcode s l e k (-1000) 1000)
def impl_CeilDyadic.f (a0_0 : Int) (l0_1 : List Int) (a0_2 : Int) (a1 : Int) : Option (Int × List Int × Int × Int) := if l0_1.length ≤ 1000000000 then some (clres a0_0 l0_1 a0_2 a1) else none
set_option maxRecDepth 100000 in
set_option maxHeartbeats 2000000 in
theorem impl_CeilDyadic.calls (a0_0 : Int) (A0_1 : Option Addr) (c0_1 : Nat) (l0_1 : List Int) (a0_2 : Int) (a1 : Int) (r1 : Int) (r2 : List Int) (r3 r4 : Int) (w : World) (hr0_1 : Kd.C (Kd.int .i64) w A0_1 l0_1.length l0_1) (hc0_1 : l0_1.length ≤ c0_1) (hT : Tab w) (h : impl_CeilDyadic.f a0_0 l0_1 a0_2 a1 = some (r1, r2, r3, r4)) :
    Calls Tryd.prog 19 #[.agg #[.int .i64 a0_0, .slice A0_1 l0_1.length c0_1, .int .i64 a0_2], .int .i64 a1] w fun e w' => ∃ v1_ : Value, e = .returned (.tuple #[.agg #[.int .i64 r1, v1_, .int .i64 r3], .int .i64 r4]) ∧ Kd.R (Kd.int .i64) 2 w' w.heap.size (fun _ => True) v1_ r2 ∧ Below w.heap.size w w' := by
  unfold impl_CeilDyadic.f at h
  split at h
  case isFalse => cases h
  rename_i hl
  injection h with h
  have HR := Aside0.mk hr0_1
  have R0 := Aside0.mk (ResD.next (DyBox.start w a0_0 A0_1 c0_1 l0_1 a0_2).lo)
  have D0 := Aside0.mk ((DyBox.start w a0_0 A0_1 c0_1 l0_1 a0_2).below (below_alloc (Below.refl _ _) (.cells #[.int .i64 0, .slice none 0 0, .int .i64 0] 30)))
  have HT := Aside0.mk hT
  have HL := Aside0.mk hl
  clear hr0_1 hT hl
  rw [alloc_size] at R0
  unfold clres at h
  by_cases hc : rcode a0_0 l0_1 a0_2 a1 (-1000) 1000 = 0
  · rw [if_pos hc] at h
    obtain ⟨hd, hk⟩ := rcode_ok hc
    have hx := isD_exp hd
    have HH := Aside0.mk h
    have HW := Aside0.mk (isD_isW hd)
    have HC := Aside0.mk hc
    have hwk : wrap64 (-a1) = -a1 := w64s (by omega) (by omega)
    have HB := Aside0.mk (show (-50000 ≤ a0_2 ∧ a0_2 ≤ 50000) ∧ (-50000 ≤ a1 ∧ a1 ≤ 50000) from by omega)
    have HB2 := Aside0.mk (show -1000000 ≤ -a1 ∧ -a1 ≤ 1000000 from by omega)
    clear h hd hc hk hx
    go_enter Tryd.func19, Tryd.ntmps19
    go_wp2_with fail
    refine (code_calls _ _ _ _ _ _ _ _ _ (Kd.C_below HR.out D0.out.lo) hc0_1 HL.out _ HC.out).mono ?_
    rintro e w1 ⟨rfl, hb⟩
    have R1 := Aside0.mk (R0.out.below hb)
    have D1 := Aside0.mk (D0.out.below hb)
    obtain ⟨p0, p1, p2⟩ := D1.out.cells
    clear hb
    go_wp2_with fail
    refine (dvalue_calls a0_0 A0_1 c0_1 l0_1 a0_2 _ (Kd.C_below HR.out D1.out.lo) HW.out).mono ?_
    rintro e w2 ⟨b, rfl, hge, hbig, hb⟩
    have R2 := Aside0.mk (R1.out.below hb)
    have BB := Aside0.mk hbig
    clear hb hge hbig p0 p1 p2
    go_wp2_with fail
    refine (ceil_calls b _ a0_2 a1 200 _ BB.out (by omega) HB.out.1 HB.out.2 (HT.out.below R2.out.lo)).mono ?_
    rintro e w3 ⟨z, rfl, hge, hbig, hb⟩
    have R3 := Aside0.mk (R2.out.below hb)
    have BZ := Aside0.mk hbig
    clear hb hge hbig
    go_wp2_with fail
    refine (dyadic_calls z _ (-a1) 4200 _ BZ.out (by omega) HB2.out.1 HB2.out.2 (HT.out.below R3.out.lo) r1 r2 r3 r4 HH.out).mono ?_
    rintro e w5 ⟨v, rfl, hr, hb5⟩
    obtain ⟨A1, c1, rfl⟩ := own_slice hr
    have R5 := Aside0.mk (R3.out.below hb5)
    have HRW := Aside0.mk hr
    obtain ⟨q0, q1, q2, q3, q4, q5⟩ := R5.out.cells
    clear hr hb5
    go_wp2_with fail
    refine bodyPost_ret (results_ct rfl _ _ (w.heap.size + 1) 30 #[.int .i64 r1, .slice A1 r2.length c1, .int .i64 r3] (0, 0) _ rfl (R5.out.put _ _ _) Tryd.underlying30 rfl (by kernel_rfl)) rfl ?_
    exact ⟨_, rfl, R5.out.row HRW.out R3.out.lo.size _ _ _, R5.out.low _ _ _⟩
  · rw [if_neg hc] at h
    simp only [Prod.mk.injEq] at h
    obtain ⟨rfl, rfl, rfl, hcode⟩ := h
    have HC := Aside0.mk hcode
    have hcb : (r4 == 0) = false := by rw [← hcode]; simpa using hc
    have hcb2 : (r4 != 0) = true := by rw [← hcode]; simpa using hc
    clear hc hcode
    go_enter Tryd.func19, Tryd.ntmps19
    go_wp2_with fail
    refine (code_calls _ _ _ _ _ _ _ _ _ (Kd.C_below HR.out D0.out.lo) hc0_1 HL.out _ HC.out).mono ?_
    rintro e w1 ⟨rfl, hb⟩
    have R1 := Aside0.mk (R0.out.below hb)
    obtain ⟨q0, q1, q2, q3, q4, q5⟩ := R1.out.cells
    clear hb
    go_wp2_with fail
    refine bodyPost_ret (results_ct rfl _ _ (w.heap.size + 1) 30 #[.int .i64 0, .slice none 0 0, .int .i64 0] (0, 0) _ rfl (R1.out.put _ _ _) Tryd.underlying30 rfl (by kernel_rfl)) rfl ?_
    exact ⟨_, rfl, R1.out.row (own_zero w1 (w.heap.size + 3)) (by omega) _ _ _, R1.out.low _ _ _⟩
end Go.Proofs.YthddlechoibdkaaDoor
