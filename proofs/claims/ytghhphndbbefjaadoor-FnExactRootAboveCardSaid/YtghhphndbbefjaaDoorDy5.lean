/- The contracts of (impl.number).ceil and impl.CeilDyadic in plain words. Conditions: at most 1000000000 limbs; the library's table holds its numbers. -/
import Derived.Test.YtghhphndbbefjaaDoorG31
namespace Go.Proofs.YtghhphndbbefjaaDoor
open Go.RowKit Go.Proofs.YtghhphndbbefjaaDoorW.PrintWords Go.Proofs.YtghhphndbbefjaaDoorW.PrintLast Go.Proofs.YtghhphndbbefjaaDoorW.PrintMore Go.Proofs.YtghhphndbbefjaaDoor.Math Go.Proofs.YtghhphndbbefjaaDoor.Big
set_option linter.unusedVariables false
set_option linter.unusedSimpArgs false
set_option maxRecDepth 100000 in
set_option maxHeartbeats 2000000 in
theorem ceil_calls (x : Nat) (n p k : Int) (m : Nat) (w : World) (hx : Big w x n m) (hm : m ≤ 100000) (hp : -50000 ≤ p ∧ p ≤ 50000) (hk : -50000 ≤ k ∧ k ≤ 50000) (hT : Tab w) :
  Calls Tryd.prog 124 #[.agg #[.pointer (some ⟨x, 0, none⟩), .int .i64 p], .int .i64 k] w fun e w' => ∃ z, e = .returned (.pointer (some ⟨z, 0, none⟩)) ∧ w.heap.size ≤ z ∧ Big w' z (-(shv (-n) (p + k))) (m + 4000) ∧ Below w.heap.size w w' := by
 have N0 := Aside0.mk (NumBox.start w x p)
 have HX := Aside0.mk (hx.below N0.out.lo)
 have HT := Aside0.mk hT
 have HP := Aside0.mk (And.intro hp hk)
 obtain ⟨p0, p1⟩ := N0.out.cells
 clear hx hT hp hk
 go_enter Tryd.func124, Tryd.ntmps124
 go_wp2
 generalize hw0 : w.alloc (.cells #[.pointer (some ⟨x, 0, none⟩), .int .i64 p] 90) = w1 at N0 HX p0 p1 ⊢
 clear hw0
 refine start_ (n := 10) (S := fun w' => w'.cell? ⟨w.heap.size, 0, none⟩ = some (.pointer (some ⟨x, 0, none⟩)) ∧ w'.cell? ⟨w.heap.size, 1, none⟩ = some (.int .i64 p)) (ds := []) #[false, false, false, false, false, false, false, false, false, false] (by kernel_rfl) rfl rfl ⟨p0, p1⟩ (fun hHeld => ?_)
 have Dw3 := Aside0.mk ((Below.refl w1.heap.size w1).drew)
 generalize w1.drew = w3 at hHeld Dw3 ⊢
 refine pure_ (i := 1) (N := some 7) (v := ?_) (a' := ?_) #[false, true, false, false, false, false, false, false, false, false] rfl rfl (by kernel_rfl) (fun _ _ _ h => h) (Or.inl ⟨by rfl, ?_⟩) ?_ ?_
 rotate_left
 ·intro w'
  go_simp
  with_reducible rfl
 rotate_left
 ·simp only [Act.put, List.setIfInBounds_toArray, List.set_cons_zero, List.set_cons_succ, i64_w, i32_w]
  rfl
 refine pure_ (i := 4) (N := some 10) (v := ?_) (a' := ?_) #[false, true, false, false, true, false, false, false, false, false] rfl rfl (by kernel_rfl) (fun _ _ _ h => h) (Or.inl ⟨by rfl, ?_⟩) ?_ ?_
 rotate_left
 ·intro w'
  go_simp
  with_reducible rfl
 rotate_left
 ·simp only [Act.put, List.setIfInBounds_toArray, List.set_cons_zero, List.set_cons_succ, i64_w, i32_w]
  rfl
 refine pure_ (i := 7) (N := some 13) (v := ?_) (a' := ?_) #[false, true, false, false, true, false, false, true, false, false] rfl rfl (by kernel_rfl) (fun _ _ _ h => h) (Or.inl ⟨by rfl, ?_⟩) ?_ ?_
 rotate_left
 ·intro w'
  go_simp
  with_reducible rfl
 rotate_left
 ·simp only [Act.put, List.setIfInBounds_toArray, List.set_cons_zero, List.set_cons_succ, i64_w, i32_w]
  rfl
 refine take_ (i := 2) (N := some 8) (v := ?_) (a' := ?_) #[false, true, true, false, true, false, false, true, false, false] rfl rfl (by kernel_rfl) (fun _ _ _ h => h) (Or.inl ⟨by rfl, ?_⟩) hHeld ?_ ?_
 rotate_left
 ·rintro w' ⟨s0, s1⟩
  go_simp
  with_reducible rfl
 rotate_left
 ·simp only [Act.put, List.setIfInBounds_toArray, List.set_cons_zero, List.set_cons_succ, i64_w, i32_w]
  rfl
 refine take_ (i := 5) (N := some 11) (v := ?_) (a' := ?_) #[false, true, true, false, true, true, false, true, false, false] rfl rfl (by kernel_rfl) (fun _ _ _ h => h) (Or.inl ⟨by rfl, ?_⟩) hHeld ?_ ?_
 rotate_left
 ·rintro w' ⟨s0, s1⟩
  go_simp
  with_reducible rfl
 rotate_left
 ·simp only [Act.put, List.setIfInBounds_toArray, List.set_cons_zero, List.set_cons_succ, i64_w, i32_w]
  rfl
 refine one_ (i := 0) (N := some 6) #[true, true, true, false, true, true, false, true, false, false] rfl rfl (by kernel_rfl) (by decide) (fun K hK => ?_)
 refine value_ (w1 := ?_) (v := ?_) (by rfl) rfl ?_ ?_
 rotate_left 2
 ·go_simp
  constructor
  ·rfl
  ·rfl
 refine hK.out _ _ ⟨pw_cell_below (below_alloc (Below.refl _ _) _) hHeld.1, pw_cell_below (below_alloc (Below.refl _ _) _) hHeld.2⟩ (fun hHeld => ?_)
 clear hK K
 refine norm_ (a' := ?_) ?_ ?_
 rotate_left
 ·show Act.put _ (some 6) _ = _
  simp only [Act.put, List.setIfInBounds_toArray, List.set_cons_zero, List.set_cons_succ, i64_w, i32_w]
  rfl
 refine one_ (i := 3) (N := some 9) #[true, true, true, true, true, true, false, true, false, false] rfl rfl (by kernel_rfl) (by decide) (fun K hK => ?_)
 have N3 := Aside0.mk (N0.out.below Dw3.out)
 have X3 := Aside0.mk ((HX.out.below Dw3.out).below (below_alloc (Below.refl w3.heap.size w3) (.cells #[.bool false, .slice none 0 0] 73)))
 refine goes_ Tryd.func93 (by kernel_rfl) rfl #[.pointer (some ⟨w3.heap.size, 0, none⟩), .pointer (some ⟨x, 0, none⟩)] (by rfl) rfl rfl (by simp only [List.map_toArray, List.map_cons, List.map_nil]; rfl) ?_
 with_reducible refine (neg_calls w3.heap.size x n m _ (is_new w3) X3.out (by omega)).mono ?_
 rintro e w4 ⟨rfl, hb4, hg4⟩
 refine ⟨_, rfl, ?_⟩
 have L4 := Aside0.mk (below_of_grown ((Below.refl w3.heap.size w3).alloc (Nat.le_refl _) _) hg4 (Nat.le_refl _))
 have N4 := Aside0.mk (N3.out.below L4.out)
 have B4 := Aside0.mk hb4
 clear hb4 hg4
 refine hK.out _ _ ⟨N4.out.cells.1, N4.out.cells.2⟩ (fun hHeld => ?_)
 clear hK K
 refine norm_ (a' := ?_) ?_ ?_
 rotate_left
 ·show Act.put _ (some 9) _ = _
  simp only [Act.put, List.setIfInBounds_toArray, List.set_cons_zero, List.set_cons_succ, i64_w, i32_w]
  rfl
 refine pure_ (i := 6) (N := some 12) (v := ?_) (a' := ?_) #[true, true, true, true, true, true, true, true, false, false] rfl rfl (by kernel_rfl) (fun _ _ _ h => h) (Or.inl ⟨by rfl, ?_⟩) ?_ ?_
 rotate_left
 ·intro w'
  go_simp
  with_reducible rfl
 rotate_left
 ·simp only [Act.put, List.setIfInBounds_toArray, List.set_cons_zero, List.set_cons_succ, i64_w, i32_w]
  rfl
 refine one_ (i := 8) (N := some 14) #[true, true, true, true, true, true, true, true, true, false] rfl rfl (by kernel_rfl) (by decide) (fun K hK => ?_)
 refine goes_ Tryd.func138 (by kernel_rfl) rfl #[.agg #[.pointer (some ⟨w3.heap.size, 0, none⟩), .int .i64 p], .int .i64 k] (by rfl) rfl rfl (by simp only [List.map_toArray, List.map_cons, List.map_nil]; rfl) ?_
 with_reducible refine (floor_calls w3.heap.size (-n) p k m _ B4.out hm HP.out.1 HP.out.2 (HT.out.below N4.out.lo)).mono ?_
 rintro e w5 ⟨z, rfl, hge, hbig, hb⟩
 refine ⟨_, rfl, ?_⟩
 have N5 := Aside0.mk (N4.out.below hb)
 have BZ := Aside0.mk hbig
 have GE := Aside0.mk (Nat.le_trans N4.out.lo.size hge)
 clear hb hge hbig
 refine hK.out _ _ ⟨N5.out.cells.1, N5.out.cells.2⟩ (fun hHeld => ?_)
 clear hK K
 refine norm_ (a' := ?_) ?_ ?_
 rotate_left
 ·show Act.put _ (some 14) _ = _
  simp only [Act.put, List.setIfInBounds_toArray, List.set_cons_zero, List.set_cons_succ, i64_w, i32_w]
  rfl
 refine pure_ (i := 9) (N := some 5) (v := ?_) (a' := ?_) #[true, true, true, true, true, true, true, true, true, true] rfl rfl (by kernel_rfl) (fun _ _ _ h => h) (Or.inl ⟨by rfl, ?_⟩) ?_ ?_
 rotate_left
 ·intro w'
  go_simp
  with_reducible rfl
 rotate_left
 ·simp only [Act.put, List.setIfInBounds_toArray, List.set_cons_zero, List.set_cons_succ, i64_w, i32_w]
  rfl
 refine done_ (by kernel_rfl) ?_
 go_wp2_with fail
 refine (neg_calls z z _ _ _ BZ.out.is BZ.out (by omega)).mono ?_
 rintro e w6 ⟨rfl, hb6, hg6⟩
 have B6 := Aside0.mk hb6
 have L6 := Aside0.mk (below_of_grown N5.out.lo hg6 GE.out)
 clear hb6 hg6
 go_wp2
 go_ret
 exact ⟨z, rfl, GE.out, B6.out, L6.out⟩
end Go.Proofs.YtghhphndbbefjaaDoor
