/- The contracts of impl.aligned, (impl.number).compare and impl.CompareDyadics in plain words. Conditions: at most 1000000000 limbs; the library's table holds its numbers. -/
import Derived.Test.YthddlechoibdkaaDoorDyN
namespace Go.Proofs.YthddlechoibdkaaDoor
open Go.RowKit Go.Proofs.YthddlechoibdkaaDoorW.PrintWords Go.Proofs.YthddlechoibdkaaDoorW.PrintLast Go.Proofs.YthddlechoibdkaaDoorW.PrintMore Go.Proofs.YthddlechoibdkaaDoor.Math Go.Proofs.YthddlechoibdkaaDoor.Big
set_option linter.unusedVariables false
set_option linter.unusedSimpArgs false
attribute [local go_sem] max2_int min2_int max_two min_two

theorem mn_le (p q : Int) : mn p q ≤ p ∧ mn p q ≤ q ∧ (mn p q = p ∨ mn p q = q) := by
  unfold mn
  split <;> omega
/-- The two boxed values. -/
structure TwoNum (w wr : World) (x : Nat) (p : Int) (y : Nat) (q : Int) : Prop where
  lo : Below w.heap.size w wr
  x : wr.heap[w.heap.size]? = some (.cells #[.pointer (some ⟨x, 0, none⟩), .int .i64 p] 55 (0, 0))
  y : wr.heap[w.heap.size + 1]? = some (.cells #[.pointer (some ⟨y, 0, none⟩), .int .i64 q] 55 (0, 0))
theorem TwoNum.start (w : World) (x : Nat) (p : Int) (y : Nat) (q : Int) :
    TwoNum w ((w.alloc (.cells #[.pointer (some ⟨x, 0, none⟩), .int .i64 p] 55)).alloc (.cells #[.pointer (some ⟨y, 0, none⟩), .int .i64 q] 55)) x p y q := by
  refine ⟨((Below.refl _ _).alloc (Nat.le_refl _) _).alloc (by simp) _, blk_alloc (heap_alloc_new w _) _, ?_⟩
  have := heap_alloc_new (w.alloc (.cells #[.pointer (some ⟨x, 0, none⟩), .int .i64 p] 55)) (.cells #[.pointer (some ⟨y, 0, none⟩), .int .i64 q] 55)
  simpa using this
theorem TwoNum.below {w wr w1 : World} {x : Nat} {p : Int} {y : Nat} {q : Int} (h : TwoNum w wr x p y q) (hb : Below wr.heap.size wr w1) : TwoNum w w1 x p y q := ⟨h.lo.trans (hb.mono h.lo.size), blk_below h.x hb, blk_below h.y hb⟩
theorem TwoNum.cells {w wr : World} {x : Nat} {p : Int} {y : Nat} {q : Int} (h : TwoNum w wr x p y q) :
    wr.cell? ⟨w.heap.size, 0, none⟩ = some (.pointer (some ⟨x, 0, none⟩)) ∧ wr.cell? ⟨w.heap.size, 1, none⟩ = some (.int .i64 p) ∧ wr.cell? ⟨w.heap.size + 1, 0, none⟩ = some (.pointer (some ⟨y, 0, none⟩)) ∧ wr.cell? ⟨w.heap.size + 1, 1, none⟩ = some (.int .i64 q) :=
  ⟨(blk_cell h.x 0).trans rfl, (blk_cell h.x 1).trans rfl, (blk_cell h.y 0).trans rfl, (blk_cell h.y 1).trans rfl⟩
set_option maxRecDepth 100000 in
set_option maxHeartbeats 2000000 in
theorem aligned_calls (x y : Nat) (n m p q : Int) (w : World) (hx : Big w x n 200) (hy : Big w y m 200) (hp : -20000 ≤ p ∧ p ≤ 20000) (hq : -20000 ≤ q ∧ q ≤ 20000) (hT : Tab w) :
    Calls Tryd.prog 70 #[.agg #[.pointer (some ⟨x, 0, none⟩), .int .i64 p], .agg #[.pointer (some ⟨y, 0, none⟩), .int .i64 q]] w fun e w' => ∃ z1 z2, e = .returned (.tuple #[.pointer (some ⟨z1, 0, none⟩), .pointer (some ⟨z2, 0, none⟩), .int .i64 (mn p q)]) ∧ w.heap.size ≤ z1 ∧ z1 < z2 ∧ Big w' z1 (n * 2 ^ (p - mn p q).toNat) 4200 ∧ Big w' z2 (m * 2 ^ (q - mn p q).toNat) 4200 ∧ Below w.heap.size w w' := by
  obtain ⟨j, hj⟩ : ∃ j, mn p q = j := ⟨_, rfl⟩
  have hj_ : (if q < p then q else p) = j := hj
  have hm := mn_le p q
  rw [hj] at hm ⊢
  have N0 := Aside0.mk (TwoNum.start w x p y q)
  have HX := Aside0.mk (hx.below N0.out.lo)
  have HY := Aside0.mk (hy.below N0.out.lo)
  have HT := Aside0.mk hT
  have hw1 : wrap64 (p - j) = p - j := w64s (by omega) (by omega)
  have hw2 : wrap64 (q - j) = q - j := w64s (by omega) (by omega)
  have hw3 : IntKind.i64.wrap (p - j) = p - j := by rw [IntKind.wrap_i64]; omega
  have hw4 : IntKind.i64.wrap (q - j) = q - j := by rw [IntKind.wrap_i64]; omega
  have HB := Aside0.mk (show (-100000 ≤ p - j ∧ p - j ≤ 100000 ∧ 0 ≤ p - j) ∧ (-100000 ≤ q - j ∧ q - j ≤ 100000 ∧ 0 ≤ q - j) from by omega)
  have HS := Aside0.mk (show shv n (p - j) = n * 2 ^ (p - j).toNat ∧ shv m (q - j) = m * 2 ^ (q - j).toNat from ⟨by unfold shv; rw [if_pos HB.out.1.2.2], by unfold shv; rw [if_pos HB.out.2.2.2]⟩)
  obtain ⟨p0, p1, p2, p3⟩ := N0.out.cells
  clear hx hy hT hp hq hm
  go_enter Tryd.func70, Tryd.ntmps70
  go_wp2
  generalize hw0 : (w.alloc (.cells #[.pointer (some ⟨x, 0, none⟩), .int .i64 p] 55)).alloc (.cells #[.pointer (some ⟨y, 0, none⟩), .int .i64 q] 55) = w1 at N0 HX HY p0 p1 p2 p3 ⊢
  clear hw0
  refine start_ (n := 18) (S := fun w' => w'.cell? ⟨w.heap.size, 0, none⟩ = some (.pointer (some ⟨x, 0, none⟩)) ∧ w'.cell? ⟨w.heap.size, 1, none⟩ = some (.int .i64 p) ∧ w'.cell? ⟨w.heap.size + 1, 0, none⟩ = some (.pointer (some ⟨y, 0, none⟩)) ∧ w'.cell? ⟨w.heap.size + 1, 1, none⟩ = some (.int .i64 q)) (ds := []) #[false, false, false, false, false, false, false, false, false, false, false, false, false, false, false, false, false, false] (by kernel_rfl) rfl rfl ⟨p0, p1, p2, p3⟩ (fun hHeld => ?_)
  have Dw3 := Aside0.mk ((Below.refl w1.heap.size w1).drew)
  generalize w1.drew = w3 at hHeld Dw3 ⊢
  refine pure_ (i := 0) (N := some 13) (v := ?_) (a' := ?_) #[true, false, false, false, false, false, false, false, false, false, false, false, false, false, false, false, false, false] rfl rfl (by kernel_rfl) (fun _ _ _ h => h) (Or.inl ⟨by rfl, ?_⟩) ?_ ?_
  rotate_left
  · intro w'
    go_simp
    with_reducible rfl
  rotate_left
  · simp only [Act.put, List.setIfInBounds_toArray, List.set_cons_zero, List.set_cons_succ, i64_w, i32_w]
    rfl
  refine pure_ (i := 2) (N := some 15) (v := ?_) (a' := ?_) #[true, false, true, false, false, false, false, false, false, false, false, false, false, false, false, false, false, false] rfl rfl (by kernel_rfl) (fun _ _ _ h => h) (Or.inl ⟨by rfl, ?_⟩) ?_ ?_
  rotate_left
  · intro w'
    go_simp
    with_reducible rfl
  rotate_left
  · simp only [Act.put, List.setIfInBounds_toArray, List.set_cons_zero, List.set_cons_succ, i64_w, i32_w]
    rfl
  refine pure_ (i := 4) (N := some 17) (v := ?_) (a' := ?_) #[true, false, true, false, true, false, false, false, false, false, false, false, false, false, false, false, false, false] rfl rfl (by kernel_rfl) (fun _ _ _ h => h) (Or.inl ⟨by rfl, ?_⟩) ?_ ?_
  rotate_left
  · intro w'
    go_simp
    with_reducible rfl
  rotate_left
  · simp only [Act.put, List.setIfInBounds_toArray, List.set_cons_zero, List.set_cons_succ, i64_w, i32_w]
    rfl
  refine pure_ (i := 7) (N := some 20) (v := ?_) (a' := ?_) #[true, false, true, false, true, false, false, true, false, false, false, false, false, false, false, false, false, false] rfl rfl (by kernel_rfl) (fun _ _ _ h => h) (Or.inl ⟨by rfl, ?_⟩) ?_ ?_
  rotate_left
  · intro w'
    go_simp
    with_reducible rfl
  rotate_left
  · simp only [Act.put, List.setIfInBounds_toArray, List.set_cons_zero, List.set_cons_succ, i64_w, i32_w]
    rfl
  refine pure_ (i := 9) (N := some 22) (v := ?_) (a' := ?_) #[true, false, true, false, true, false, false, true, false, true, false, false, false, false, false, false, false, false] rfl rfl (by kernel_rfl) (fun _ _ _ h => h) (Or.inl ⟨by rfl, ?_⟩) ?_ ?_
  rotate_left
  · intro w'
    go_simp
    with_reducible rfl
  rotate_left
  · simp only [Act.put, List.setIfInBounds_toArray, List.set_cons_zero, List.set_cons_succ, i64_w, i32_w]
    rfl
  refine pure_ (i := 11) (N := some 24) (v := ?_) (a' := ?_) #[true, false, true, false, true, false, false, true, false, true, false, true, false, false, false, false, false, false] rfl rfl (by kernel_rfl) (fun _ _ _ h => h) (Or.inl ⟨by rfl, ?_⟩) ?_ ?_
  rotate_left
  · intro w'
    go_simp
    with_reducible rfl
  rotate_left
  · simp only [Act.put, List.setIfInBounds_toArray, List.set_cons_zero, List.set_cons_succ, i64_w, i32_w]
    rfl
  refine pure_ (i := 14) (N := some 27) (v := ?_) (a' := ?_) #[true, false, true, false, true, false, false, true, false, true, false, true, false, false, true, false, false, false] rfl rfl (by kernel_rfl) (fun _ _ _ h => h) (Or.inl ⟨by rfl, ?_⟩) ?_ ?_
  rotate_left
  · intro w'
    go_simp
    with_reducible rfl
  rotate_left
  · simp only [Act.put, List.setIfInBounds_toArray, List.set_cons_zero, List.set_cons_succ, i64_w, i32_w]
    rfl
  refine take_ (i := 1) (N := some 14) (v := ?_) (a' := ?_) #[true, true, true, false, true, false, false, true, false, true, false, true, false, false, true, false, false, false] rfl rfl (by kernel_rfl) (fun _ _ _ h => h) (Or.inl ⟨by rfl, ?_⟩) hHeld ?_ ?_
  rotate_left
  · rintro w' ⟨s0, s1, s2, s3⟩
    go_simp
    with_reducible rfl
  rotate_left
  · simp only [Act.put, List.setIfInBounds_toArray, List.set_cons_zero, List.set_cons_succ, i64_w, i32_w]
    rfl
  refine take_ (i := 3) (N := some 16) (v := ?_) (a' := ?_) #[true, true, true, true, true, false, false, true, false, true, false, true, false, false, true, false, false, false] rfl rfl (by kernel_rfl) (fun _ _ _ h => h) (Or.inl ⟨by rfl, ?_⟩) hHeld ?_ ?_
  rotate_left
  · rintro w' ⟨s0, s1, s2, s3⟩
    go_simp
    with_reducible rfl
  rotate_left
  · simp only [Act.put, List.setIfInBounds_toArray, List.set_cons_zero, List.set_cons_succ, i64_w, i32_w]
    rfl
  refine pure_ (i := 5) (N := some 18) (v := ?_) (a' := ?_) #[true, true, true, true, true, true, false, true, false, true, false, true, false, false, true, false, false, false] rfl rfl (by kernel_rfl) (fun _ _ _ h => h) (Or.inl ⟨by rfl, ?_⟩) ?_ ?_
  rotate_left
  · intro w'
    go_simp
    with_reducible rfl
  rotate_left
  · simp only [Act.put, List.setIfInBounds_toArray, List.set_cons_zero, List.set_cons_succ, i64_w, i32_w]
    rfl
  refine take_ (i := 8) (N := some 21) (v := ?_) (a' := ?_) #[true, true, true, true, true, true, false, true, true, true, false, true, false, false, true, false, false, false] rfl rfl (by kernel_rfl) (fun _ _ _ h => h) (Or.inl ⟨by rfl, ?_⟩) hHeld ?_ ?_
  rotate_left
  · rintro w' ⟨s0, s1, s2, s3⟩
    go_simp
    with_reducible rfl
  rotate_left
  · simp only [Act.put, List.setIfInBounds_toArray, List.set_cons_zero, List.set_cons_succ, i64_w, i32_w]
    rfl
  refine take_ (i := 10) (N := some 23) (v := ?_) (a' := ?_) #[true, true, true, true, true, true, false, true, true, true, true, true, false, false, true, false, false, false] rfl rfl (by kernel_rfl) (fun _ _ _ h => h) (Or.inl ⟨by rfl, ?_⟩) hHeld ?_ ?_
  rotate_left
  · rintro w' ⟨s0, s1, s2, s3⟩
    go_simp
    with_reducible rfl
  rotate_left
  · simp only [Act.put, List.setIfInBounds_toArray, List.set_cons_zero, List.set_cons_succ, i64_w, i32_w]
    rfl
  refine pure_ (i := 12) (N := some 25) (v := ?_) (a' := ?_) #[true, true, true, true, true, true, false, true, true, true, true, true, true, false, true, false, false, false] rfl rfl (by kernel_rfl) (fun _ _ _ h => h) (Or.inl ⟨by rfl, ?_⟩) ?_ ?_
  rotate_left
  · intro w'
    go_simp
    with_reducible rfl
  rotate_left
  · simp only [Act.put, List.setIfInBounds_toArray, List.set_cons_zero, List.set_cons_succ, i64_w, i32_w]
    rfl
  refine one_ (i := 6) (N := some 19) #[true, true, true, true, true, true, true, true, true, true, true, true, true, false, true, false, false, false] rfl rfl (by kernel_rfl) (by decide) (fun K hK => ?_)
  have N3 := Aside0.mk (N0.out.below Dw3.out)
  refine goes_ Tryd.func81 (by kernel_rfl) rfl #[.pointer (some ⟨x, 0, none⟩), .int .i64 (p - j)] (by rfl) rfl rfl (by simp only [List.map_toArray, List.map_cons, List.map_nil]; rfl) ?_
  with_reducible refine (shifted_calls x n (p - j) 200 _ (HX.out.below Dw3.out) (by omega) HB.out.1.1 HB.out.1.2.1 (HT.out.below N3.out.lo)).mono ?_
  rintro e w4 ⟨z1, rfl, hge1, hbig1, hb1⟩
  refine ⟨_, rfl, ?_⟩
  have N4 := Aside0.mk (N3.out.below hb1)
  have Y4 := Aside0.mk ((HY.out.below Dw3.out).below hb1)
  have BZ1 := Aside0.mk hbig1
  have GE1 := Aside0.mk (Nat.le_trans N3.out.lo.size hge1)
  clear hb1 hge1 hbig1
  refine hK.out _ _ ⟨N4.out.cells.1, N4.out.cells.2.1, N4.out.cells.2.2.1, N4.out.cells.2.2.2⟩ (fun hHeld => ?_)
  clear hK K
  refine norm_ (a' := ?_) ?_ ?_
  rotate_left
  · show Act.put _ (some 19) _ = _
    simp only [Act.put, List.setIfInBounds_toArray, List.set_cons_zero, List.set_cons_succ, i64_w, i32_w]
    rfl
  refine one_ (i := 13) (N := some 26) #[true, true, true, true, true, true, true, true, true, true, true, true, true, true, true, false, false, false] rfl rfl (by kernel_rfl) (by decide) (fun K hK => ?_)
  refine goes_ Tryd.func81 (by kernel_rfl) rfl #[.pointer (some ⟨y, 0, none⟩), .int .i64 (q - j)] (by rfl) rfl rfl (by simp only [List.map_toArray, List.map_cons, List.map_nil]; rfl) ?_
  with_reducible refine (shifted_calls y m (q - j) 200 _ Y4.out (by omega) HB.out.2.1 HB.out.2.2.1 (HT.out.below N4.out.lo)).mono ?_
  rintro e w5 ⟨z2, rfl, hge2, hbig2, hb2⟩
  refine ⟨_, rfl, ?_⟩
  have N5 := Aside0.mk (N4.out.below hb2)
  have BZ5 := Aside0.mk (BZ1.out.below hb2)
  have BZ2 := Aside0.mk hbig2
  have LT := Aside0.mk (Nat.lt_of_lt_of_le BZ1.out.lt hge2)
  clear hb2 hge2 hbig2
  refine hK.out _ _ ⟨N5.out.cells.1, N5.out.cells.2.1, N5.out.cells.2.2.1, N5.out.cells.2.2.2⟩ (fun hHeld => ?_)
  clear hK K
  refine norm_ (a' := ?_) ?_ ?_
  rotate_left
  · show Act.put _ (some 26) _ = _
    simp only [Act.put, List.setIfInBounds_toArray, List.set_cons_zero, List.set_cons_succ, i64_w, i32_w]
    rfl
  refine pure_ (i := 15) (N := some 4) (v := ?_) (a' := ?_) #[true, true, true, true, true, true, true, true, true, true, true, true, true, true, true, true, false, false] rfl rfl (by kernel_rfl) (fun _ _ _ h => h) (Or.inl ⟨by rfl, ?_⟩) ?_ ?_
  rotate_left
  · intro w'
    go_simp
    with_reducible rfl
  rotate_left
  · simp only [Act.put, List.setIfInBounds_toArray, List.set_cons_zero, List.set_cons_succ, i64_w, i32_w]
    rfl
  refine pure_ (i := 16) (N := some 5) (v := ?_) (a' := ?_) #[true, true, true, true, true, true, true, true, true, true, true, true, true, true, true, true, true, false] rfl rfl (by kernel_rfl) (fun _ _ _ h => h) (Or.inl ⟨by rfl, ?_⟩) ?_ ?_
  rotate_left
  · intro w'
    go_simp
    with_reducible rfl
  rotate_left
  · simp only [Act.put, List.setIfInBounds_toArray, List.set_cons_zero, List.set_cons_succ, i64_w, i32_w]
    rfl
  refine pure_ (i := 17) (N := some 6) (v := ?_) (a' := ?_) #[true, true, true, true, true, true, true, true, true, true, true, true, true, true, true, true, true, true] rfl rfl (by kernel_rfl) (fun _ _ _ h => h) (Or.inl ⟨by rfl, ?_⟩) ?_ ?_
  rotate_left
  · intro w'
    go_simp
    with_reducible rfl
  rotate_left
  · simp only [Act.put, List.setIfInBounds_toArray, List.set_cons_zero, List.set_cons_succ, i64_w, i32_w]
    rfl
  refine done_ (by kernel_rfl) ?_

  try go_wp2
  refine bodyPost_ret (results_tmp3 rfl _ _ _) rfl ?_
  exact ⟨z1, z2, rfl, GE1.out, LT.out, by rw [← HS.out.1]; exact BZ5.out, by rw [← HS.out.2]; exact BZ2.out, N5.out.lo⟩
set_option maxRecDepth 100000 in
set_option maxHeartbeats 2000000 in
theorem compare_calls (x y : Nat) (n m p q : Int) (w : World) (hx : Big w x n 200) (hy : Big w y m 200) (hp : -20000 ≤ p ∧ p ≤ 20000) (hq : -20000 ≤ q ∧ q ≤ 20000) (hT : Tab w) :
    Calls Tryd.prog 50 #[.agg #[.pointer (some ⟨x, 0, none⟩), .int .i64 p], .agg #[.pointer (some ⟨y, 0, none⟩), .int .i64 q]] w fun e w' => e = .returned (.int .i64 (sgn (n * 2 ^ (p - mn p q).toNat - m * 2 ^ (q - mn p q).toNat))) ∧ Below w.heap.size w w' := by
  have N0 := Aside0.mk (TwoNum.start w x p y q)
  have HX := Aside0.mk (hx.below N0.out.lo)
  have HY := Aside0.mk (hy.below N0.out.lo)
  have HT := Aside0.mk (hT.below N0.out.lo)
  have HP := Aside0.mk (And.intro hp hq)
  obtain ⟨p0, p1, p2, p3⟩ := N0.out.cells
  clear hx hy hT hp hq
  go_enter Tryd.func50, Tryd.ntmps50
  go_wp2_with fail
  refine (aligned_calls x y n m p q _ HX.out HY.out HP.out.1 HP.out.2 HT.out).mono ?_
  rintro e w1 ⟨z1, z2, rfl, hge, hlt, hb1, hb2, hb⟩
  have N1 := Aside0.mk (N0.out.below hb)
  have B1 := Aside0.mk hb1
  have B2 := Aside0.mk hb2
  clear hge hlt hb1 hb2 hb
  go_wp2_with fail
  refine (cmp_calls z1 z2 _ _ _ _ _ B1.out (by omega) B2.out (by omega)).mono ?_
  rintro e w2 ⟨rfl, hb⟩
  have N2 := Aside0.mk (N1.out.below hb)
  clear hb
  go_wp2
  go_ret
  exact ⟨rfl, N2.out.lo⟩
/-- The two boxes of a call with two exact numbers. -/
structure TwoDy (w wr : World) (s : Int) (A : Option Addr) (c : Nat) (l : List Int) (e t : Int) (B : Option Addr) (d : Nat) (m : List Int) (f : Int) : Prop where
  lo : Below w.heap.size w wr
  x : wr.heap[w.heap.size]? = some (.cells #[.int .i64 s, .slice A l.length c, .int .i64 e] 30 (0, 0))
  y : wr.heap[w.heap.size + 1]? = some (.cells #[.int .i64 t, .slice B m.length d, .int .i64 f] 30 (0, 0))
theorem TwoDy.start (w : World) (s : Int) (A : Option Addr) (c : Nat) (l : List Int) (e t : Int) (B : Option Addr) (d : Nat) (m : List Int) (f : Int) :
    TwoDy w ((w.alloc (.cells #[.int .i64 s, .slice A l.length c, .int .i64 e] 30)).alloc (.cells #[.int .i64 t, .slice B m.length d, .int .i64 f] 30)) s A c l e t B d m f := by
  refine ⟨((Below.refl _ _).alloc (Nat.le_refl _) _).alloc (by simp) _, blk_alloc (heap_alloc_new w _) _, ?_⟩
  have := heap_alloc_new (w.alloc (.cells #[.int .i64 s, .slice A l.length c, .int .i64 e] 30)) (.cells #[.int .i64 t, .slice B m.length d, .int .i64 f] 30)
  simpa using this
theorem TwoDy.below {w wr w1 : World} {s : Int} {A : Option Addr} {c : Nat} {l : List Int} {e t : Int} {B : Option Addr} {d : Nat} {m : List Int} {f : Int} (h : TwoDy w wr s A c l e t B d m f) (hb : Below wr.heap.size wr w1) : TwoDy w w1 s A c l e t B d m f := ⟨h.lo.trans (hb.mono h.lo.size), blk_below h.x hb, blk_below h.y hb⟩
theorem TwoDy.cells {w wr : World} {s : Int} {A : Option Addr} {c : Nat} {l : List Int} {e t : Int} {B : Option Addr} {d : Nat} {m : List Int} {f : Int} (h : TwoDy w wr s A c l e t B d m f) :
    wr.cell? ⟨w.heap.size, 0, none⟩ = some (.int .i64 s) ∧ wr.cell? ⟨w.heap.size, 1, none⟩ = some (.slice A l.length c) ∧ wr.cell? ⟨w.heap.size, 2, none⟩ = some (.int .i64 e) ∧ wr.cell? ⟨w.heap.size + 1, 0, none⟩ = some (.int .i64 t) ∧ wr.cell? ⟨w.heap.size + 1, 1, none⟩ = some (.slice B m.length d) ∧ wr.cell? ⟨w.heap.size + 1, 2, none⟩ = some (.int .i64 f) :=
  ⟨(blk_cell h.x 0).trans rfl, (blk_cell h.x 1).trans rfl, (blk_cell h.x 2).trans rfl, (blk_cell h.y 0).trans rfl, (blk_cell h.y 1).trans rfl, (blk_cell h.y 2).trans rfl⟩
def cmpv (s : Int) (l : List Int) (e t : Int) (m : List Int) (f : Int) : Int := sgn (wv s l * 2 ^ (e - mn e f).toNat - wv t m * 2 ^ (f - mn e f).toNat)
def impl_CompareDyadics.f (a0_0 : Int) (l0_1 : List Int) (a0_2 : Int) (a1_0 : Int) (l1_1 : List Int) (a1_2 : Int) : Option (Int × Int) :=
  if l0_1.length ≤ 1000000000 ∧ l1_1.length ≤ 1000000000 then some (if isD a0_0 l0_1 a0_2 && isD a1_0 l1_1 a1_2 then (cmpv a0_0 l0_1 a0_2 a1_0 l1_1 a1_2, 0) else (0, 1)) else none
set_option maxRecDepth 100000 in
set_option maxHeartbeats 4000000 in
theorem impl_CompareDyadics.calls (a0_0 : Int) (A0_1 : Option Addr) (c0_1 : Nat) (l0_1 : List Int) (a0_2 : Int) (a1_0 : Int) (A1_1 : Option Addr) (c1_1 : Nat) (l1_1 : List Int) (a1_2 : Int) (r1 r2 : Int) (w : World) (hr0_1 : Kd.C (Kd.int .i64) w A0_1 l0_1.length l0_1) (hc0_1 : l0_1.length ≤ c0_1) (hr1_1 : Kd.C (Kd.int .i64) w A1_1 l1_1.length l1_1) (hc1_1 : l1_1.length ≤ c1_1) (hT : Tab w) (h : impl_CompareDyadics.f a0_0 l0_1 a0_2 a1_0 l1_1 a1_2 = some (r1, r2)) :
    Calls Tryd.prog 21 #[.agg #[.int .i64 a0_0, .slice A0_1 l0_1.length c0_1, .int .i64 a0_2], .agg #[.int .i64 a1_0, .slice A1_1 l1_1.length c1_1, .int .i64 a1_2]] w fun e w' => e = .returned (.tuple #[.int .i64 r1, .int .i64 r2]) ∧ Below w.heap.size w w' := by
  unfold impl_CompareDyadics.f at h
  split at h
  case isFalse => cases h
  rename_i hl
  have HR := Aside0.mk hr0_1
  have HS := Aside0.mk hr1_1
  have T0 := Aside0.mk (TwoDy.start w a0_0 A0_1 c0_1 l0_1 a0_2 a1_0 A1_1 c1_1 l1_1 a1_2)
  have HL := Aside0.mk hl
  have HT := Aside0.mk hT
  clear hr0_1 hr1_1 hl hT
  cases hw : isD a0_0 l0_1 a0_2
  · rw [hw] at h
    simp only [Bool.false_and, Bool.false_eq_true, if_false, Option.some.injEq, Prod.mk.injEq] at h
    obtain ⟨rfl, rfl⟩ := h
    have HW := Aside0.mk hw
    clear hw
    go_enter Tryd.func21, Tryd.ntmps21
    go_wp2_with fail
    refine (isDyadic_of _ _ _ _ _ (Kd.C_below HR.out T0.out.lo) hc0_1 HL.out.1).mono ?_
    rintro e w1 ⟨rfl, hb⟩
    rw [HW.out]
    have T1 := Aside0.mk (T0.out.below hb)
    clear hb
    go_wp2
    go_ret2
    exact ⟨rfl, T1.out.lo⟩
  · have HW := Aside0.mk hw
    cases hv : isD a1_0 l1_1 a1_2
    · rw [hw, hv] at h
      simp only [Bool.and_false, Bool.false_eq_true, if_false, Option.some.injEq, Prod.mk.injEq] at h
      obtain ⟨rfl, rfl⟩ := h
      have HV := Aside0.mk hv
      clear hw hv
      go_enter Tryd.func21, Tryd.ntmps21
      go_wp2_with fail
      refine (isDyadic_of _ _ _ _ _ (Kd.C_below HR.out T0.out.lo) hc0_1 HL.out.1).mono ?_
      rintro e w1 ⟨rfl, hb⟩
      rw [HW.out]
      have T1 := Aside0.mk (T0.out.below hb)
      obtain ⟨p0, p1, p2, p3, p4, p5⟩ := T1.out.cells
      clear hb
      go_wp2_with fail
      refine (isDyadic_of _ _ _ _ _ (Kd.C_below HS.out T1.out.lo) hc1_1 HL.out.2).mono ?_
      rintro e w2 ⟨rfl, hb⟩
      rw [HV.out]
      have T2 := Aside0.mk (T1.out.below hb)
      clear hb p0 p1 p2 p3 p4 p5
      go_wp2
      go_ret2
      exact ⟨rfl, T2.out.lo⟩
    · rw [hw, hv] at h
      simp only [Bool.and_self, if_true, Option.some.injEq, Prod.mk.injEq] at h
      obtain ⟨rfl, rfl⟩ := h
      have HV := Aside0.mk hv
      have HE := Aside0.mk (show (-20000 ≤ a0_2 ∧ a0_2 ≤ 20000) ∧ (-20000 ≤ a1_2 ∧ a1_2 ≤ 20000) from by have := isD_exp hw; have := isD_exp hv; omega)
      clear hw hv
      unfold cmpv
      go_enter Tryd.func21, Tryd.ntmps21
      go_wp2_with fail
      refine (isDyadic_of _ _ _ _ _ (Kd.C_below HR.out T0.out.lo) hc0_1 HL.out.1).mono ?_
      rintro e w1 ⟨rfl, hb⟩
      rw [HW.out]
      have T1 := Aside0.mk (T0.out.below hb)
      obtain ⟨p0, p1, p2, p3, p4, p5⟩ := T1.out.cells
      clear hb
      go_wp2_with fail
      refine (isDyadic_of _ _ _ _ _ (Kd.C_below HS.out T1.out.lo) hc1_1 HL.out.2).mono ?_
      rintro e w2 ⟨rfl, hb⟩
      rw [HV.out]
      have T2 := Aside0.mk (T1.out.below hb)
      clear hb p0 p1 p2 p3 p4 p5
      obtain ⟨p0, p1, p2, p3, p4, p5⟩ := T2.out.cells
      go_wp2
      refine start_ (n := 7) (S := fun w' => w'.cell? ⟨w.heap.size, 0, none⟩ = some (.int .i64 a0_0) ∧ w'.cell? ⟨w.heap.size, 1, none⟩ = some (.slice A0_1 l0_1.length c0_1) ∧ w'.cell? ⟨w.heap.size, 2, none⟩ = some (.int .i64 a0_2) ∧ w'.cell? ⟨w.heap.size + 1, 0, none⟩ = some (.int .i64 a1_0) ∧ w'.cell? ⟨w.heap.size + 1, 1, none⟩ = some (.slice A1_1 l1_1.length c1_1) ∧ w'.cell? ⟨w.heap.size + 1, 2, none⟩ = some (.int .i64 a1_2)) (ds := [4]) #[false, false, false, false, false, false, false] (by kernel_rfl) rfl rfl ⟨p0, p1, p2, p3, p4, p5⟩ (fun hHeld => ?_)
      have Dw3 := Aside0.mk ((Below.refl w2.heap.size w2).drew)
      generalize w2.drew = w3 at hHeld Dw3 ⊢
      refine take_ (i := 0) (N := some 14) (v := ?_) (a' := ?_) #[true, false, false, false, false, false, false] rfl rfl (by kernel_rfl) (fun _ _ _ h => h) (Or.inl ⟨by rfl, ?_⟩) hHeld ?_ ?_
      rotate_left
      · rintro w' ⟨s0, s1, s2, s3, s4, s5⟩
        go_simp
        with_reducible rfl
      rotate_left
      · simp only [Act.put, List.setIfInBounds_toArray, List.set_cons_zero, List.set_cons_succ, i64_w, i32_w]
        rfl
      refine take_ (i := 2) (N := some 16) (v := ?_) (a' := ?_) #[true, false, true, false, false, false, false] rfl rfl (by kernel_rfl) (fun _ _ _ h => h) (Or.inl ⟨by rfl, ?_⟩) hHeld ?_ ?_
      rotate_left
      · rintro w' ⟨s0, s1, s2, s3, s4, s5⟩
        go_simp
        with_reducible rfl
      rotate_left
      · simp only [Act.put, List.setIfInBounds_toArray, List.set_cons_zero, List.set_cons_succ, i64_w, i32_w]
        rfl
      refine one_ (i := 1) (N := some 15) #[true, true, true, false, false, false, false] rfl rfl (by kernel_rfl) (by decide) (fun K hK => ?_)
      have T3 := Aside0.mk (T2.out.below Dw3.out)
      refine goes_ Tryd.func45 (by kernel_rfl) rfl #[.agg #[.int .i64 a0_0, .slice A0_1 l0_1.length c0_1, .int .i64 a0_2]] (by rfl) rfl rfl (by simp only [List.map_toArray, List.map_cons, List.map_nil]; rfl) ?_
      with_reducible refine (dvalue_calls a0_0 A0_1 c0_1 l0_1 a0_2 _ (Kd.C_below HR.out T3.out.lo) (isD_isW HW.out)).mono ?_
      rintro e w4 ⟨b, rfl, hge, hbig, hb⟩
      refine ⟨_, rfl, ?_⟩
      have T4 := Aside0.mk (T3.out.below hb)
      have BX := Aside0.mk hbig
      clear hb hge hbig
      refine hK.out _ _ ⟨T4.out.cells.1, T4.out.cells.2.1, T4.out.cells.2.2.1, T4.out.cells.2.2.2.1, T4.out.cells.2.2.2.2.1, T4.out.cells.2.2.2.2.2⟩ (fun hHeld => ?_)
      clear hK K
      refine norm_ (a' := ?_) ?_ ?_
      rotate_left
      · show Act.put _ (some 15) _ = _
        simp only [Act.put, List.setIfInBounds_toArray, List.set_cons_zero, List.set_cons_succ, i64_w, i32_w]
        rfl
      refine one_ (i := 3) (N := some 17) #[true, true, true, true, false, false, false] rfl rfl (by kernel_rfl) (by decide) (fun K hK => ?_)
      refine goes_ Tryd.func45 (by kernel_rfl) rfl #[.agg #[.int .i64 a1_0, .slice A1_1 l1_1.length c1_1, .int .i64 a1_2]] (by rfl) rfl rfl (by simp only [List.map_toArray, List.map_cons, List.map_nil]; rfl) ?_
      with_reducible refine (dvalue_calls a1_0 A1_1 c1_1 l1_1 a1_2 _ (Kd.C_below HS.out T4.out.lo) (isD_isW HV.out)).mono ?_
      rintro e w5 ⟨b', rfl, hge, hbig, hb⟩
      refine ⟨_, rfl, ?_⟩
      have T5 := Aside0.mk (T4.out.below hb)
      have BX5 := Aside0.mk (BX.out.below hb)
      have BY := Aside0.mk hbig
      clear hb hge hbig
      refine hK.out _ _ ⟨T5.out.cells.1, T5.out.cells.2.1, T5.out.cells.2.2.1, T5.out.cells.2.2.2.1, T5.out.cells.2.2.2.2.1, T5.out.cells.2.2.2.2.2⟩ (fun hHeld => ?_)
      clear hK K
      refine norm_ (a' := ?_) ?_ ?_
      rotate_left
      · show Act.put _ (some 17) _ = _
        simp only [Act.put, List.setIfInBounds_toArray, List.set_cons_zero, List.set_cons_succ, i64_w, i32_w]
        rfl
      refine last_ (i := 4) (N := some 18) #[true, true, true, true, true, false, false] rfl rfl (by kernel_rfl) (by decide) (fun K hK => ?_)
      refine goes_ Tryd.func50 (by kernel_rfl) rfl #[.agg #[.pointer (some ⟨b, 0, none⟩), .int .i64 a0_2], .agg #[.pointer (some ⟨b', 0, none⟩), .int .i64 a1_2]] (by rfl) rfl rfl (by simp only [List.map_toArray, List.map_cons, List.map_nil]; rfl) ?_
      with_reducible refine (compare_calls b b' _ _ a0_2 a1_2 _ BX5.out BY.out HE.out.1 HE.out.2 (HT.out.below T5.out.lo)).mono ?_
      rintro e w6 ⟨rfl, hb⟩
      refine ⟨_, rfl, ?_⟩
      refine hK.out _ _ ?_
      clear hK K
      refine norm_ (a' := ?_) ?_ ?_
      rotate_left
      · show Act.put _ (some 18) _ = _
        simp only [Act.put, List.setIfInBounds_toArray, List.set_cons_zero, List.set_cons_succ, i64_w, i32_w]
        rfl
      refine pure_ (i := 5) (N := some 4) (v := ?_) (a' := ?_) #[true, true, true, true, true, true, false] rfl rfl (by kernel_rfl) (fun _ _ _ h => h) (Or.inl ⟨by rfl, ?_⟩) ?_ ?_
      rotate_left
      · intro w'
        go_simp
        with_reducible rfl
      rotate_left
      · simp only [Act.put, List.setIfInBounds_toArray, List.set_cons_zero, List.set_cons_succ, i64_w, i32_w]
        rfl
      refine pure_ (i := 6) (N := some 5) (v := ?_) (a' := ?_) #[true, true, true, true, true, true, true] rfl rfl (by kernel_rfl) (fun _ _ _ h => h) (Or.inl ⟨by rfl, ?_⟩) ?_ ?_
      rotate_left
      · intro w'
        go_simp
        with_reducible rfl
      rotate_left
      · simp only [Act.put, List.setIfInBounds_toArray, List.set_cons_zero, List.set_cons_succ, i64_w, i32_w]
        rfl
      refine done_ (by kernel_rfl) ?_

      have T6 := Aside0.mk (T5.out.below hb)
      clear hb
      try go_wp2
      go_ret2
      exact ⟨rfl, T6.out.lo⟩
end Go.Proofs.YthddlechoibdkaaDoor
