/- The walks of sum, Add, Sub and Cmp. Conditions: the pointers lead to bigInts, of at most 1000000 digits. -/
import Derived.Test.YtghhphndbbefjaaDoorBigB
namespace Go.Proofs.YtghhphndbbefjaaDoor.Big
open Go.RowKit Go.Proofs.YtghhphndbbefjaaDoorW.PrintWords Go.Proofs.YtghhphndbbefjaaDoorW.PrintLast Go.Proofs.YtghhphndbbefjaaDoorW.PrintMore Go.Proofs.YtghhphndbbefjaaDoor.Math
set_option linter.unusedVariables false
set_option linter.unusedSimpArgs false

/-- What the walks of sum know of an operand. -/
structure Opd (w : World) (b : Nat) (neg : Bool) (xs : List Int) (A : Option Addr) (c : Nat) : Prop where
  c0 : w.cell? ⟨b, 0, none⟩ = some (.bool neg)
  c1 : w.cell? ⟨b, 1, none⟩ = some (.slice A xs.length c)
  d : Digs w (.slice A xs.length c) xs
  ok : Okd xs
  ti : Tight xs
  ne : neg = true → xs ≠ []
  len : xs.length ≤ 1000000
theorem Opd.below {w w1 : World} {b : Nat} {neg : Bool} {xs : List Int} {A : Option Addr} {c : Nat} (h : Opd w b neg xs A c) (hb : Below w.heap.size w w1) : Opd w1 b neg xs A c :=
  ⟨pw_cell_below hb h.c0, pw_cell_below hb h.c1, h.d.below hb, h.ok, h.ti, h.ne, h.len⟩
theorem Big.opd {w : World} {b : Nat} {n : Int} {m : Nat} (h : Big w b n m) (hm : m ≤ 1000000) : ∃ neg xs A c, Opd w b neg xs A c ∧ n = bval neg xs ∧ xs.length ≤ m := by
  obtain ⟨neg, xs, ⟨v, hb, hd⟩, ok, ti, hne, hlm, rfl⟩ := h
  obtain ⟨A, c, rfl⟩ := hd.shape
  obtain ⟨c0, c1, f0, f1⟩ := big_cells hb
  exact ⟨neg, xs, A, c, ⟨c0, c1, hd, ok, ti, hne, by omega⟩, rfl, hlm⟩
theorem below_z {w w1 w2 : World} {z : Nat} (h : Below w.heap.size w w1) (hg : w1.grownBy w2 (some z)) : w.grownBy w2 (some z) := (below_grownBy h _).trans hg

set_option maxRecDepth 100000 in
set_option maxHeartbeats 2000000 in
/-- The same signs. -/
theorem sum_same (z x y : Nat) (neg ny : Bool) (xs ys : List Int) (A B : Option Addr) (c d : Nat) (w : World) (hz : IsBig w z) (hx : Opd w x neg xs A c) (hy : Opd w y ny ys B d) :
    Calls Tryd.prog 127 #[.pointer (some ⟨z, 0, none⟩), .pointer (some ⟨x, 0, none⟩), .pointer (some ⟨y, 0, none⟩), .bool neg] w fun e w' => e = .returned (.pointer (some ⟨z, 0, none⟩)) ∧ Big w' z (bval neg xs + bval neg ys) (max xs.length ys.length + 1) ∧ w.grownBy w' (some z) := by
  have HZ := Aside0.mk hz
  have HX := Aside0.mk hx
  have HY := Aside0.mk hy
  obtain ⟨c0, c1, -⟩ := hx
  obtain ⟨-, e1, -⟩ := hy
  have hnn : (neg == neg) = true := by simp
  clear hz
  go_enter Tryd.func127, Tryd.ntmps127
  go_wp2_with fail
  refine start_ (n := 13) (S := fun w' => w'.cell? ⟨x, 1, none⟩ = some (.slice A xs.length c) ∧ w'.cell? ⟨y, 1, none⟩ = some (.slice B ys.length d)) (ds := [11]) #[false, false, false, false, false, false, false, false, false, false, false, false, false] (by kernel_rfl) rfl rfl ⟨c1, e1⟩ (fun hHeld => ?_)
  have Dw0 := Aside0.mk ((Below.refl w.heap.size w).drew)
  generalize w.drew = w0 at hHeld Dw0 ⊢
  refine pure_ (i := 0) (N := some 16) (v := ?_) (a' := ?_) #[true, false, false, false, false, false, false, false, false, false, false, false, false] rfl rfl (by kernel_rfl) (fun _ _ _ h => h) (Or.inl ⟨by rfl, ?_⟩) ?_ ?_
  rotate_left
  · intro w'
    go_simp
    with_reducible rfl
  rotate_left
  · simp only [Act.put, List.setIfInBounds_toArray, List.set_cons_zero, List.set_cons_succ, i64_w, i32_w]
    rfl
  refine pure_ (i := 1) (N := some 17) (v := ?_) (a' := ?_) #[true, true, false, false, false, false, false, false, false, false, false, false, false] rfl rfl (by kernel_rfl) (fun _ _ _ h => h) (Or.inl ⟨by rfl, ?_⟩) ?_ ?_
  rotate_left
  · intro w'
    go_simp
    with_reducible rfl
  rotate_left
  · simp only [Act.put, List.setIfInBounds_toArray, List.set_cons_zero, List.set_cons_succ, i64_w, i32_w]
    rfl
  refine pure_ (i := 2) (N := some 18) (v := ?_) (a' := ?_) #[true, true, true, false, false, false, false, false, false, false, false, false, false] rfl rfl (by kernel_rfl) (fun _ _ _ h => h) (Or.inl ⟨by rfl, ?_⟩) ?_ ?_
  rotate_left
  · intro w'
    go_simp
    with_reducible rfl
  rotate_left
  · simp only [Act.put, List.setIfInBounds_toArray, List.set_cons_zero, List.set_cons_succ, i64_w, i32_w]
    rfl
  refine pure_ (i := 3) (N := some 19) (v := ?_) (a' := ?_) #[true, true, true, true, false, false, false, false, false, false, false, false, false] rfl rfl (by kernel_rfl) (fun _ _ _ h => h) (Or.inl ⟨by rfl, ?_⟩) ?_ ?_
  rotate_left
  · intro w'
    go_simp
    with_reducible rfl
  rotate_left
  · simp only [Act.put, List.setIfInBounds_toArray, List.set_cons_zero, List.set_cons_succ, i64_w, i32_w]
    rfl
  refine pure_ (i := 4) (N := some 20) (v := ?_) (a' := ?_) #[true, true, true, true, true, false, false, false, false, false, false, false, false] rfl rfl (by kernel_rfl) (fun _ _ _ h => h) (Or.inl ⟨by rfl, ?_⟩) ?_ ?_
  rotate_left
  · intro w'
    go_simp
    with_reducible rfl
  rotate_left
  · simp only [Act.put, List.setIfInBounds_toArray, List.set_cons_zero, List.set_cons_succ, i64_w, i32_w]
    rfl
  refine pure_ (i := 6) (N := some 22) (v := ?_) (a' := ?_) #[true, true, true, true, true, false, true, false, false, false, false, false, false] rfl rfl (by kernel_rfl) (fun _ _ _ h => h) (Or.inl ⟨by rfl, ?_⟩) ?_ ?_
  rotate_left
  · intro w'
    go_simp
    with_reducible rfl
  rotate_left
  · simp only [Act.put, List.setIfInBounds_toArray, List.set_cons_zero, List.set_cons_succ, i64_w, i32_w]
    rfl
  refine pure_ (i := 7) (N := some 23) (v := ?_) (a' := ?_) #[true, true, true, true, true, false, true, true, false, false, false, false, false] rfl rfl (by kernel_rfl) (fun _ _ _ h => h) (Or.inl ⟨by rfl, ?_⟩) ?_ ?_
  rotate_left
  · intro w'
    go_simp
    with_reducible rfl
  rotate_left
  · simp only [Act.put, List.setIfInBounds_toArray, List.set_cons_zero, List.set_cons_succ, i64_w, i32_w]
    rfl
  refine pure_ (i := 8) (N := some 24) (v := ?_) (a' := ?_) #[true, true, true, true, true, false, true, true, true, false, false, false, false] rfl rfl (by kernel_rfl) (fun _ _ _ h => h) (Or.inl ⟨by rfl, ?_⟩) ?_ ?_
  rotate_left
  · intro w'
    go_simp
    with_reducible rfl
  rotate_left
  · simp only [Act.put, List.setIfInBounds_toArray, List.set_cons_zero, List.set_cons_succ, i64_w, i32_w]
    rfl
  refine take_ (i := 5) (N := some 21) (v := ?_) (a' := ?_) #[true, true, true, true, true, true, true, true, true, false, false, false, false] rfl rfl (by kernel_rfl) (fun _ _ _ h => h) (Or.inl ⟨by rfl, ?_⟩) hHeld ?_ ?_
  rotate_left
  · rintro w' ⟨s0, s1⟩
    go_simp
    with_reducible rfl
  rotate_left
  · simp only [Act.put, List.setIfInBounds_toArray, List.set_cons_zero, List.set_cons_succ, i64_w, i32_w]
    rfl
  refine take_ (i := 9) (N := some 25) (v := ?_) (a' := ?_) #[true, true, true, true, true, true, true, true, true, true, false, false, false] rfl rfl (by kernel_rfl) (fun _ _ _ h => h) (Or.inl ⟨by rfl, ?_⟩) hHeld ?_ ?_
  rotate_left
  · rintro w' ⟨s0, s1⟩
    go_simp
    with_reducible rfl
  rotate_left
  · simp only [Act.put, List.setIfInBounds_toArray, List.set_cons_zero, List.set_cons_succ, i64_w, i32_w]
    rfl
  refine one_ (i := 10) (N := some 26) #[true, true, true, true, true, true, true, true, true, true, true, false, false] rfl rfl (by kernel_rfl) (by decide) (fun K hK => ?_)
  refine goes_ Tryd.func129 (by kernel_rfl) rfl #[.slice A xs.length c, .slice B ys.length d] (by rfl) rfl rfl (by simp only [List.map_toArray, List.map_cons, List.map_nil]; rfl) ?_
  with_reducible refine (addDigits_calls xs ys _ _ _ (HX.out.below Dw0.out).d (HY.out.below Dw0.out).d HX.out.ok HY.out.ok (Nat.le_trans HX.out.len (by omega)) (Nat.le_trans HY.out.len (by omega))).mono ?_
  rintro e w1 ⟨v, zs, rfl, hd, hok, hl, hv, hb⟩
  refine ⟨_, rfl, ?_⟩
  have Hw1 := Aside0.mk (Dw0.out.trans (hb.mono Dw0.out.size))
  have HV := Aside0.mk (And.intro hd (And.intro hok (And.intro hl hv)))
  refine hK.out _ _ ⟨pw_cell_below hb hHeld.1, pw_cell_below hb hHeld.2⟩ (fun hHeld => ?_)
  clear hK K
  refine norm_ (a' := ?_) ?_ ?_
  rotate_left
  · show Act.put _ (some 26) _ = _
    simp only [Act.put, List.setIfInBounds_toArray, List.set_cons_zero, List.set_cons_succ, i64_w, i32_w]
    rfl
  refine last_ (i := 11) (N := some 27) #[true, true, true, true, true, true, true, true, true, true, true, true, false] rfl rfl (by kernel_rfl) (by decide) (fun K hK => ?_)
  clear hb hd hok hl hv
  refine goes_ Tryd.func90 (by kernel_rfl) rfl #[.pointer (some ⟨z, 0, none⟩), .bool neg, v] (by rfl) rfl rfl (by simp only [List.map_toArray, List.map_cons, List.map_nil]; rfl) ?_
  with_reducible refine (put_big z neg v zs _ (HZ.out.below Hw1.out) HV.out.1 HV.out.2.1).mono ?_
  rintro e w2 ⟨rfl, hb2, hg2⟩
  refine ⟨_, rfl, ?_⟩
  refine hK.out _ _ ?_
  clear hK K
  refine norm_ (a' := ?_) ?_ ?_
  rotate_left
  · show Act.put _ (some 27) _ = _
    simp only [Act.put, List.setIfInBounds_toArray, List.set_cons_zero, List.set_cons_succ, i64_w, i32_w]
    rfl
  refine pure_ (i := 12) (N := some 8) (v := ?_) (a' := ?_) #[true, true, true, true, true, true, true, true, true, true, true, true, true] rfl rfl (by kernel_rfl) (fun _ _ _ h => h) (Or.inl ⟨by rfl, ?_⟩) ?_ ?_
  rotate_left
  · intro w'
    go_simp
    with_reducible rfl
  rotate_left
  · simp only [Act.put, List.setIfInBounds_toArray, List.set_cons_zero, List.set_cons_succ, i64_w, i32_w]
    rfl
  refine done_ (by kernel_rfl) ?_

  have HG := Aside0.mk (below_z Hw1.out hg2)
  have HB := Aside0.mk hb2
  clear hb2 hg2
  try go_wp2
  go_ret
  refine ⟨rfl, ?_, HG.out⟩
  have h := HB.out
  rw [HV.out.2.2.1] at h
  rw [show bval neg xs + bval neg ys = bval neg zs from ?_]
  · exact h
  · have := HV.out.2.2.2
    cases neg <;> simp [bval] <;> omega

set_option maxRecDepth 100000 in
set_option maxHeartbeats 4000000 in
theorem sum_ge (z x y : Nat) (neg nx ny : Bool) (xs ys : List Int) (A B : Option Addr) (c d : Nat) (w : World) (hz : IsBig w z) (hx : Opd w x nx xs A c) (hy : Opd w y ny ys B d) (hn : nx ≠ neg) (hc : val ys ≤ val xs) :
    Calls Tryd.prog 127 #[.pointer (some ⟨z, 0, none⟩), .pointer (some ⟨x, 0, none⟩), .pointer (some ⟨y, 0, none⟩), .bool neg] w fun e w' => e = .returned (.pointer (some ⟨z, 0, none⟩)) ∧ Big w' z (bval nx xs + bval neg ys) (max xs.length ys.length + 1) ∧ w.grownBy w' (some z) := by
  have HZ := Aside0.mk hz
  have HX := Aside0.mk hx
  have HY := Aside0.mk hy
  have HC := Aside0.mk hc
  have HL : Aside0 (ys.length ≤ xs.length) := Aside0.mk (by
    rcases Nat.lt_or_ge xs.length ys.length with h | h
    · have := val_lt_of_length hx.ok hy.ok hy.ti h
      omega
    · exact h)
  obtain ⟨s, hse⟩ : ∃ s, s = sgn (val xs - val ys) := ⟨_, rfl⟩
  have hs0 : 0 ≤ s := by rw [hse, sgn]; split <;> (try split) <;> omega
  have HSE := Aside0.mk hse
  have HN := Aside0.mk hn
  have hnn : (nx == neg) = false := by simpa using hn
  obtain ⟨c0, c1, -⟩ := hx
  obtain ⟨-, e1, -⟩ := hy
  clear hz hse hc hn
  go_enter Tryd.func127, Tryd.ntmps127
  go_wp2_with fail
  refine start_ (n := 11) (S := fun w' => w'.cell? ⟨x, 1, none⟩ = some (.slice A xs.length c) ∧ w'.cell? ⟨y, 1, none⟩ = some (.slice B ys.length d)) (ds := []) #[false, false, false, false, false, false, false, false, false, false, false] (by kernel_rfl) rfl rfl ⟨c1, e1⟩ (fun hHeld => ?_)
  have Dw0 := Aside0.mk ((Below.refl w.heap.size w).drew)
  generalize w.drew = w0 at hHeld Dw0 ⊢
  refine pure_ (i := 0) (N := some 29) (v := ?_) (a' := ?_) #[true, false, false, false, false, false, false, false, false, false, false] rfl rfl (by kernel_rfl) (fun _ _ _ h => h) (Or.inl ⟨by rfl, ?_⟩) ?_ ?_
  rotate_left
  · intro w'
    go_simp
    with_reducible rfl
  rotate_left
  · simp only [Act.put, List.setIfInBounds_toArray, List.set_cons_zero, List.set_cons_succ, i64_w, i32_w]
    rfl
  refine pure_ (i := 1) (N := some 30) (v := ?_) (a' := ?_) #[true, true, false, false, false, false, false, false, false, false, false] rfl rfl (by kernel_rfl) (fun _ _ _ h => h) (Or.inl ⟨by rfl, ?_⟩) ?_ ?_
  rotate_left
  · intro w'
    go_simp
    with_reducible rfl
  rotate_left
  · simp only [Act.put, List.setIfInBounds_toArray, List.set_cons_zero, List.set_cons_succ, i64_w, i32_w]
    rfl
  refine pure_ (i := 2) (N := some 31) (v := ?_) (a' := ?_) #[true, true, true, false, false, false, false, false, false, false, false] rfl rfl (by kernel_rfl) (fun _ _ _ h => h) (Or.inl ⟨by rfl, ?_⟩) ?_ ?_
  rotate_left
  · intro w'
    go_simp
    with_reducible rfl
  rotate_left
  · simp only [Act.put, List.setIfInBounds_toArray, List.set_cons_zero, List.set_cons_succ, i64_w, i32_w]
    rfl
  refine pure_ (i := 4) (N := some 33) (v := ?_) (a' := ?_) #[true, true, true, false, true, false, false, false, false, false, false] rfl rfl (by kernel_rfl) (fun _ _ _ h => h) (Or.inl ⟨by rfl, ?_⟩) ?_ ?_
  rotate_left
  · intro w'
    go_simp
    with_reducible rfl
  rotate_left
  · simp only [Act.put, List.setIfInBounds_toArray, List.set_cons_zero, List.set_cons_succ, i64_w, i32_w]
    rfl
  refine pure_ (i := 5) (N := some 34) (v := ?_) (a' := ?_) #[true, true, true, false, true, true, false, false, false, false, false] rfl rfl (by kernel_rfl) (fun _ _ _ h => h) (Or.inl ⟨by rfl, ?_⟩) ?_ ?_
  rotate_left
  · intro w'
    go_simp
    with_reducible rfl
  rotate_left
  · simp only [Act.put, List.setIfInBounds_toArray, List.set_cons_zero, List.set_cons_succ, i64_w, i32_w]
    rfl
  refine pure_ (i := 6) (N := some 35) (v := ?_) (a' := ?_) #[true, true, true, false, true, true, true, false, false, false, false] rfl rfl (by kernel_rfl) (fun _ _ _ h => h) (Or.inl ⟨by rfl, ?_⟩) ?_ ?_
  rotate_left
  · intro w'
    go_simp
    with_reducible rfl
  rotate_left
  · simp only [Act.put, List.setIfInBounds_toArray, List.set_cons_zero, List.set_cons_succ, i64_w, i32_w]
    rfl
  refine take_ (i := 3) (N := some 32) (v := ?_) (a' := ?_) #[true, true, true, true, true, true, true, false, false, false, false] rfl rfl (by kernel_rfl) (fun _ _ _ h => h) (Or.inl ⟨by rfl, ?_⟩) hHeld ?_ ?_
  rotate_left
  · rintro w' ⟨s0, s1⟩
    go_simp
    with_reducible rfl
  rotate_left
  · simp only [Act.put, List.setIfInBounds_toArray, List.set_cons_zero, List.set_cons_succ, i64_w, i32_w]
    rfl
  refine take_ (i := 7) (N := some 36) (v := ?_) (a' := ?_) #[true, true, true, true, true, true, true, true, false, false, false] rfl rfl (by kernel_rfl) (fun _ _ _ h => h) (Or.inl ⟨by rfl, ?_⟩) hHeld ?_ ?_
  rotate_left
  · rintro w' ⟨s0, s1⟩
    go_simp
    with_reducible rfl
  rotate_left
  · simp only [Act.put, List.setIfInBounds_toArray, List.set_cons_zero, List.set_cons_succ, i64_w, i32_w]
    rfl
  refine one_ (i := 8) (N := some 37) #[true, true, true, true, true, true, true, true, true, false, false] rfl rfl (by kernel_rfl) (by decide) (fun K hK => ?_)
  refine goes_ Tryd.func125 (by kernel_rfl) rfl #[.slice A xs.length c, .slice B ys.length d] (by rfl) rfl rfl (by simp only [List.map_toArray, List.map_cons, List.map_nil]; rfl) ?_
  with_reducible refine (cmpDigits_calls xs ys _ _ _ (HX.out.below Dw0.out).d (HY.out.below Dw0.out).d HX.out.ok HY.out.ok HX.out.ti HY.out.ti (Nat.le_trans HX.out.len (by omega)) (Nat.le_trans HY.out.len (by omega))).mono ?_
  rintro e w1 ⟨rfl, hb⟩
  refine ⟨_, rfl, ?_⟩
  have Hw1 := Aside0.mk (Dw0.out.trans (hb.mono Dw0.out.size))
  rw [← HSE.out]
  refine hK.out _ _ ⟨pw_cell_below hb hHeld.1, pw_cell_below hb hHeld.2⟩ (fun hHeld => ?_)
  clear hK K
  refine norm_ (a' := ?_) ?_ ?_
  rotate_left
  · show Act.put _ (some 37) _ = _
    simp only [Act.put, List.setIfInBounds_toArray, List.set_cons_zero, List.set_cons_succ, i64_w, i32_w]
    rfl
  refine pure_ (i := 9) (N := some 38) (v := ?_) (a' := ?_) #[true, true, true, true, true, true, true, true, true, true, false] rfl rfl (by kernel_rfl) (fun _ _ _ h => h) (Or.inl ⟨by rfl, ?_⟩) ?_ ?_
  rotate_left
  · intro w'
    go_simp
    with_reducible rfl
  rotate_left
  · simp only [Act.put, List.setIfInBounds_toArray, List.set_cons_zero, List.set_cons_succ, i64_w, i32_w]
    rfl
  refine pure_ (i := 10) (N := some 28) (v := ?_) (a' := ?_) #[true, true, true, true, true, true, true, true, true, true, true] rfl rfl (by kernel_rfl) (fun _ _ _ h => h) (Or.inl ⟨by rfl, ?_⟩) ?_ ?_
  rotate_left
  · intro w'
    go_simp
    with_reducible rfl
  rotate_left
  · simp only [Act.put, List.setIfInBounds_toArray, List.set_cons_zero, List.set_cons_succ, i64_w, i32_w]
    rfl
  refine done_ (by kernel_rfl) ?_

  clear hb
  have k0 := pw_cell_below Hw1.out c0
  have k1 := pw_cell_below Hw1.out c1
  have l1 := pw_cell_below Hw1.out e1
  clear c0 c1 e1
  try go_wp2
  refine start_ (n := 16) (S := fun w' => w'.cell? ⟨x, 0, none⟩ = some (.bool nx) ∧ w'.cell? ⟨x, 1, none⟩ = some (.slice A xs.length c) ∧ w'.cell? ⟨y, 1, none⟩ = some (.slice B ys.length d)) (ds := [14]) #[false, false, false, false, false, false, false, false, false, false, false, false, false, false, false, false] (by kernel_rfl) rfl rfl ⟨k0, k1, l1⟩ (fun hHeld => ?_)
  have Dw2 := Aside0.mk ((Below.refl w1.heap.size w1).drew)
  generalize w1.drew = w2 at hHeld Dw2 ⊢
  refine pure_ (i := 0) (N := some 39) (v := ?_) (a' := ?_) #[true, false, false, false, false, false, false, false, false, false, false, false, false, false, false, false] rfl rfl (by kernel_rfl) (fun _ _ _ h => h) (Or.inl ⟨by rfl, ?_⟩) ?_ ?_
  rotate_left
  · intro w'
    go_simp
    with_reducible rfl
  rotate_left
  · simp only [Act.put, List.setIfInBounds_toArray, List.set_cons_zero, List.set_cons_succ, i64_w, i32_w]
    rfl
  refine pure_ (i := 1) (N := some 40) (v := ?_) (a' := ?_) #[true, true, false, false, false, false, false, false, false, false, false, false, false, false, false, false] rfl rfl (by kernel_rfl) (fun _ _ _ h => h) (Or.inl ⟨by rfl, ?_⟩) ?_ ?_
  rotate_left
  · intro w'
    go_simp
    with_reducible rfl
  rotate_left
  · simp only [Act.put, List.setIfInBounds_toArray, List.set_cons_zero, List.set_cons_succ, i64_w, i32_w]
    rfl
  refine pure_ (i := 2) (N := some 41) (v := ?_) (a' := ?_) #[true, true, true, false, false, false, false, false, false, false, false, false, false, false, false, false] rfl rfl (by kernel_rfl) (fun _ _ _ h => h) (Or.inl ⟨by rfl, ?_⟩) ?_ ?_
  rotate_left
  · intro w'
    go_simp
    with_reducible rfl
  rotate_left
  · simp only [Act.put, List.setIfInBounds_toArray, List.set_cons_zero, List.set_cons_succ, i64_w, i32_w]
    rfl
  refine pure_ (i := 3) (N := some 42) (v := ?_) (a' := ?_) #[true, true, true, true, false, false, false, false, false, false, false, false, false, false, false, false] rfl rfl (by kernel_rfl) (fun _ _ _ h => h) (Or.inl ⟨by rfl, ?_⟩) ?_ ?_
  rotate_left
  · intro w'
    go_simp
    with_reducible rfl
  rotate_left
  · simp only [Act.put, List.setIfInBounds_toArray, List.set_cons_zero, List.set_cons_succ, i64_w, i32_w]
    rfl
  refine pure_ (i := 5) (N := some 44) (v := ?_) (a' := ?_) #[true, true, true, true, false, true, false, false, false, false, false, false, false, false, false, false] rfl rfl (by kernel_rfl) (fun _ _ _ h => h) (Or.inl ⟨by rfl, ?_⟩) ?_ ?_
  rotate_left
  · intro w'
    go_simp
    with_reducible rfl
  rotate_left
  · simp only [Act.put, List.setIfInBounds_toArray, List.set_cons_zero, List.set_cons_succ, i64_w, i32_w]
    rfl
  refine pure_ (i := 6) (N := some 45) (v := ?_) (a' := ?_) #[true, true, true, true, false, true, true, false, false, false, false, false, false, false, false, false] rfl rfl (by kernel_rfl) (fun _ _ _ h => h) (Or.inl ⟨by rfl, ?_⟩) ?_ ?_
  rotate_left
  · intro w'
    go_simp
    with_reducible rfl
  rotate_left
  · simp only [Act.put, List.setIfInBounds_toArray, List.set_cons_zero, List.set_cons_succ, i64_w, i32_w]
    rfl
  refine pure_ (i := 7) (N := some 46) (v := ?_) (a' := ?_) #[true, true, true, true, false, true, true, true, false, false, false, false, false, false, false, false] rfl rfl (by kernel_rfl) (fun _ _ _ h => h) (Or.inl ⟨by rfl, ?_⟩) ?_ ?_
  rotate_left
  · intro w'
    go_simp
    with_reducible rfl
  rotate_left
  · simp only [Act.put, List.setIfInBounds_toArray, List.set_cons_zero, List.set_cons_succ, i64_w, i32_w]
    rfl
  refine pure_ (i := 9) (N := some 48) (v := ?_) (a' := ?_) #[true, true, true, true, false, true, true, true, false, true, false, false, false, false, false, false] rfl rfl (by kernel_rfl) (fun _ _ _ h => h) (Or.inl ⟨by rfl, ?_⟩) ?_ ?_
  rotate_left
  · intro w'
    go_simp
    with_reducible rfl
  rotate_left
  · simp only [Act.put, List.setIfInBounds_toArray, List.set_cons_zero, List.set_cons_succ, i64_w, i32_w]
    rfl
  refine pure_ (i := 10) (N := some 49) (v := ?_) (a' := ?_) #[true, true, true, true, false, true, true, true, false, true, true, false, false, false, false, false] rfl rfl (by kernel_rfl) (fun _ _ _ h => h) (Or.inl ⟨by rfl, ?_⟩) ?_ ?_
  rotate_left
  · intro w'
    go_simp
    with_reducible rfl
  rotate_left
  · simp only [Act.put, List.setIfInBounds_toArray, List.set_cons_zero, List.set_cons_succ, i64_w, i32_w]
    rfl
  refine pure_ (i := 11) (N := some 50) (v := ?_) (a' := ?_) #[true, true, true, true, false, true, true, true, false, true, true, true, false, false, false, false] rfl rfl (by kernel_rfl) (fun _ _ _ h => h) (Or.inl ⟨by rfl, ?_⟩) ?_ ?_
  rotate_left
  · intro w'
    go_simp
    with_reducible rfl
  rotate_left
  · simp only [Act.put, List.setIfInBounds_toArray, List.set_cons_zero, List.set_cons_succ, i64_w, i32_w]
    rfl
  refine take_ (i := 4) (N := some 43) (v := ?_) (a' := ?_) #[true, true, true, true, true, true, true, true, false, true, true, true, false, false, false, false] rfl rfl (by kernel_rfl) (fun _ _ _ h => h) (Or.inl ⟨by rfl, ?_⟩) hHeld ?_ ?_
  rotate_left
  · rintro w' ⟨s0, s1, s2⟩
    go_simp
    with_reducible rfl
  rotate_left
  · simp only [Act.put, List.setIfInBounds_toArray, List.set_cons_zero, List.set_cons_succ, i64_w, i32_w]
    rfl
  refine take_ (i := 8) (N := some 47) (v := ?_) (a' := ?_) #[true, true, true, true, true, true, true, true, true, true, true, true, false, false, false, false] rfl rfl (by kernel_rfl) (fun _ _ _ h => h) (Or.inl ⟨by rfl, ?_⟩) hHeld ?_ ?_
  rotate_left
  · rintro w' ⟨s0, s1, s2⟩
    go_simp
    with_reducible rfl
  rotate_left
  · simp only [Act.put, List.setIfInBounds_toArray, List.set_cons_zero, List.set_cons_succ, i64_w, i32_w]
    rfl
  refine take_ (i := 12) (N := some 51) (v := ?_) (a' := ?_) #[true, true, true, true, true, true, true, true, true, true, true, true, true, false, false, false] rfl rfl (by kernel_rfl) (fun _ _ _ h => h) (Or.inl ⟨by rfl, ?_⟩) hHeld ?_ ?_
  rotate_left
  · rintro w' ⟨s0, s1, s2⟩
    go_simp
    with_reducible rfl
  rotate_left
  · simp only [Act.put, List.setIfInBounds_toArray, List.set_cons_zero, List.set_cons_succ, i64_w, i32_w]
    rfl
  refine one_ (i := 13) (N := some 52) #[true, true, true, true, true, true, true, true, true, true, true, true, true, true, false, false] rfl rfl (by kernel_rfl) (by decide) (fun K hK => ?_)
  have Hw2 := Aside0.mk (Hw1.out.trans (Dw2.out.mono Hw1.out.size))
  refine goes_ Tryd.func139 (by kernel_rfl) rfl #[.slice A xs.length c, .slice B ys.length d] (by rfl) rfl rfl (by simp only [List.map_toArray, List.map_cons, List.map_nil]; rfl) ?_
  with_reducible refine (subDigits_calls xs ys _ _ _ (HX.out.below Hw2.out).d (HY.out.below Hw2.out).d HX.out.ok HY.out.ok (Nat.le_trans HX.out.len (by omega)) HL.out HC.out).mono ?_
  rintro e w3 ⟨v, zs, rfl, hd, hok, hl, hv, hb⟩
  refine ⟨_, rfl, ?_⟩
  have Hw3 := Aside0.mk (Hw2.out.trans (hb.mono Hw2.out.size))
  have HV := Aside0.mk (And.intro hd (And.intro hok (And.intro hl hv)))
  refine hK.out _ _ ⟨pw_cell_below hb hHeld.1, pw_cell_below hb hHeld.2.1, pw_cell_below hb hHeld.2.2⟩ (fun hHeld => ?_)
  clear hK K
  refine norm_ (a' := ?_) ?_ ?_
  rotate_left
  · show Act.put _ (some 52) _ = _
    simp only [Act.put, List.setIfInBounds_toArray, List.set_cons_zero, List.set_cons_succ, i64_w, i32_w]
    rfl
  refine last_ (i := 14) (N := some 53) #[true, true, true, true, true, true, true, true, true, true, true, true, true, true, true, false] rfl rfl (by kernel_rfl) (by decide) (fun K hK => ?_)
  clear hb hd hok hl hv
  refine goes_ Tryd.func90 (by kernel_rfl) rfl #[.pointer (some ⟨z, 0, none⟩), .bool nx, v] (by rfl) rfl rfl (by simp only [List.map_toArray, List.map_cons, List.map_nil]; rfl) ?_
  with_reducible refine (put_big z nx v zs _ (HZ.out.below Hw3.out) HV.out.1 HV.out.2.1).mono ?_
  rintro e w4 ⟨rfl, hb2, hg2⟩
  refine ⟨_, rfl, ?_⟩
  refine hK.out _ _ ?_
  clear hK K
  refine norm_ (a' := ?_) ?_ ?_
  rotate_left
  · show Act.put _ (some 53) _ = _
    simp only [Act.put, List.setIfInBounds_toArray, List.set_cons_zero, List.set_cons_succ, i64_w, i32_w]
    rfl
  refine pure_ (i := 15) (N := some 8) (v := ?_) (a' := ?_) #[true, true, true, true, true, true, true, true, true, true, true, true, true, true, true, true] rfl rfl (by kernel_rfl) (fun _ _ _ h => h) (Or.inl ⟨by rfl, ?_⟩) ?_ ?_
  rotate_left
  · intro w'
    go_simp
    with_reducible rfl
  rotate_left
  · simp only [Act.put, List.setIfInBounds_toArray, List.set_cons_zero, List.set_cons_succ, i64_w, i32_w]
    rfl
  refine done_ (by kernel_rfl) ?_

  have HG := Aside0.mk (below_z Hw3.out hg2)
  have HB := Aside0.mk hb2
  clear hb2 hg2
  try go_wp2
  go_ret
  refine ⟨rfl, ?_, HG.out⟩
  have h := HB.out
  rw [HV.out.2.2.1] at h
  rw [show bval nx xs + bval neg ys = bval nx zs from ?_]
  · exact h.more (by omega)
  · have := HV.out.2.2.2
    have hn := HN.out
    cases nx <;> cases neg <;> simp [bval] at hn ⊢ <;> omega

set_option maxRecDepth 100000 in
set_option maxHeartbeats 4000000 in
theorem sum_lt (z x y : Nat) (neg nx ny : Bool) (xs ys : List Int) (A B : Option Addr) (c d : Nat) (w : World) (hz : IsBig w z) (hx : Opd w x nx xs A c) (hy : Opd w y ny ys B d) (hn : nx ≠ neg) (hc : val xs < val ys) :
    Calls Tryd.prog 127 #[.pointer (some ⟨z, 0, none⟩), .pointer (some ⟨x, 0, none⟩), .pointer (some ⟨y, 0, none⟩), .bool neg] w fun e w' => e = .returned (.pointer (some ⟨z, 0, none⟩)) ∧ Big w' z (bval nx xs + bval neg ys) (max xs.length ys.length + 1) ∧ w.grownBy w' (some z) := by
  have HZ := Aside0.mk hz
  have HX := Aside0.mk hx
  have HY := Aside0.mk hy
  have HC := Aside0.mk hc
  have HL : Aside0 (xs.length ≤ ys.length) := Aside0.mk (by
    rcases Nat.lt_or_ge ys.length xs.length with h | h
    · have := val_lt_of_length hy.ok hx.ok hx.ti h
      omega
    · exact h)
  obtain ⟨s, hse⟩ : ∃ s, s = sgn (val xs - val ys) := ⟨_, rfl⟩
  have hs0 : s < 0 := by rw [hse, sgn, if_pos (by omega)]; omega
  have HSE := Aside0.mk hse
  have HN := Aside0.mk hn
  have hnn : (nx == neg) = false := by simpa using hn
  obtain ⟨c0, c1, -⟩ := hx
  obtain ⟨-, e1, -⟩ := hy
  clear hz hse hc hn
  go_enter Tryd.func127, Tryd.ntmps127
  go_wp2_with fail
  refine start_ (n := 11) (S := fun w' => w'.cell? ⟨x, 1, none⟩ = some (.slice A xs.length c) ∧ w'.cell? ⟨y, 1, none⟩ = some (.slice B ys.length d)) (ds := []) #[false, false, false, false, false, false, false, false, false, false, false] (by kernel_rfl) rfl rfl ⟨c1, e1⟩ (fun hHeld => ?_)
  have Dw0 := Aside0.mk ((Below.refl w.heap.size w).drew)
  generalize w.drew = w0 at hHeld Dw0 ⊢
  refine pure_ (i := 0) (N := some 29) (v := ?_) (a' := ?_) #[true, false, false, false, false, false, false, false, false, false, false] rfl rfl (by kernel_rfl) (fun _ _ _ h => h) (Or.inl ⟨by rfl, ?_⟩) ?_ ?_
  rotate_left
  · intro w'
    go_simp
    with_reducible rfl
  rotate_left
  · simp only [Act.put, List.setIfInBounds_toArray, List.set_cons_zero, List.set_cons_succ, i64_w, i32_w]
    rfl
  refine pure_ (i := 1) (N := some 30) (v := ?_) (a' := ?_) #[true, true, false, false, false, false, false, false, false, false, false] rfl rfl (by kernel_rfl) (fun _ _ _ h => h) (Or.inl ⟨by rfl, ?_⟩) ?_ ?_
  rotate_left
  · intro w'
    go_simp
    with_reducible rfl
  rotate_left
  · simp only [Act.put, List.setIfInBounds_toArray, List.set_cons_zero, List.set_cons_succ, i64_w, i32_w]
    rfl
  refine pure_ (i := 2) (N := some 31) (v := ?_) (a' := ?_) #[true, true, true, false, false, false, false, false, false, false, false] rfl rfl (by kernel_rfl) (fun _ _ _ h => h) (Or.inl ⟨by rfl, ?_⟩) ?_ ?_
  rotate_left
  · intro w'
    go_simp
    with_reducible rfl
  rotate_left
  · simp only [Act.put, List.setIfInBounds_toArray, List.set_cons_zero, List.set_cons_succ, i64_w, i32_w]
    rfl
  refine pure_ (i := 4) (N := some 33) (v := ?_) (a' := ?_) #[true, true, true, false, true, false, false, false, false, false, false] rfl rfl (by kernel_rfl) (fun _ _ _ h => h) (Or.inl ⟨by rfl, ?_⟩) ?_ ?_
  rotate_left
  · intro w'
    go_simp
    with_reducible rfl
  rotate_left
  · simp only [Act.put, List.setIfInBounds_toArray, List.set_cons_zero, List.set_cons_succ, i64_w, i32_w]
    rfl
  refine pure_ (i := 5) (N := some 34) (v := ?_) (a' := ?_) #[true, true, true, false, true, true, false, false, false, false, false] rfl rfl (by kernel_rfl) (fun _ _ _ h => h) (Or.inl ⟨by rfl, ?_⟩) ?_ ?_
  rotate_left
  · intro w'
    go_simp
    with_reducible rfl
  rotate_left
  · simp only [Act.put, List.setIfInBounds_toArray, List.set_cons_zero, List.set_cons_succ, i64_w, i32_w]
    rfl
  refine pure_ (i := 6) (N := some 35) (v := ?_) (a' := ?_) #[true, true, true, false, true, true, true, false, false, false, false] rfl rfl (by kernel_rfl) (fun _ _ _ h => h) (Or.inl ⟨by rfl, ?_⟩) ?_ ?_
  rotate_left
  · intro w'
    go_simp
    with_reducible rfl
  rotate_left
  · simp only [Act.put, List.setIfInBounds_toArray, List.set_cons_zero, List.set_cons_succ, i64_w, i32_w]
    rfl
  refine take_ (i := 3) (N := some 32) (v := ?_) (a' := ?_) #[true, true, true, true, true, true, true, false, false, false, false] rfl rfl (by kernel_rfl) (fun _ _ _ h => h) (Or.inl ⟨by rfl, ?_⟩) hHeld ?_ ?_
  rotate_left
  · rintro w' ⟨s0, s1⟩
    go_simp
    with_reducible rfl
  rotate_left
  · simp only [Act.put, List.setIfInBounds_toArray, List.set_cons_zero, List.set_cons_succ, i64_w, i32_w]
    rfl
  refine take_ (i := 7) (N := some 36) (v := ?_) (a' := ?_) #[true, true, true, true, true, true, true, true, false, false, false] rfl rfl (by kernel_rfl) (fun _ _ _ h => h) (Or.inl ⟨by rfl, ?_⟩) hHeld ?_ ?_
  rotate_left
  · rintro w' ⟨s0, s1⟩
    go_simp
    with_reducible rfl
  rotate_left
  · simp only [Act.put, List.setIfInBounds_toArray, List.set_cons_zero, List.set_cons_succ, i64_w, i32_w]
    rfl
  refine one_ (i := 8) (N := some 37) #[true, true, true, true, true, true, true, true, true, false, false] rfl rfl (by kernel_rfl) (by decide) (fun K hK => ?_)
  refine goes_ Tryd.func125 (by kernel_rfl) rfl #[.slice A xs.length c, .slice B ys.length d] (by rfl) rfl rfl (by simp only [List.map_toArray, List.map_cons, List.map_nil]; rfl) ?_
  with_reducible refine (cmpDigits_calls xs ys _ _ _ (HX.out.below Dw0.out).d (HY.out.below Dw0.out).d HX.out.ok HY.out.ok HX.out.ti HY.out.ti (Nat.le_trans HX.out.len (by omega)) (Nat.le_trans HY.out.len (by omega))).mono ?_
  rintro e w1 ⟨rfl, hb⟩
  refine ⟨_, rfl, ?_⟩
  have Hw1 := Aside0.mk (Dw0.out.trans (hb.mono Dw0.out.size))
  rw [← HSE.out]
  refine hK.out _ _ ⟨pw_cell_below hb hHeld.1, pw_cell_below hb hHeld.2⟩ (fun hHeld => ?_)
  clear hK K
  refine norm_ (a' := ?_) ?_ ?_
  rotate_left
  · show Act.put _ (some 37) _ = _
    simp only [Act.put, List.setIfInBounds_toArray, List.set_cons_zero, List.set_cons_succ, i64_w, i32_w]
    rfl
  refine pure_ (i := 9) (N := some 38) (v := ?_) (a' := ?_) #[true, true, true, true, true, true, true, true, true, true, false] rfl rfl (by kernel_rfl) (fun _ _ _ h => h) (Or.inl ⟨by rfl, ?_⟩) ?_ ?_
  rotate_left
  · intro w'
    go_simp
    with_reducible rfl
  rotate_left
  · simp only [Act.put, List.setIfInBounds_toArray, List.set_cons_zero, List.set_cons_succ, i64_w, i32_w]
    rfl
  refine pure_ (i := 10) (N := some 28) (v := ?_) (a' := ?_) #[true, true, true, true, true, true, true, true, true, true, true] rfl rfl (by kernel_rfl) (fun _ _ _ h => h) (Or.inl ⟨by rfl, ?_⟩) ?_ ?_
  rotate_left
  · intro w'
    go_simp
    with_reducible rfl
  rotate_left
  · simp only [Act.put, List.setIfInBounds_toArray, List.set_cons_zero, List.set_cons_succ, i64_w, i32_w]
    rfl
  refine done_ (by kernel_rfl) ?_

  clear hb
  have k0 := pw_cell_below Hw1.out c0
  have k1 := pw_cell_below Hw1.out c1
  have l1 := pw_cell_below Hw1.out e1
  clear c0 c1 e1
  try go_wp2
  refine start_ (n := 13) (S := fun w' => w'.cell? ⟨x, 1, none⟩ = some (.slice A xs.length c) ∧ w'.cell? ⟨y, 1, none⟩ = some (.slice B ys.length d)) (ds := [11]) #[false, false, false, false, false, false, false, false, false, false, false, false, false] (by kernel_rfl) rfl rfl ⟨k1, l1⟩ (fun hHeld => ?_)
  have Dw2 := Aside0.mk ((Below.refl w1.heap.size w1).drew)
  generalize w1.drew = w2 at hHeld Dw2 ⊢
  refine pure_ (i := 0) (N := some 54) (v := ?_) (a' := ?_) #[true, false, false, false, false, false, false, false, false, false, false, false, false] rfl rfl (by kernel_rfl) (fun _ _ _ h => h) (Or.inl ⟨by rfl, ?_⟩) ?_ ?_
  rotate_left
  · intro w'
    go_simp
    with_reducible rfl
  rotate_left
  · simp only [Act.put, List.setIfInBounds_toArray, List.set_cons_zero, List.set_cons_succ, i64_w, i32_w]
    rfl
  refine pure_ (i := 1) (N := some 55) (v := ?_) (a' := ?_) #[true, true, false, false, false, false, false, false, false, false, false, false, false] rfl rfl (by kernel_rfl) (fun _ _ _ h => h) (Or.inl ⟨by rfl, ?_⟩) ?_ ?_
  rotate_left
  · intro w'
    go_simp
    with_reducible rfl
  rotate_left
  · simp only [Act.put, List.setIfInBounds_toArray, List.set_cons_zero, List.set_cons_succ, i64_w, i32_w]
    rfl
  refine pure_ (i := 2) (N := some 56) (v := ?_) (a' := ?_) #[true, true, true, false, false, false, false, false, false, false, false, false, false] rfl rfl (by kernel_rfl) (fun _ _ _ h => h) (Or.inl ⟨by rfl, ?_⟩) ?_ ?_
  rotate_left
  · intro w'
    go_simp
    with_reducible rfl
  rotate_left
  · simp only [Act.put, List.setIfInBounds_toArray, List.set_cons_zero, List.set_cons_succ, i64_w, i32_w]
    rfl
  refine pure_ (i := 3) (N := some 57) (v := ?_) (a' := ?_) #[true, true, true, true, false, false, false, false, false, false, false, false, false] rfl rfl (by kernel_rfl) (fun _ _ _ h => h) (Or.inl ⟨by rfl, ?_⟩) ?_ ?_
  rotate_left
  · intro w'
    go_simp
    with_reducible rfl
  rotate_left
  · simp only [Act.put, List.setIfInBounds_toArray, List.set_cons_zero, List.set_cons_succ, i64_w, i32_w]
    rfl
  refine pure_ (i := 4) (N := some 58) (v := ?_) (a' := ?_) #[true, true, true, true, true, false, false, false, false, false, false, false, false] rfl rfl (by kernel_rfl) (fun _ _ _ h => h) (Or.inl ⟨by rfl, ?_⟩) ?_ ?_
  rotate_left
  · intro w'
    go_simp
    with_reducible rfl
  rotate_left
  · simp only [Act.put, List.setIfInBounds_toArray, List.set_cons_zero, List.set_cons_succ, i64_w, i32_w]
    rfl
  refine pure_ (i := 6) (N := some 60) (v := ?_) (a' := ?_) #[true, true, true, true, true, false, true, false, false, false, false, false, false] rfl rfl (by kernel_rfl) (fun _ _ _ h => h) (Or.inl ⟨by rfl, ?_⟩) ?_ ?_
  rotate_left
  · intro w'
    go_simp
    with_reducible rfl
  rotate_left
  · simp only [Act.put, List.setIfInBounds_toArray, List.set_cons_zero, List.set_cons_succ, i64_w, i32_w]
    rfl
  refine pure_ (i := 7) (N := some 61) (v := ?_) (a' := ?_) #[true, true, true, true, true, false, true, true, false, false, false, false, false] rfl rfl (by kernel_rfl) (fun _ _ _ h => h) (Or.inl ⟨by rfl, ?_⟩) ?_ ?_
  rotate_left
  · intro w'
    go_simp
    with_reducible rfl
  rotate_left
  · simp only [Act.put, List.setIfInBounds_toArray, List.set_cons_zero, List.set_cons_succ, i64_w, i32_w]
    rfl
  refine pure_ (i := 8) (N := some 62) (v := ?_) (a' := ?_) #[true, true, true, true, true, false, true, true, true, false, false, false, false] rfl rfl (by kernel_rfl) (fun _ _ _ h => h) (Or.inl ⟨by rfl, ?_⟩) ?_ ?_
  rotate_left
  · intro w'
    go_simp
    with_reducible rfl
  rotate_left
  · simp only [Act.put, List.setIfInBounds_toArray, List.set_cons_zero, List.set_cons_succ, i64_w, i32_w]
    rfl
  refine take_ (i := 5) (N := some 59) (v := ?_) (a' := ?_) #[true, true, true, true, true, true, true, true, true, false, false, false, false] rfl rfl (by kernel_rfl) (fun _ _ _ h => h) (Or.inl ⟨by rfl, ?_⟩) hHeld ?_ ?_
  rotate_left
  · rintro w' ⟨s0, s1⟩
    go_simp
    with_reducible rfl
  rotate_left
  · simp only [Act.put, List.setIfInBounds_toArray, List.set_cons_zero, List.set_cons_succ, i64_w, i32_w]
    rfl
  refine take_ (i := 9) (N := some 63) (v := ?_) (a' := ?_) #[true, true, true, true, true, true, true, true, true, true, false, false, false] rfl rfl (by kernel_rfl) (fun _ _ _ h => h) (Or.inl ⟨by rfl, ?_⟩) hHeld ?_ ?_
  rotate_left
  · rintro w' ⟨s0, s1⟩
    go_simp
    with_reducible rfl
  rotate_left
  · simp only [Act.put, List.setIfInBounds_toArray, List.set_cons_zero, List.set_cons_succ, i64_w, i32_w]
    rfl
  refine one_ (i := 10) (N := some 64) #[true, true, true, true, true, true, true, true, true, true, true, false, false] rfl rfl (by kernel_rfl) (by decide) (fun K hK => ?_)
  have Hw2 := Aside0.mk (Hw1.out.trans (Dw2.out.mono Hw1.out.size))
  refine goes_ Tryd.func139 (by kernel_rfl) rfl #[.slice B ys.length d, .slice A xs.length c] (by rfl) rfl rfl (by simp only [List.map_toArray, List.map_cons, List.map_nil]; rfl) ?_
  with_reducible refine (subDigits_calls ys xs _ _ _ (HY.out.below Hw2.out).d (HX.out.below Hw2.out).d HY.out.ok HX.out.ok (Nat.le_trans HY.out.len (by omega)) HL.out (Int.le_of_lt HC.out)).mono ?_
  rintro e w3 ⟨v, zs, rfl, hd, hok, hl, hv, hb⟩
  refine ⟨_, rfl, ?_⟩
  have Hw3 := Aside0.mk (Hw2.out.trans (hb.mono Hw2.out.size))
  have HV := Aside0.mk (And.intro hd (And.intro hok (And.intro hl hv)))
  refine hK.out _ _ ⟨pw_cell_below hb hHeld.1, pw_cell_below hb hHeld.2⟩ (fun hHeld => ?_)
  clear hK K
  refine norm_ (a' := ?_) ?_ ?_
  rotate_left
  · show Act.put _ (some 64) _ = _
    simp only [Act.put, List.setIfInBounds_toArray, List.set_cons_zero, List.set_cons_succ, i64_w, i32_w]
    rfl
  refine last_ (i := 11) (N := some 65) #[true, true, true, true, true, true, true, true, true, true, true, true, false] rfl rfl (by kernel_rfl) (by decide) (fun K hK => ?_)
  clear hb hd hok hl hv
  refine goes_ Tryd.func90 (by kernel_rfl) rfl #[.pointer (some ⟨z, 0, none⟩), .bool neg, v] (by rfl) rfl rfl (by simp only [List.map_toArray, List.map_cons, List.map_nil]; rfl) ?_
  with_reducible refine (put_big z neg v zs _ (HZ.out.below Hw3.out) HV.out.1 HV.out.2.1).mono ?_
  rintro e w4 ⟨rfl, hb2, hg2⟩
  refine ⟨_, rfl, ?_⟩
  refine hK.out _ _ ?_
  clear hK K
  refine norm_ (a' := ?_) ?_ ?_
  rotate_left
  · show Act.put _ (some 65) _ = _
    simp only [Act.put, List.setIfInBounds_toArray, List.set_cons_zero, List.set_cons_succ, i64_w, i32_w]
    rfl
  refine pure_ (i := 12) (N := some 8) (v := ?_) (a' := ?_) #[true, true, true, true, true, true, true, true, true, true, true, true, true] rfl rfl (by kernel_rfl) (fun _ _ _ h => h) (Or.inl ⟨by rfl, ?_⟩) ?_ ?_
  rotate_left
  · intro w'
    go_simp
    with_reducible rfl
  rotate_left
  · simp only [Act.put, List.setIfInBounds_toArray, List.set_cons_zero, List.set_cons_succ, i64_w, i32_w]
    rfl
  refine done_ (by kernel_rfl) ?_

  have HG := Aside0.mk (below_z Hw3.out hg2)
  have HB := Aside0.mk hb2
  clear hb2 hg2
  try go_wp2
  go_ret
  refine ⟨rfl, ?_, HG.out⟩
  have h := HB.out
  rw [HV.out.2.2.1] at h
  rw [show bval nx xs + bval neg ys = bval neg zs from ?_]
  · exact h.more (by omega)
  · have := HV.out.2.2.2
    have hn := HN.out
    cases nx <;> cases neg <;> simp [bval] at hn ⊢ <;> omega

/-- A number and one with a sign. -/
theorem sum_calls (z x y : Nat) (neg ny : Bool) (ys : List Int) (n : Int) (m : Nat) (B : Option Addr) (d : Nat) (w : World) (hz : IsBig w z) (hx : Big w x n m) (hm : m ≤ 1000000) (hy : Opd w y ny ys B d) :
    Calls Tryd.prog 127 #[.pointer (some ⟨z, 0, none⟩), .pointer (some ⟨x, 0, none⟩), .pointer (some ⟨y, 0, none⟩), .bool neg] w fun e w' => e = .returned (.pointer (some ⟨z, 0, none⟩)) ∧ Big w' z (n + bval neg ys) (max m ys.length + 1) ∧ w.grownBy w' (some z) := by
  obtain ⟨nx, xs, A, c, hxo, rfl, hlm⟩ := hx.opd hm
  have key : Calls Tryd.prog 127 #[.pointer (some ⟨z, 0, none⟩), .pointer (some ⟨x, 0, none⟩), .pointer (some ⟨y, 0, none⟩), .bool neg] w fun e w' => e = .returned (.pointer (some ⟨z, 0, none⟩)) ∧ Big w' z (bval nx xs + bval neg ys) (max xs.length ys.length + 1) ∧ w.grownBy w' (some z) := by
    by_cases hn : nx = neg
    · subst hn
      exact sum_same z x y nx ny xs ys A B c d w hz hxo hy
    · rcases Int.lt_or_le (val xs) (val ys) with h | h
      · exact sum_lt z x y neg nx ny xs ys A B c d w hz hxo hy hn h
      · exact sum_ge z x y neg nx ny xs ys A B c d w hz hxo hy hn h
  refine key.mono ?_
  rintro e w' ⟨h1, h2, h3⟩
  exact ⟨h1, h2.more (by omega), h3⟩

set_option maxHeartbeats 400000 in
theorem add_calls (z x y : Nat) (n k : Int) (m m' : Nat) (w : World) (hz : IsBig w z) (hx : Big w x n m) (hm : m ≤ 1000000) (hy : Big w y k m') (hm' : m' ≤ 1000000) :
    Calls Tryd.prog 92 #[.pointer (some ⟨z, 0, none⟩), .pointer (some ⟨x, 0, none⟩), .pointer (some ⟨y, 0, none⟩)] w fun e w' => e = .returned (.pointer (some ⟨z, 0, none⟩)) ∧ Big w' z (n + k) (max m m' + 1) ∧ w.grownBy w' (some z) := by
  obtain ⟨ny, ys, B, d, hyo, rfl, hlm⟩ := hy.opd hm'
  have HZ := Aside0.mk hz
  have HX := Aside0.mk hx
  have HY := Aside0.mk hyo
  obtain ⟨e0, -⟩ := hyo
  clear hz hx hy
  go_enter Tryd.func92, Tryd.ntmps92
  go_wp2_with fail
  refine (sum_calls z x y ny ny ys n m B d _ HZ.out HX.out hm HY.out).mono ?_
  rintro e w' ⟨rfl, hb, hg⟩
  have HB := Aside0.mk (hb.more (m' := max m m' + 1) (by omega))
  have HG := Aside0.mk hg
  clear hb hg
  go_wp2
  go_ret
  exact ⟨rfl, HB.out, HG.out⟩

set_option maxHeartbeats 400000 in
theorem sub_calls (z x y : Nat) (n k : Int) (m m' : Nat) (w : World) (hz : IsBig w z) (hx : Big w x n m) (hm : m ≤ 1000000) (hy : Big w y k m') (hm' : m' ≤ 1000000) :
    Calls Tryd.prog 97 #[.pointer (some ⟨z, 0, none⟩), .pointer (some ⟨x, 0, none⟩), .pointer (some ⟨y, 0, none⟩)] w fun e w' => e = .returned (.pointer (some ⟨z, 0, none⟩)) ∧ Big w' z (n - k) (max m m' + 1) ∧ w.grownBy w' (some z) := by
  obtain ⟨ny, ys, B, d, hyo, rfl, hlm⟩ := hy.opd hm'
  have HZ := Aside0.mk hz
  have HX := Aside0.mk hx
  have HY := Aside0.mk hyo
  obtain ⟨e0, -⟩ := hyo
  clear hz hx hy
  go_enter Tryd.func97, Tryd.ntmps97
  go_wp2_with fail
  refine (sum_calls z x y (!ny) ny ys n m B d _ HZ.out HX.out hm HY.out).mono ?_
  rintro e w' ⟨rfl, hb, hg⟩
  rw [bval_not, ← Int.sub_eq_add_neg] at hb
  have HB := Aside0.mk (hb.more (m' := max m m' + 1) (by omega))
  have HG := Aside0.mk hg
  clear hb hg
  go_wp2
  go_ret
  exact ⟨rfl, HB.out, HG.out⟩

end Go.Proofs.YtghhphndbbefjaaDoor.Big
