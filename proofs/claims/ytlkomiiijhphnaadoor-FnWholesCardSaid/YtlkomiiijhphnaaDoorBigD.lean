/- The walk of Mul: the product of two numbers. Conditions: the pointers lead to bigInts, of at most 1000000 digits. -/
import Derived.Test.YtlkomiiijhphnaaDoorG6
import Derived.Test.YtlkomiiijhphnaaDoorMathM
/- The walk of Rsh for numbers of at least 0: a number divided by a power of 2, rounded down. Conditions: the pointers lead to bigInts, of at most 1000000 digits, x is at least 0. -/
/- The walk of whole: a number becomes limbs. Conditions: the pointer leads to a bigInt, of at most 500000 digits. -/
namespace Go.Proofs.YtlkomiiijhphnaaDoor.Big
open Go.RowKit Go.Proofs.YtlkomiiijhphnaaDoorW.PrintWords Go.Proofs.YtlkomiiijhphnaaDoorW.PrintLast Go.Proofs.YtlkomiiijhphnaaDoorW.PrintMore Go.Proofs.YtlkomiiijhphnaaDoor.Math
set_option linter.unusedVariables false
set_option linter.unusedSimpArgs false
theorem bval_mul {nx ny : Bool} {xs ys zs : List Int} (h : val zs = val xs * val ys) : bval (nx != ny) zs = bval nx xs * bval ny ys := by
 cases nx <;> cases ny <;> simp [bval, h, Int.neg_mul, Int.mul_neg]
set_option maxRecDepth 100000 in
set_option maxHeartbeats 4000000 in
theorem mul_walk (z x y : Nat) (nx ny : Bool) (xs ys : List Int) (A B : Option Addr) (c d : Nat) (w : World) (hz : IsBig w z) (hx : Opd w x nx xs A c) (hy : Opd w y ny ys B d) :
  Calls Tryd.prog 48 #[.pointer (some ⟨z, 0, none⟩), .pointer (some ⟨x, 0, none⟩), .pointer (some ⟨y, 0, none⟩)] w fun e w' => e = .returned (.pointer (some ⟨z, 0, none⟩)) ∧ Big w' z (bval nx xs * bval ny ys) (xs.length + ys.length) ∧ w.grownBy w' (some z) := by
 have HZ := Aside0.mk hz
 have HX := Aside0.mk hx
 have HY := Aside0.mk hy
 obtain ⟨c0, c1, -, -, -, -, hlen⟩ := hx
 obtain ⟨e0, e1, -, -, -, -, hlen2⟩ := hy
 clear hz
 have hmk := fun W => run_make_row' (P := Tryd.prog) 46 85 (.int .u32 0) 4 Tryd.underlying46 info32 rfl .i64 .i64 (xs.length + ys.length) (by omega) (by omega) W
 have ec : ((xs.length + ys.length : Nat) : Int) = (xs.length : Int) + (ys.length : Int) := by omega
 rw [ec] at hmk
 have hw : wrap64 ((xs.length : Int) + (ys.length : Int)) = (xs.length : Int) + (ys.length : Int) := w64s (by omega) (by omega)
 have HW := Aside0.mk hw
 clear ec hw
 go_enter Tryd.func48, Tryd.ntmps48
 go_wp2_with fail
 refine start_ (n := 13) (S := fun w' => w'.cell? ⟨x, 0, none⟩ = some (.bool nx) ∧ w'.cell? ⟨x, 1, none⟩ = some (.slice A xs.length c) ∧ w'.cell? ⟨y, 0, none⟩ = some (.bool ny) ∧ w'.cell? ⟨y, 1, none⟩ = some (.slice B ys.length d)) (ds := [12]) #[false, false, false, false, false, false, false, false, false, false, false, false, false] (by kernel_rfl) rfl rfl ⟨c0, c1, e0, e1⟩ (fun hHeld => ?_)
 have Dw0 := Aside0.mk ((Below.refl w.heap.size w).drew)
 generalize w.drew = w0 at hHeld Dw0 ⊢
 refine pure_ (i := 0) (N := some 13) (v := ?_) (a' := ?_) #[true, false, false, false, false, false, false, false, false, false, false, false, false] rfl rfl (by kernel_rfl) (fun _ _ _ h => h) (Or.inl ⟨by rfl, ?_⟩) ?_ ?_
 rotate_left
 ·intro w'
  go_simp
  with_reducible rfl
 rotate_left
 ·simp only [Act.put, List.setIfInBounds_toArray, List.set_cons_zero, List.set_cons_succ, i64_w, i32_w]
  rfl
 refine pure_ (i := 1) (N := some 14) (v := ?_) (a' := ?_) #[true, true, false, false, false, false, false, false, false, false, false, false, false] rfl rfl (by kernel_rfl) (fun _ _ _ h => h) (Or.inl ⟨by rfl, ?_⟩) ?_ ?_
 rotate_left
 ·intro w'
  go_simp
  with_reducible rfl
 rotate_left
 ·simp only [Act.put, List.setIfInBounds_toArray, List.set_cons_zero, List.set_cons_succ, i64_w, i32_w]
  rfl
 refine pure_ (i := 2) (N := some 15) (v := ?_) (a' := ?_) #[true, true, true, false, false, false, false, false, false, false, false, false, false] rfl rfl (by kernel_rfl) (fun _ _ _ h => h) (Or.inl ⟨by rfl, ?_⟩) ?_ ?_
 rotate_left
 ·intro w'
  go_simp
  with_reducible rfl
 rotate_left
 ·simp only [Act.put, List.setIfInBounds_toArray, List.set_cons_zero, List.set_cons_succ, i64_w, i32_w]
  rfl
 refine pure_ (i := 5) (N := some 18) (v := ?_) (a' := ?_) #[true, true, true, false, false, true, false, false, false, false, false, false, false] rfl rfl (by kernel_rfl) (fun _ _ _ h => h) (Or.inl ⟨by rfl, ?_⟩) ?_ ?_
 rotate_left
 ·intro w'
  go_simp
  with_reducible rfl
 rotate_left
 ·simp only [Act.put, List.setIfInBounds_toArray, List.set_cons_zero, List.set_cons_succ, i64_w, i32_w]
  rfl
 refine pure_ (i := 6) (N := some 19) (v := ?_) (a' := ?_) #[true, true, true, false, false, true, true, false, false, false, false, false, false] rfl rfl (by kernel_rfl) (fun _ _ _ h => h) (Or.inl ⟨by rfl, ?_⟩) ?_ ?_
 rotate_left
 ·intro w'
  go_simp
  with_reducible rfl
 rotate_left
 ·simp only [Act.put, List.setIfInBounds_toArray, List.set_cons_zero, List.set_cons_succ, i64_w, i32_w]
  rfl
 refine pure_ (i := 7) (N := some 20) (v := ?_) (a' := ?_) #[true, true, true, false, false, true, true, true, false, false, false, false, false] rfl rfl (by kernel_rfl) (fun _ _ _ h => h) (Or.inl ⟨by rfl, ?_⟩) ?_ ?_
 rotate_left
 ·intro w'
  go_simp
  with_reducible rfl
 rotate_left
 ·simp only [Act.put, List.setIfInBounds_toArray, List.set_cons_zero, List.set_cons_succ, i64_w, i32_w]
  rfl
 refine take_ (i := 3) (N := some 16) (v := ?_) (a' := ?_) #[true, true, true, true, false, true, true, true, false, false, false, false, false] rfl rfl (by kernel_rfl) (fun _ _ _ h => h) (Or.inl ⟨by rfl, ?_⟩) hHeld ?_ ?_
 rotate_left
 ·rintro w' ⟨s0, s1, s2, s3⟩
  go_simp
  with_reducible rfl
 rotate_left
 ·simp only [Act.put, List.setIfInBounds_toArray, List.set_cons_zero, List.set_cons_succ, i64_w, i32_w]
  rfl
 refine pure_ (i := 4) (N := some 17) (v := ?_) (a' := ?_) #[true, true, true, true, true, true, true, true, false, false, false, false, false] rfl rfl (by kernel_rfl) (fun _ _ _ h => h) (Or.inl ⟨by rfl, ?_⟩) ?_ ?_
 rotate_left
 ·intro w'
  go_simp
  with_reducible rfl
 rotate_left
 ·simp only [Act.put, List.setIfInBounds_toArray, List.set_cons_zero, List.set_cons_succ, i64_w, i32_w]
  rfl
 refine take_ (i := 8) (N := some 21) (v := ?_) (a' := ?_) #[true, true, true, true, true, true, true, true, true, false, false, false, false] rfl rfl (by kernel_rfl) (fun _ _ _ h => h) (Or.inl ⟨by rfl, ?_⟩) hHeld ?_ ?_
 rotate_left
 ·rintro w' ⟨s0, s1, s2, s3⟩
  go_simp
  with_reducible rfl
 rotate_left
 ·simp only [Act.put, List.setIfInBounds_toArray, List.set_cons_zero, List.set_cons_succ, i64_w, i32_w]
  rfl
 refine pure_ (i := 9) (N := some 22) (v := ?_) (a' := ?_) #[true, true, true, true, true, true, true, true, true, true, false, false, false] rfl rfl (by kernel_rfl) (fun _ _ _ h => h) (Or.inl ⟨by rfl, ?_⟩) ?_ ?_
 rotate_left
 ·intro w'
  go_simp
  with_reducible rfl
 rotate_left
 ·simp only [Act.put, List.setIfInBounds_toArray, List.set_cons_zero, List.set_cons_succ, i64_w, i32_w]
  rfl
 refine pure_ (i := 10) (N := some 23) (v := ?_) (a' := ?_) #[true, true, true, true, true, true, true, true, true, true, true, false, false] rfl rfl (by kernel_rfl) (fun _ _ _ h => h) (Or.inl ⟨by rfl, ?_⟩) ?_ ?_
 rotate_left
 ·intro w'
  go_simp
  with_reducible rfl
 rotate_left
 ·simp only [Act.put, List.setIfInBounds_toArray, List.set_cons_zero, List.set_cons_succ, i64_w, i32_w]
  rfl
 refine one_ (i := 11) (N := some 24) #[true, true, true, true, true, true, true, true, true, true, true, true, false] rfl rfl (by kernel_rfl) (by decide) (fun K hK => ?_)
 refine value_ (w1 := ?_) (v := ?_) (by rfl) rfl ?_ ?_
 rotate_left 2
 ·go_simp
  rw [HW.out, hmk]
  rfl
 refine hK.out _ _ ⟨pw_cell_below (below_alloc (Below.refl _ _) _) hHeld.1, pw_cell_below (below_alloc (Below.refl _ _) _) hHeld.2.1, pw_cell_below (below_alloc (Below.refl _ _) _) hHeld.2.2.1, pw_cell_below (below_alloc (Below.refl _ _) _) hHeld.2.2.2⟩ (fun hHeld => ?_)
 clear hK K
 refine norm_ (a' := ?_) ?_ ?_
 rotate_left
 ·show Act.put _ (some 24) _ = _
  simp only [Act.put, List.setIfInBounds_toArray, List.set_cons_zero, List.set_cons_succ, i64_w, i32_w]
  rfl
 refine pure_ (i := 12) (N := some 7) (v := ?_) (a' := ?_) #[true, true, true, true, true, true, true, true, true, true, true, true, true] rfl rfl (by kernel_rfl) (fun _ _ _ h => h) (Or.inl ⟨by rfl, ?_⟩) ?_ ?_
 rotate_left
 ·intro w'
  go_simp
  with_reducible rfl
 rotate_left
 ·simp only [Act.put, List.setIfInBounds_toArray, List.set_cons_zero, List.set_cons_succ, i64_w, i32_w]
  rfl
 refine done_ (by kernel_rfl) ?_
 have hgw := Dw0.out.size
 have D0 := Aside0.mk (Digs.made w0 (xs.length + ys.length) (by omega))
 have B0 := Aside0.mk (Dw0.out.alloc Dw0.out.size (.cells (madeCells #[.int .u32 0] (xs.length + ys.length)) 85))
 clear Dw0 hmk c0 c1 e0 e1
 generalize w0.alloc (.cells (madeCells #[.int .u32 0] (xs.length + ys.length)) 85) = w1 at hHeld D0 B0 ⊢
 generalize w0.heap.size = g at hgw D0 ⊢
 obtain ⟨c0, c1, e0, e1⟩ := hHeld
 have hxl := World.block_lt_of_cell? w _ HX.out.c0
 have hyl := World.block_lt_of_cell? w _ HY.out.c0
 go_wp2
 go_loopw [30] (fun i wr => ∃ (k : Nat), k ≤ xs.length ∧ i = .int .i64 k ∧
   Aside0 (∃ os, MulRel xs ys k os ∧ Digs wr (.slice (some ⟨g, 0, none⟩) (xs.length + ys.length) (xs.length + ys.length)) os ∧ Below w.heap.size w wr ∧ wr.cell? ⟨x, 0, none⟩ = some (.bool nx) ∧ wr.cell? ⟨y, 0, none⟩ = some (.bool ny) ∧ wr.cell? ⟨y, 1, none⟩ = some (.slice B ys.length d))) (fun i _ => xs.length - (intOf i).toNat)
 case atStart =>
  refine ⟨0, Nat.zero_le _, rfl, ⟨_, MulRel.start xs ys, D0.out, B0.out, ?_, ?_, ?_⟩⟩ <;> assumption
 case round =>
  obtain ⟨k, hk, rfl, ⟨os, hm, hd, hb, q0, q1, q2⟩⟩ := hrel
  have HM := Aside0.mk hm
  have HD := Aside0.mk hd
  have HB := Aside0.mk hb
  clear hm hd hb
  by_cases hlt : k < xs.length
  ·obtain ⟨gx, cx, he, hgx⟩ := HX.out.d.form (by omega)
   obtain ⟨he1, he3⟩ : A = some ⟨gx, 0, none⟩ ∧ c = cx := ⟨(Value.slice.inj he).1, (Value.slice.inj he).2.2⟩
   subst he1 he3
   have hcx := ((HX.out.d.below HB.out).at_ hlt).1
   have hbx := getD_ok HX.out.ok k
   obtain ⟨x0, hxe⟩ : ∃ x0, x0 = xs.getD k 0 := ⟨_, rfl⟩
   rw [← hxe] at hcx hbx
   have HXE := Aside0.mk hxe
   clear hxe he
   go_wp2
   go_loopw [10, 40] (fun ca j wr2 => ∃ (i : Nat) (carry : Int), i ≤ ys.length ∧ ca = .int .u64 carry ∧ j = .int .i64 i ∧ 0 ≤ carry ∧ carry < 4294967296 ∧
     Aside0 (∃ os, MulIn xs ys k i carry os ∧ Digs wr2 (.slice (some ⟨g, 0, none⟩) (xs.length + ys.length) (xs.length + ys.length)) os ∧ Below w.heap.size w wr2 ∧ wr2.cell? ⟨x, 0, none⟩ = some (.bool nx) ∧ wr2.cell? ⟨y, 0, none⟩ = some (.bool ny) ∧ wr2.cell? ⟨y, 1, none⟩ = some (.slice B ys.length d))) (fun _ j _ => ys.length - (intOf j).toNat)
   case atStart => exact ⟨0, 0, Nat.zero_le _, rfl, rfl, by omega, by omega, ⟨_, HM.out.inner, HD.out, HB.out, q0, q1, q2⟩⟩
   case round =>
    obtain ⟨i, carry, hi, rfl, rfl, hc0, hc1, ⟨os2, hm2, hd2, hb2, r0, r1, r2⟩⟩ := hrel
    have HM2 := Aside0.mk hm2
    have HD2 := Aside0.mk hd2
    have HB2 := Aside0.mk hb2
    clear hm2 hd2 hb2
    by_cases hlt2 : i < ys.length
    ·obtain ⟨gy, cy, he, hgy⟩ := HY.out.d.form (by omega)
     obtain ⟨he1, he3⟩ : B = some ⟨gy, 0, none⟩ ∧ d = cy := ⟨(Value.slice.inj he).1, (Value.slice.inj he).2.2⟩
     subst he1 he3
     have hcy := ((HY.out.d.below HB2.out).at_ hlt2).1
     have hsm := HM2.out.small HX.out.ok HY.out.ok hlt2 ⟨hc0, hc1⟩
     have hst := HM2.out.step hlt hlt2 rfl
     obtain ⟨o1, o1f⟩ := HD2.out.at_ (k := k + i) (by rw [HM2.out.len]; omega)
     have hbo := getD_ok HM2.out.ok (k + i)
     have hby := getD_ok HY.out.ok i
     rw [← HXE.out] at hsm hst
     obtain ⟨y0, hye⟩ : ∃ y0, y0 = ys.getD i 0 := ⟨_, rfl⟩
     obtain ⟨z0, hze⟩ : ∃ z0, z0 = os2.getD (k + i) 0 := ⟨_, rfl⟩
     rw [← hye] at hcy hby hsm hst
     rw [← hze] at o1 hbo hsm hst
     have hxy := mul_bound hbx hby
     have hdd := (HD2.out.put (by rw [HM2.out.len]) (k + i) ((carry + x0 * y0 + z0) % 4294967296)).1
     have DD := Aside0.mk hdd
     have ST := Aside0.mk hst
     clear hye hze hst hdd
     have hgr := (HD2.out.put (by rw [HM2.out.len]) (k + i) ((carry + x0 * y0 + z0) % 4294967296)).2
     have hne : ∀ b : Nat, b < w.heap.size → some b ≠ some g := fun b hb e => by injection e with e; omega
     have BB := Aside0.mk (And.intro (HB2.out.setCell (show w.heap.size ≤ (⟨g, k + i, none⟩ : Addr).block from hgw) (.int .u32 ((carry + x0 * y0 + z0) % 4294967296))) (And.intro (hgr.cell r0 (hne _ hxl)) (And.intro (hgr.cell r1 (hne _ hyl)) (hgr.cell r2 (hne _ hyl)))))
     clear hgr hne
     go_wp2
     go_roundw
     case rel =>
      rw [show carry + (x0 * y0 + z0) = carry + x0 * y0 + z0 from by omega]
      exact ⟨i + 1, _, by omega, rfl, by go_num, by omega, by omega, ⟨_, ST.out, DD.out, BB.out⟩⟩
     case measure => simp [intOf]; omega
    ·obtain rfl : i = ys.length := by omega
     obtain ⟨o, o1, o1f⟩ : ∃ o, wr.cell? ⟨g, k + ys.length, none⟩ = some (Value.int .u32 o) ∧ wr.frozen? ⟨g, k + ys.length, none⟩ = false := ⟨_, HD2.out.at_ (k := k + ys.length) (by rw [HM2.out.len]; omega)⟩
     have DD := Aside0.mk (HD2.out.put (by rw [HM2.out.len]) (k + ys.length) carry).1
     have hgr := (HD2.out.put (by rw [HM2.out.len]) (k + ys.length) carry).2
     have hne : ∀ b : Nat, b < w.heap.size → some b ≠ some g := fun b hb e => by injection e with e; omega
     have BB := Aside0.mk (And.intro (HB2.out.setCell (show w.heap.size ≤ (⟨g, k + ys.length, none⟩ : Addr).block from hgw) (.int .u32 carry)) (And.intro (hgr.cell r0 (hne _ hxl)) (And.intro (hgr.cell r1 (hne _ hyl)) (hgr.cell r2 (hne _ hyl)))))
     clear hgr hne
     go_wp2
     go_roundw
     case rel => exact ⟨k + 1, by omega, by go_num, ⟨_, HM2.out.done hlt ⟨hc0, hc1⟩, DD.out, BB.out⟩⟩
     case measure => simp [intOf]; omega
  ·obtain rfl : k = xs.length := by omega
   go_wp2_with fail
   refine start_ (n := 13) (S := fun w' => w'.cell? ⟨x, 0, none⟩ = some (.bool nx) ∧ w'.cell? ⟨y, 0, none⟩ = some (.bool ny)) (ds := [11]) #[false, false, false, false, false, false, false, false, false, false, false, false, false] (by kernel_rfl) rfl rfl ⟨q0, q1⟩ (fun hHeld => ?_)
   have Dw2 := Aside0.mk ((Below.refl wr.heap.size wr).drew)
   generalize wr.drew = w2 at hHeld Dw2 ⊢
   refine pure_ (i := 0) (N := some 82) (v := ?_) (a' := ?_) #[true, false, false, false, false, false, false, false, false, false, false, false, false] rfl rfl (by kernel_rfl) (fun _ _ _ h => h) (Or.inl ⟨by rfl, ?_⟩) ?_ ?_
   rotate_left
   ·intro w'
    go_simp
    with_reducible rfl
   rotate_left
   ·simp only [Act.put, List.setIfInBounds_toArray, List.set_cons_zero, List.set_cons_succ, i64_w, i32_w]
    rfl
   refine pure_ (i := 1) (N := some 83) (v := ?_) (a' := ?_) #[true, true, false, false, false, false, false, false, false, false, false, false, false] rfl rfl (by kernel_rfl) (fun _ _ _ h => h) (Or.inl ⟨by rfl, ?_⟩) ?_ ?_
   rotate_left
   ·intro w'
    go_simp
    with_reducible rfl
   rotate_left
   ·simp only [Act.put, List.setIfInBounds_toArray, List.set_cons_zero, List.set_cons_succ, i64_w, i32_w]
    rfl
   refine pure_ (i := 2) (N := some 84) (v := ?_) (a' := ?_) #[true, true, true, false, false, false, false, false, false, false, false, false, false] rfl rfl (by kernel_rfl) (fun _ _ _ h => h) (Or.inl ⟨by rfl, ?_⟩) ?_ ?_
   rotate_left
   ·intro w'
    go_simp
    with_reducible rfl
   rotate_left
   ·simp only [Act.put, List.setIfInBounds_toArray, List.set_cons_zero, List.set_cons_succ, i64_w, i32_w]
    rfl
   refine pure_ (i := 3) (N := some 85) (v := ?_) (a' := ?_) #[true, true, true, true, false, false, false, false, false, false, false, false, false] rfl rfl (by kernel_rfl) (fun _ _ _ h => h) (Or.inl ⟨by rfl, ?_⟩) ?_ ?_
   rotate_left
   ·intro w'
    go_simp
    with_reducible rfl
   rotate_left
   ·simp only [Act.put, List.setIfInBounds_toArray, List.set_cons_zero, List.set_cons_succ, i64_w, i32_w]
    rfl
   refine pure_ (i := 5) (N := some 87) (v := ?_) (a' := ?_) #[true, true, true, true, false, true, false, false, false, false, false, false, false] rfl rfl (by kernel_rfl) (fun _ _ _ h => h) (Or.inl ⟨by rfl, ?_⟩) ?_ ?_
   rotate_left
   ·intro w'
    go_simp
    with_reducible rfl
   rotate_left
   ·simp only [Act.put, List.setIfInBounds_toArray, List.set_cons_zero, List.set_cons_succ, i64_w, i32_w]
    rfl
   refine pure_ (i := 6) (N := some 88) (v := ?_) (a' := ?_) #[true, true, true, true, false, true, true, false, false, false, false, false, false] rfl rfl (by kernel_rfl) (fun _ _ _ h => h) (Or.inl ⟨by rfl, ?_⟩) ?_ ?_
   rotate_left
   ·intro w'
    go_simp
    with_reducible rfl
   rotate_left
   ·simp only [Act.put, List.setIfInBounds_toArray, List.set_cons_zero, List.set_cons_succ, i64_w, i32_w]
    rfl
   refine pure_ (i := 7) (N := some 89) (v := ?_) (a' := ?_) #[true, true, true, true, false, true, true, true, false, false, false, false, false] rfl rfl (by kernel_rfl) (fun _ _ _ h => h) (Or.inl ⟨by rfl, ?_⟩) ?_ ?_
   rotate_left
   ·intro w'
    go_simp
    with_reducible rfl
   rotate_left
   ·simp only [Act.put, List.setIfInBounds_toArray, List.set_cons_zero, List.set_cons_succ, i64_w, i32_w]
    rfl
   refine pure_ (i := 10) (N := some 92) (v := ?_) (a' := ?_) #[true, true, true, true, false, true, true, true, false, false, true, false, false] rfl rfl (by kernel_rfl) (fun _ _ _ h => h) (Or.inl ⟨by rfl, ?_⟩) ?_ ?_
   rotate_left
   ·intro w'
    go_simp
    with_reducible rfl
   rotate_left
   ·simp only [Act.put, List.setIfInBounds_toArray, List.set_cons_zero, List.set_cons_succ, i64_w, i32_w]
    rfl
   refine take_ (i := 4) (N := some 86) (v := ?_) (a' := ?_) #[true, true, true, true, true, true, true, true, false, false, true, false, false] rfl rfl (by kernel_rfl) (fun _ _ _ h => h) (Or.inl ⟨by rfl, ?_⟩) hHeld ?_ ?_
   rotate_left
   ·rintro w' ⟨s0, s1⟩
    go_simp
    with_reducible rfl
   rotate_left
   ·simp only [Act.put, List.setIfInBounds_toArray, List.set_cons_zero, List.set_cons_succ, i64_w, i32_w]
    rfl
   refine take_ (i := 8) (N := some 90) (v := ?_) (a' := ?_) #[true, true, true, true, true, true, true, true, true, false, true, false, false] rfl rfl (by kernel_rfl) (fun _ _ _ h => h) (Or.inl ⟨by rfl, ?_⟩) hHeld ?_ ?_
   rotate_left
   ·rintro w' ⟨s0, s1⟩
    go_simp
    with_reducible rfl
   rotate_left
   ·simp only [Act.put, List.setIfInBounds_toArray, List.set_cons_zero, List.set_cons_succ, i64_w, i32_w]
    rfl
   refine pure_ (i := 9) (N := some 91) (v := ?_) (a' := ?_) #[true, true, true, true, true, true, true, true, true, true, true, false, false] rfl rfl (by kernel_rfl) (fun _ _ _ h => h) (Or.inl ⟨by rfl, ?_⟩) ?_ ?_
   rotate_left
   ·intro w'
    go_simp
    with_reducible rfl
   rotate_left
   ·simp only [Act.put, List.setIfInBounds_toArray, List.set_cons_zero, List.set_cons_succ, i64_w, i32_w]
    rfl
   refine last_ (i := 11) (N := some 93) #[true, true, true, true, true, true, true, true, true, true, true, true, false] rfl rfl (by kernel_rfl) (by decide) (fun K hK => ?_)
   have Hw2 := Aside0.mk (HB.out.trans (Dw2.out.mono HB.out.size))
   refine goes_ Tryd.func83 (by kernel_rfl) rfl #[.pointer (some ⟨z, 0, none⟩), .bool (nx != ny), .slice (some ⟨g, 0, none⟩) (xs.length + ys.length) (xs.length + ys.length)] (by rfl) rfl rfl (by simp only [List.map_toArray, List.map_cons, List.map_nil]; rfl) ?_
   with_reducible refine (put_big z (nx != ny) _ os _ (HZ.out.below Hw2.out) (HD.out.below Dw2.out) HM.out.ok).mono ?_
   rintro e w3 ⟨rfl, hb3, hg3⟩
   refine ⟨_, rfl, ?_⟩
   refine hK.out _ _ ?_
   clear hK K
   refine norm_ (a' := ?_) ?_ ?_
   rotate_left
   ·show Act.put _ (some 93) _ = _
    simp only [Act.put, List.setIfInBounds_toArray, List.set_cons_zero, List.set_cons_succ, i64_w, i32_w]
    rfl
   refine pure_ (i := 12) (N := some 6) (v := ?_) (a' := ?_) #[true, true, true, true, true, true, true, true, true, true, true, true, true] rfl rfl (by kernel_rfl) (fun _ _ _ h => h) (Or.inl ⟨by rfl, ?_⟩) ?_ ?_
   rotate_left
   ·intro w'
    go_simp
    with_reducible rfl
   rotate_left
   ·simp only [Act.put, List.setIfInBounds_toArray, List.set_cons_zero, List.set_cons_succ, i64_w, i32_w]
    rfl
   refine done_ (by kernel_rfl) ?_
   have HG := Aside0.mk (below_z Hw2.out hg3)
   have HBB := Aside0.mk hb3
   clear hb3 hg3
   try go_wp2
   go_ret
   refine ⟨rfl, ?_, HG.out⟩
   have h := HBB.out
   rw [bval_mul HM.out.done, HM.out.len] at h
   exact h
theorem mul_calls (z x y : Nat) (n k : Int) (m m' : Nat) (w : World) (hz : IsBig w z) (hx : Big w x n m) (hm : m ≤ 1000000) (hy : Big w y k m') (hm' : m' ≤ 1000000) :
  Calls Tryd.prog 48 #[.pointer (some ⟨z, 0, none⟩), .pointer (some ⟨x, 0, none⟩), .pointer (some ⟨y, 0, none⟩)] w fun e w' => e = .returned (.pointer (some ⟨z, 0, none⟩)) ∧ Big w' z (n * k) (m + m') ∧ w.grownBy w' (some z) := by
 obtain ⟨nx, xs, A, c, hxo, rfl, hlx⟩ := hx.opd hm
 obtain ⟨ny, ys, B, d, hyo, rfl, hly⟩ := hy.opd hm'
 refine (mul_walk z x y nx ny xs ys A B c d w hz hxo hyo).mono ?_
 rintro e w' ⟨h1, h2, h3⟩
 exact ⟨h1, h2.more (by omega), h3⟩
end Go.Proofs.YtlkomiiijhphnaaDoor.Big
namespace Go.Proofs.YtlkomiiijhphnaaDoor.Big
open Go.RowKit Go.Proofs.YtlkomiiijhphnaaDoorW.PrintWords Go.Proofs.YtlkomiiijhphnaaDoorW.PrintLast Go.Proofs.YtlkomiiijhphnaaDoorW.PrintMore Go.Proofs.YtlkomiiijhphnaaDoor.Math
set_option linter.unusedVariables false
set_option linter.unusedSimpArgs false
def Own (w : World) (base : Nat) (v : Value) (xs : List Int) : Prop := w.ownsRow base 85 1 v xs.length (nums .u32 xs)
theorem Own.digs {w : World} {base : Nat} {v : Value} {xs : List Int} (h : Own w base v xs) : Digs w v xs := own_weaken h (Nat.zero_le _)
theorem Own.below {w w1 : World} {base : Nat} {v : Value} {xs : List Int} (h : Own w base v xs) (hb : Below w.heap.size w w1) : Own w1 base v xs := pw_own_below h hb
theorem Own.empty (w : World) {base : Nat} (hb : base ≤ w.heap.size) : Own (w.alloc (.cells #[] 85)) base (.slice (some ⟨w.heap.size, 0, none⟩) 0 0) [] :=
 own_lit w base 85 .u32 [] hb (by simp)
set_option maxRecDepth 100000 in
set_option maxHeartbeats 4000000 in
theorem rsh_pos (z x n : Nat) (xs : List Int) (A : Option Addr) (c : Nat) (w : World) (hz : IsBig w z) (hx : Opd w x false xs A c) (hn : n ≤ 1000000) :
  Calls Tryd.prog 87 #[.pointer (some ⟨z, 0, none⟩), .pointer (some ⟨x, 0, none⟩), .int .u64 n] w fun e w' => e = .returned (.pointer (some ⟨z, 0, none⟩)) ∧ Big w' z (val xs / 2 ^ n) xs.length ∧ w.grownBy w' (some z) := by
 have HZ := Aside0.mk hz
 have HX := Aside0.mk hx
 obtain ⟨c0, c1, -, -, -, -, hlen⟩ := hx
 clear hz
 have c1' := fun o => pw_cell_below (below_alloc (Below.refl w.heap.size w) o) c1
 have D0 := Aside0.mk (Own.empty w (Nat.le_refl _))
 go_enter Tryd.func87, Tryd.ntmps87
 go_wp2
 have hr : n % 32 ≤ 31 := by omega
 go_loopw [8, 10] (fun out i wr => ∃ (k : Nat), n / 32 ≤ k ∧ i = .int .i64 k ∧ k ≤ 2000000 ∧
   Aside0 (∃ ds, RshRel xs (n % 32) (n / 32) k ds ∧ Own wr w.heap.size out ds ∧ Below w.heap.size w wr ∧ k - n / 32 ≤ xs.length)) (fun _ i _ => xs.length - (intOf i).toNat)
 case atStart => exact ⟨n / 32, Nat.le_refl _, by go_num, by omega, ⟨[], RshRel.start _ _ _, D0.out, (Below.refl _ _).alloc (Nat.le_refl _) _, by omega⟩⟩
 case round =>
  obtain ⟨k, hk, rfl, hk2, ⟨ds, hrl, hdg, hbl, hm⟩⟩ := hrel
  have hdl := hrl.len
  have HR := Aside0.mk hrl
  have HD := Aside0.mk hdg
  have HB := Aside0.mk hbl
  have k0 := pw_cell_below hbl c0
  have k1 := pw_cell_below hbl c1
  have HDL := Aside0.mk hdl
  clear hrl hdg hbl hdl
  by_cases hlt : k < xs.length
  ·obtain ⟨g, c', he, hg⟩ := HX.out.d.form (by omega)
   obtain ⟨he1, he3⟩ : A = some ⟨g, 0, none⟩ ∧ c = c' := ⟨(Value.slice.inj he).1, (Value.slice.inj he).2.2⟩
   subst he1 he3
   have hcx := ((HX.out.d.below HB.out).at_ hlt).1
   have hbx := getD_ok HX.out.ok k
   obtain ⟨x0, hxe⟩ : ∃ x0, x0 = xs.getD k 0 := ⟨_, rfl⟩
   rw [← hxe] at hcx hbx
   have HXE := Aside0.mk hxe
   clear hxe he
   by_cases hlt2 : k + 1 < xs.length
   ·have hcy := ((HX.out.d.below HB.out).at_ hlt2).1
    have hby := getD_ok HX.out.ok (k + 1)
    obtain ⟨y0, hye⟩ : ∃ y0, y0 = xs.getD (k + 1) 0 := ⟨_, rfl⟩
    rw [← hye] at hcy hby
    have HYE := Aside0.mk hye
    clear hye
    go_wp2_with (((with_reducible refine gate_builtin (b := .append) (xs := #[.tmp 65, .tmp 71]) rfl ?_); at_builtin; refine print_append_num (w0 := w) w.heap.size rfl (.tmp 65) (.tmp 71) 46 85 .u32 4 rfl Tryd.underlying46 info32 (by decide) u8 ds (bits BinOp.or IntKind.u64 x0 (y0 * 4294967296) / 2 ^ (n % 32) % 4294967296) rfl rfl ?aO ?aB ?aS ?aL ?_; (case aO => exact HD.out); (case aB => exact HB.out); (case aS => exact HB.out.size); (case aL => have := HDL.out; omega); intro v1 w1 ho hb hg hat; have HO := Aside0.mk ho; have HB1 := Aside0.mk hb; clear ho hb hg hat))
    go_roundw
    case rel => exact ⟨k + 1, by omega, by go_num, by omega, ⟨_, HR.out.step HX.out.ok hr hk hlt (by rw [or_two _ _ hbx hby, HXE.out, HYE.out]), HO.out, HB1.out, by omega⟩⟩
    case measure => simp [intOf]; omega
   ·have hge := Aside0.mk (show xs.getD (k + 1) 0 = 0 from by rw [List.getD_eq_getElem?_getD, List.getElem?_eq_none (by omega)]; rfl)
    go_wp2_with (((with_reducible refine gate_builtin (b := .append) (xs := #[.tmp 65, .tmp 71]) rfl ?_); at_builtin; refine print_append_num (w0 := w) w.heap.size rfl (.tmp 65) (.tmp 71) 46 85 .u32 4 rfl Tryd.underlying46 info32 (by decide) u8 ds (x0 / 2 ^ (n % 32) % 4294967296) rfl rfl ?aO ?aB ?aS ?aL ?_; (case aO => exact HD.out); (case aB => exact HB.out); (case aS => exact HB.out.size); (case aL => have := HDL.out; omega); intro v1 w1 ho hb hg hat; have HO := Aside0.mk ho; have HB1 := Aside0.mk hb; clear ho hb hg hat))
    go_roundw
    case rel => exact ⟨k + 1, by omega, by go_num, by omega, ⟨_, HR.out.step HX.out.ok hr hk hlt (by rw [hge.out, ← HXE.out, Int.mul_zero, Int.add_zero]), HO.out, HB1.out, by omega⟩⟩
    case measure => simp [intOf]; omega
  ·clear c0 c1 c1'
   go_wp2_with fail
   refine (put_big z false _ _ _ (HZ.out.below HB.out) HD.out.digs HR.out.ok).mono ?_
   rintro e w' ⟨rfl, hb, hg⟩
   have HB2 := Aside0.mk hb
   have HG := Aside0.mk (below_z HB.out hg)
   clear hb hg
   go_wp2
   go_ret
   refine ⟨rfl, ?_, HG.out⟩
   have h := HB2.out
   have hv := HR.out.done HX.out.ok (by omega)
   rw [show 32 * (n / 32) + n % 32 = n from by omega] at hv
   rw [show bval false ds = val xs / 2 ^ n from hv] at h
   exact h.more (by rw [HDL.out]; exact hm)
theorem rsh_calls (z x n : Nat) (k : Int) (m : Nat) (w : World) (hz : IsBig w z) (hx : Big w x k m) (hm : m ≤ 1000000) (hk : 0 ≤ k) (hn : n ≤ 1000000) :
  Calls Tryd.prog 87 #[.pointer (some ⟨z, 0, none⟩), .pointer (some ⟨x, 0, none⟩), .int .u64 n] w fun e w' => e = .returned (.pointer (some ⟨z, 0, none⟩)) ∧ Big w' z (k / 2 ^ n) m ∧ w.grownBy w' (some z) := by
 obtain ⟨nx, xs, A, c, hxo, rfl, hlx⟩ := hx.opd hm
 cases nx
 ·refine (rsh_pos z x n xs A c w hz hxo hn).mono ?_
  rintro e w' ⟨h1, h2, h3⟩
  exact ⟨h1, h2.more (by omega), h3⟩
 ·exfalso
  have h1 := hxo.ne rfl
  have h2 := val_ge hxo.ok hxo.ti h1
  have h3 := pow_pos' (xs.length - 1)
  simp only [bval, if_true] at hk
  omega
end Go.Proofs.YtlkomiiijhphnaaDoor.Big
namespace Go.Proofs.YtlkomiiijhphnaaDoor.Big
open Go.RowKit Go.Proofs.YtlkomiiijhphnaaDoorW.PrintWords Go.Proofs.YtlkomiiijhphnaaDoorW.PrintLast Go.Proofs.YtlkomiiijhphnaaDoorW.PrintMore Go.Proofs.YtlkomiiijhphnaaDoor.Math
set_option linter.unusedVariables false
set_option linter.unusedSimpArgs false
def wfit (n : Int) : Int × List Int × Int := if blen n ≤ 4800 then (sgn n, limbs n.natAbs, 0) else (0, [], 3)
structure WhAt (w wr : World) (sg : Int) (o r : Nat) (rest : Int) (m : Nat) (v : Value) (ls : List Int) : Prop where
 lo : Below w.heap.size w wr
 res : wr.heap[w.heap.size]? = some (.cells #[.int .i64 0, .slice none 0 0] 26 (0, 0))
 ob : wr.heap[o]? = some (.cells #[.int .i64 sg, v] 26 (0, 0))
 row : wr.ownsRow w.heap.size 2 1 v ls.length (nums .i64 ls)
 big : Big wr r rest m
 oh : w.heap.size < o
 rh : w.heap.size ≤ r
theorem whole_ne_big {w : World} {b p : Nat} {cs : Array Value} {f : Nat × Nat} (h : w.heap[b]? = some (.cells cs 26 f)) (hp : IsBig w p) : b ≠ p := by
 rintro rfl
 obtain ⟨n, u, hz⟩ := hp
 rw [hz] at h
 injection h with h
 injection h with _ h
 exact absurd h (by decide)
theorem row_grown {w w1 : World} {base : Nat} {v : Value} {n : Nat} {xs : List Value} {z : Nat} (h : w.ownsRow base 2 1 v n xs) (hg : w.grownBy w1 (some z)) (hz : IsBig w z) : w1.ownsRow base 2 1 v n xs := by
 obtain ⟨n, u, hz⟩ := hz
 refine own_move h (fun k hk => ?_)
 obtain ⟨cells, hc⟩ := own_typed h k hk
 refine hg.block k (own_lt h k hk) ?_
 rintro e
 injection e with e
 subst e
 rw [hc] at hz
 injection hz with hz
 injection hz with _ hz
 exact absurd hz (by decide)
theorem WhAt.below {w wr w1 : World} {sg : Int} {o r : Nat} {rest : Int} {m : Nat} {v : Value} {ls : List Int} (h : WhAt w wr sg o r rest m v ls) (hb : Below wr.heap.size wr w1) : WhAt w w1 sg o r rest m v ls :=
 ⟨h.lo.trans (hb.mono h.lo.size), blk_below h.res hb, blk_below h.ob hb, pw_own_below h.row hb, h.big.below hb, h.oh, h.rh⟩
theorem WhAt.grown {w wr w1 : World} {sg : Int} {o r p : Nat} {rest : Int} {m : Nat} {v : Value} {ls : List Int} (h : WhAt w wr sg o r rest m v ls) (hg : wr.grownBy w1 (some p)) (hp : IsBig wr p) (hr : r ≠ p) (hw : w.heap.size ≤ p) : WhAt w w1 sg o r rest m v ls :=
 ⟨below_of_grown h.lo hg hw, blk_grown h.res hg (fun e => whole_ne_big h.res hp (Option.some.inj e)), blk_grown h.ob hg (fun e => whole_ne_big h.ob hp (Option.some.inj e)), row_grown h.row hg hp, h.big.grown hg hp hr, h.oh, h.rh⟩
theorem WhAt.cells {w wr : World} {sg : Int} {o r : Nat} {rest : Int} {m : Nat} {v : Value} {ls : List Int} (h : WhAt w wr sg o r rest m v ls) :
  wr.cell? ⟨o, 0, none⟩ = some (.int .i64 sg) ∧ wr.cell? ⟨o, 1, none⟩ = some v ∧ wr.frozen? ⟨o, 1, none⟩ = false :=
 ⟨(blk_cell h.ob 0).trans rfl, (blk_cell h.ob 1).trans rfl, blk_frozen h.ob 1⟩
theorem WhAt.ends {w wr : World} {sg : Int} {o r : Nat} {rest : Int} {m : Nat} {v : Value} {ls : List Int} (h : WhAt w wr sg o r rest m v ls) :
  wr.cell? ⟨w.heap.size, 0, none⟩ = some (.int .i64 0) ∧ wr.cell? ⟨w.heap.size, 1, none⟩ = some (.slice none 0 0) ∧ wr.frozen? ⟨w.heap.size, 0, none⟩ = false ∧ wr.frozen? ⟨w.heap.size, 1, none⟩ = false :=
 ⟨(blk_cell h.res 0).trans rfl, (blk_cell h.res 1).trans rfl, blk_frozen h.res 0, blk_frozen h.res 1⟩
theorem limbs_step {n : Int} (h : 0 < n) : limbs n.natAbs = (n % 16777216) :: limbs (n / 16777216).natAbs := by
 rw [limbs_pos (by omega)]
 congr 1
 ·omega
 ·congr 1
  omega
theorem is_new2 (w : World) (o : Obj) : IsBig ((w.alloc o).alloc (.cells #[.bool false, .slice none 0 0] 48)) (w.heap.size + 1) := ⟨false, .slice none 0 0, by simpa using heap_alloc_new (w.alloc o) (.cells #[.bool false, .slice none 0 0] 48)⟩
theorem is_new (w : World) : IsBig (w.alloc (.cells #[.bool false, .slice none 0 0] 48)) w.heap.size := ⟨false, .slice none 0 0, heap_alloc_new w _⟩
theorem info64 : (Tryd.prog.info? 2).map (fun i => (i.zero, i.size, i.bytes)) = some (some (.int .i64 0), 1, 8) := by kernel_rfl
theorem Digs.other {w w1 : World} {v : Value} {xs : List Int} {row : Option Nat} (h : Digs w v xs) (hg : w.grownBy w1 row) (hr : ∀ k, row = some k → ∃ cs, w.heap[k]? = some (.cells cs 2 (0, 0))) : Digs w1 v xs := by
 refine own_move h (fun k hk => ?_)
 obtain ⟨cells, hc⟩ := own_typed h k hk
 refine hg.block k (own_lt h k hk) ?_
 intro e
 obtain ⟨cs, hz⟩ := hr k e.symm
 rw [hc] at hz
 injection hz with hz
 injection hz with _ hz
 exact absurd hz (by decide)
theorem Big.other {w w1 : World} {b : Nat} {n : Int} {m : Nat} {row : Option Nat} (h : Big w b n m) (hg : w.grownBy w1 row) (hr : ∀ k, row = some k → ∃ cs, w.heap[k]? = some (.cells cs 2 (0, 0))) : Big w1 b n m := by
 obtain ⟨neg, xs, ⟨v, hb, hd⟩, rest⟩ := h
 refine ⟨neg, xs, ⟨v, (hg.block b (Array.getElem?_eq_some_iff.1 hb).1 ?_).trans hb, hd.other hg hr⟩, rest⟩
 intro e
 obtain ⟨cs, hz⟩ := hr b e.symm
 rw [hb] at hz
 injection hz with hz
 injection hz with _ hz
 exact absurd hz (by decide)
theorem whole_other {w w1 : World} {b : Nat} {cells : Array Value} {row : Option Nat} (h : w.heap[b]? = some (.cells cells 26 (0, 0))) (hg : w.grownBy w1 row) (hr : ∀ k, row = some k → ∃ cs, w.heap[k]? = some (.cells cs 2 (0, 0))) : w1.heap[b]? = some (.cells cells 26 (0, 0)) := by
 refine (hg.block b (Array.getElem?_eq_some_iff.1 h).1 ?_).trans h
 intro e
 obtain ⟨cs, hz⟩ := hr b e.symm
 rw [h] at hz
 injection hz with hz
 injection hz with _ hz
 exact absurd hz (by decide)
structure W6 (w : World) (sg : Int) (o r h : Nat) (rest hi : Int) (m : Nat) (v : Value) (ls : List Int) (w' : World) : Prop where
 at_ : WhAt w w' sg o r rest m v ls
 big : Big w' h hi m
 hh : w.heap.size ≤ h
theorem W6.below {w wr w1 : World} {sg : Int} {o r h : Nat} {rest hi : Int} {m : Nat} {v : Value} {ls : List Int} (H : W6 w sg o r h rest hi m v ls wr) (hb : Below wr.heap.size wr w1) : W6 w sg o r h rest hi m v ls w1 :=
 ⟨H.at_.below hb, H.big.below hb, H.hh⟩
theorem W6.alloc {w wr : World} {sg : Int} {o r h : Nat} {rest hi : Int} {m : Nat} {v : Value} {ls : List Int} (H : W6 w sg o r h rest hi m v ls wr) (ob : Obj) : W6 w sg o r h rest hi m v ls (wr.alloc ob) := H.below (below_alloc (Below.refl _ _) _)
theorem W6.grown {w wr w1 : World} {sg : Int} {o r h p : Nat} {rest hi : Int} {m : Nat} {v : Value} {ls : List Int} (H : W6 w sg o r h rest hi m v ls wr) (hg : wr.grownBy w1 (some p)) (hp : IsBig wr p) (hr : r < p) (hq : h < p) : W6 w sg o r h rest hi m v ls w1 :=
 ⟨H.at_.grown hg hp (Nat.ne_of_lt hr) (Nat.le_trans H.at_.rh (Nat.le_of_lt hr)), H.big.grown hg hp (Nat.ne_of_lt hq), H.hh⟩
theorem W6.cell {w wr : World} {sg : Int} {o r h : Nat} {rest hi : Int} {m : Nat} {v : Value} {ls : List Int} (H : W6 w sg o r h rest hi m v ls wr) : wr.cell? ⟨o, 1, none⟩ = some v := H.at_.cells.2.1
structure W7 (w w5 : World) (sg : Int) (o r h : Nat) (rest hi : Int) (m : Nat) (v : Value) (ls : List Int) (p q : Nat) (w' : World) : Prop where
 s : W6 w sg o r h rest hi m v ls w'
 bp : IsBig w' p
 bq : Big w' q (hi * 2 ^ 24) (m + 24 / 32 + 1)
 ne : q ≠ p
 hp : w5.heap.size ≤ p
 hq : w5.heap.size ≤ q
theorem new_lt {w : World} {ob : Obj} : w.heap.size < (w.alloc ob).heap.size := by simp
theorem W7.a {w w5 w6 : World} {sg : Int} {o r h : Nat} {rest hi : Int} {m : Nat} {v : Value} {ls : List Int} (H : W6 w sg o r h rest hi m v ls w5)
  (hb : Big w6 (w5.heap.size + 1) (hi * 2 ^ 24) (m + 24 / 32 + 1)) (hg : ((w5.alloc (.cells #[.bool false, .slice none 0 0] 48)).alloc (.cells #[.bool false, .slice none 0 0] 48)).grownBy w6 (some (w5.heap.size + 1))) :
  W7 w w5 sg o r h rest hi m v ls w5.heap.size (w5.heap.size + 1) w6 := by
 have e : (w5.alloc (.cells #[.bool false, .slice none 0 0] 48)).heap.size = w5.heap.size + 1 := by simp
 rw [← e] at hb hg ⊢
 exact ⟨((H.alloc _).alloc _).grown hg (is_new _) (Nat.lt_trans H.at_.big.lt new_lt) (Nat.lt_trans H.big.lt new_lt), ((is_new _).alloc _).grown hg (Nat.ne_of_lt new_lt), hb, Nat.ne_of_gt new_lt, Nat.le_refl _, Nat.le_of_lt new_lt⟩
theorem W7.b {w w5 w6 : World} {sg : Int} {o r h : Nat} {rest hi : Int} {m : Nat} {v : Value} {ls : List Int} (H : W6 w sg o r h rest hi m v ls w5)
  (hb : Big w6 w5.heap.size (hi * 2 ^ 24) (m + 24 / 32 + 1)) (hg : ((w5.alloc (.cells #[.bool false, .slice none 0 0] 48)).alloc (.cells #[.bool false, .slice none 0 0] 48)).grownBy w6 (some w5.heap.size)) :
  W7 w w5 sg o r h rest hi m v ls (w5.heap.size + 1) w5.heap.size w6 := by
 have e : (w5.alloc (.cells #[.bool false, .slice none 0 0] 48)).heap.size = w5.heap.size + 1 := by simp
 rw [← e]
 exact ⟨((H.alloc _).alloc _).grown hg ((is_new _).alloc _) H.at_.big.lt H.big.lt, (is_new _).grown hg (Nat.ne_of_gt new_lt), hb, Nat.ne_of_lt new_lt, Nat.le_of_lt new_lt, Nat.le_refl _⟩
theorem W7.c {w w5 w6 : World} {sg : Int} {o r h : Nat} {rest hi : Int} {m : Nat} {v : Value} {ls : List Int} (H : W6 w sg o r h rest hi m v ls w5)
  (hb : Big w6 w5.heap.size (hi * 2 ^ 24) (m + 24 / 32 + 1)) (hg : (w5.alloc (.cells #[.bool false, .slice none 0 0] 48)).grownBy w6 (some w5.heap.size)) :
  W7 w w5 sg o r h rest hi m v ls w6.heap.size w5.heap.size (w6.alloc (.cells #[.bool false, .slice none 0 0] 48)) :=
 ⟨((H.alloc _).grown hg (is_new _) H.at_.big.lt H.big.lt).alloc _, is_new _, hb.below (below_alloc (Below.refl _ _) _), Nat.ne_of_lt (Nat.lt_of_lt_of_le new_lt hg.size), Nat.le_of_lt (Nat.lt_of_lt_of_le new_lt hg.size), Nat.le_refl _⟩
theorem W6.next {w wa w9 : World} {sg : Int} {o r h : Nat} {rest hi : Int} {m : Nat} {v v1 : Value} {ls : List Int} {t : Int} (H : W6 w sg o r h rest hi m v ls wa)
  (ho : w9.ownsRow w.heap.size 2 1 v1 (ls.length + 1) (nums .i64 ls ++ [.int .i64 t])) (hb : Below w.heap.size w w9) (hg : wa.grownBy w9 v.ownBlock) :
  WhAt w (w9.setCell ⟨o, 1, none⟩ v1) sg o h hi m v1 (ls ++ [t]) := by
 have hr : ∀ k, v.ownBlock = some k → ∃ cs, wa.heap[k]? = some (.cells cs 2 (0, 0)) := fun k hk => own_typed H.at_.row k hk
 have hob := whole_other H.at_.ob hg hr
 have hres := whole_other H.at_.res hg hr
 have hbig := H.big.other hg hr
 have hoh := H.at_.oh
 have hset : w9.grownBy (w9.setCell ⟨o, 1, none⟩ v1) (some o) := grownBy_store _ _ _ _
 have hrow : w9.ownsRow w.heap.size 2 1 v1 (ls ++ [t]).length (nums .i64 (ls ++ [t])) := by
  have e : nums .i64 (ls ++ [t]) = nums .i64 ls ++ [.int .i64 t] := by simp [nums]
  rw [e, List.length_append, List.length_singleton]
  exact ho
 have notbig : ∀ k cs, w9.heap[k]? = some (.cells cs 48 (0, 0)) → some k ≠ some o := fun k cs hk e => by
  injection e with e
  subst e
  rw [hob] at hk
  injection hk with hk
  injection hk with _ hk
  exact absurd hk (by decide)
 refine ⟨hb.setCell (show w.heap.size ≤ (⟨o, 1, none⟩ : Addr).block from Nat.le_of_lt hoh) _, blk_grown hres hset (fun e => Nat.ne_of_lt hoh (Option.some.inj e)), blk_put (cs := #[.int .i64 sg, v]) hob 1 _ rfl, ?_, ?_, hoh, H.hh⟩
 ·refine own_move hrow (fun k hk => ?_)
  obtain ⟨cells, hc⟩ := own_typed hrow k hk
  refine hset.block k (own_lt hrow k hk) ?_
  intro e
  injection e with e
  subst e
  rw [hob] at hc
  injection hc with hc
  injection hc with _ hc
  exact absurd hc (by decide)
 ·obtain ⟨neg, xs, ⟨u, hb2, hd⟩, restp⟩ := hbig
  refine ⟨neg, xs, ⟨u, (hset.block h (Array.getElem?_eq_some_iff.1 hb2).1 (notbig _ _ hb2)).trans hb2, ?_⟩, restp⟩
  refine own_move hd (fun k hk => ?_)
  obtain ⟨cells, hc⟩ := own_typed hd k hk
  refine hset.block k (own_lt hd k hk) ?_
  intro e
  injection e with e
  subst e
  rw [hob] at hc
  injection hc with hc
  injection hc with _ hc
  exact absurd hc (by decide)
theorem row_store {w : World} {base b i : Nat} {v u : Value} {n : Nat} {xs : List Value} {cs : Array Value} (h : w.ownsRow base 2 1 v n xs) (hb : w.heap[b]? = some (.cells cs 26 (0, 0))) : (w.setCell ⟨b, i, none⟩ u).ownsRow base 2 1 v n xs := by
 refine own_move h (fun k hk => ?_)
 obtain ⟨cells, hc⟩ := own_typed h k hk
 refine (grownBy_store w b i u).block k (own_lt h k hk) ?_
 intro e
 injection e with e
 subst e
 rw [hb] at hc
 injection hc with hc
 injection hc with _ hc
 exact absurd hc (by decide)
theorem WhAt.done {w wr : World} {sg : Int} {o r : Nat} {rest : Int} {m : Nat} {v : Value} {ls : List Int} (h : WhAt w wr sg o r rest m v ls) (a : Value) :
  ((wr.setCell ⟨w.heap.size, 0, none⟩ a).setCell ⟨w.heap.size, 1, none⟩ v).ownsRow w.heap.size 2 1 v ls.length (nums .i64 ls) ∧ Below w.heap.size w ((wr.setCell ⟨w.heap.size, 0, none⟩ a).setCell ⟨w.heap.size, 1, none⟩ v) :=
 ⟨row_store (row_store h.row h.res) (blk_put (cs := #[.int .i64 0, .slice none 0 0]) h.res 0 a rfl), (h.lo.setCell (Nat.le_refl _) _).setCell (Nat.le_refl _) _⟩
theorem lsh24_calls (z x : Nat) (k : Int) (m : Nat) (w : World) (hz : IsBig w z) (hx : Big w x k m) (hm : m ≤ 1000000) :
  Calls Tryd.prog 84 #[.pointer (some ⟨z, 0, none⟩), .pointer (some ⟨x, 0, none⟩), .int .u64 24] w fun e w' => e = .returned (.pointer (some ⟨z, 0, none⟩)) ∧ Big w' z (k * 2 ^ 24) (m + 24 / 32 + 1) ∧ w.grownBy w' (some z) :=
 lsh_calls z x 24 k m w hz hx hm (by omega)
theorem WhAt.meas {w wr : World} {sg : Int} {o r : Nat} {rest : Int} {m : Nat} {v : Value} {ls : List Int} (h : WhAt w wr sg o r rest m v ls) : (match wr.cell? ⟨o, 1, none⟩ with | some (.slice _ k _) => k | _ => 0) = ls.length := by
 obtain ⟨A, c, hv⟩ := own_slice h.row
 rw [h.cells.2.1, hv]
set_option maxRecDepth 100000 in
set_option maxHeartbeats 4000000 in
theorem whole_walk (x : Nat) (n : Int) (m : Nat) (w : World) (hx : Big w x n m) (hm : m ≤ 500000) :
  Calls Tryd.prog 40 #[.pointer (some ⟨x, 0, none⟩)] w fun e w' => ∃ v1, e = .returned (.tuple #[.agg #[.int .i64 (wfit n).1, v1], .int .i64 (wfit n).2.2]) ∧ w'.ownsRow w.heap.size 2 1 v1 (wfit n).2.1.length (nums .i64 (wfit n).2.1) ∧ Below w.heap.size w w' := by
 have HX := Aside0.mk hx
 clear hx
 have hm1 : m ≤ 1000000 := by omega
 go_enter Tryd.func40, Tryd.ntmps40
 go_wp2_with fail
 refine (bitLen_calls x n m _ (HX.out.below (below_alloc (Below.refl _ _) _)) hm1).mono ?_
 rintro e w1 ⟨rfl, rfl⟩
 have res1 := Aside0.mk (heap_alloc_new w (.cells #[.int .i64 0, .slice none 0 0] 26))
 have low1 := Aside0.mk ((Below.refl w.heap.size w).alloc (Nat.le_refl _) (.cells #[.int .i64 0, .slice none 0 0] 26))
 generalize w.alloc (.cells #[.int .i64 0, .slice none 0 0] 26) = w1 at res1 low1 ⊢
 have HX1 := Aside0.mk (HX.out.below low1.out)
 have r0 := (blk_cell res1.out 0).trans rfl
 have r1 := (blk_cell res1.out 1).trans rfl
 have f0 := blk_frozen res1.out 0
 have f1 := blk_frozen res1.out 1
 by_cases hbl : blen n ≤ 4800
 ·have HBL := Aside0.mk hbl
  have hbl2 : (blen n : Int) ≤ 4800 := by omega
  clear hbl r0 r1 f0 f1
  go_wp2_with fail
  refine (sign_calls x n m _ HX1.out).mono ?_
  rintro e w2 ⟨rfl, hw2⟩
  subst w2
  go_wp2_with fail
  have ZB := Aside0.mk (is_new w1)
  refine (abs_calls _ x n m _ ZB.out (HX1.out.below (below_alloc (Below.refl _ _) _)) hm1).mono ?_
  rintro e w3 ⟨rfl, hb3, hg3⟩
  have low3 := Aside0.mk (below_of_grown (low1.out.alloc low1.out.size _) hg3 low1.out.size)
  have res3 := Aside0.mk (blk_grown (blk_alloc res1.out (.cells #[.bool false, .slice none 0 0] 48)) hg3 (fun e => Nat.ne_of_lt (blk_lt res1.out) (Option.some.inj e)))
  have HB3 := Aside0.mk hb3
  clear hb3 hg3
  go_wp2_with fail
  have START : WhAt w (w3.alloc (.cells #[.int .i64 (sgn n), .slice none 0 0] 26)) (sgn n) w3.heap.size w1.heap.size (iabs n) m (.slice none 0 0) [] :=
   ⟨low3.out.alloc low3.out.size _, blk_alloc res3.out _, heap_alloc_new w3 _, own_nil _ _ _ _, HB3.out.below (below_alloc (Below.refl _ _) _), blk_lt res3.out, low1.out.size⟩
  have hlim : limbs n.natAbs = [] ++ limbs (iabs n).natAbs := by
   rw [List.nil_append]
   congr 1
   unfold iabs
   split <;> omega
  have hpos : 0 ≤ iabs n := by
   unfold iabs
   split <;> omega
  have ST := Aside0.mk (And.intro START (And.intro hpos hlim))
  clear START hpos hlim hbl2 HX HX1
  generalize w3.heap.size = o at ST ⊢
  go_loopw [5] (fun t5 wr => ∃ (r : Nat), t5 = .pointer (some ⟨r, 0, none⟩) ∧ Aside0 (∃ (rest : Int) (v : Value) (ls : List Int), WhAt w wr (sgn n) o r rest m v ls ∧ 0 ≤ rest ∧ limbs n.natAbs = ls ++ limbs rest.natAbs)) (fun _ wr => (limbs n.natAbs).length - (match wr.cell? ⟨o, 1, none⟩ with | some (.slice _ k _) => k | _ => 0))
  case atStart => exact ⟨_, rfl, ⟨_, _, _, ST.out⟩⟩
  case round =>
   obtain ⟨r, rfl, ⟨rest, v, ls, hat, h0, hlm⟩⟩ := hrel
   have HAT := Aside0.mk hat
   have HLM := Aside0.mk hlm
   clear hat hlm
   go_wp2_with fail
   refine (sign_calls r rest m _ HAT.out.big).mono ?_
   rintro e w4 ⟨rfl, hw4⟩
   subst w4
   by_cases hz : rest = 0
   ·have hs : sgn rest = 0 := by rw [hz]; rfl
    rw [hs]
    obtain ⟨A1, c1, rfl⟩ := own_slice HAT.out.row
    obtain ⟨q0, q1, q2⟩ := HAT.out.cells
    obtain ⟨e0, e1, e2, e3⟩ := HAT.out.ends
    go_wp2_with fail
    refine bodyPost_ret (results_ct rfl _ _ w.heap.size 26 #[.int .i64 (sgn n), .slice A1 ls.length c1] (0, 0) _ rfl (by refine blk_put (cs := #[.int .i64 (sgn n), .slice none 0 0]) ?_ 1 _ rfl; refine blk_put (cs := #[.int .i64 0, .slice none 0 0]) ?_ 0 _ rfl; exact HAT.out.res) Tryd.underlying26 rfl (by kernel_rfl)) rfl ?_
    have hw : wfit n = (sgn n, ls, 0) := by
     rw [wfit, if_pos HBL.out, HLM.out, hz, show (0 : Int).natAbs = 0 from rfl, limbs_zero, List.append_nil]
    rw [hw]
    exact ⟨_, rfl, HAT.out.done _⟩
   ·have hs : sgn rest = 1 := by unfold sgn; rw [if_neg (by omega), if_neg hz]
    rw [hs]
    have HZ := Aside0.mk hz
    have H0 := Aside0.mk h0
    clear hz h0 hs
    go_wp2_with fail
    refine (rsh_calls wr.heap.size r 24 rest m _ (is_new wr) (HAT.out.big.below (below_alloc (Below.refl _ _) _)) hm1 H0.out (by omega)).mono ?_
    rintro e w4 ⟨rfl, hb4, hg4⟩
    have hrl := HAT.out.big.lt
    have s4 : W6 w (sgn n) o r wr.heap.size rest (rest / 2 ^ 24) m v ls w4 :=
     ⟨(HAT.out.below (below_alloc (Below.refl _ _) _)).grown hg4 (is_new wr) (Nat.ne_of_lt hrl) HAT.out.lo.size, hb4, HAT.out.lo.size⟩
    have S4 := Aside0.mk s4
    have c4 := s4.cell
    have NE := Aside0.mk (Nat.ne_of_lt hrl)
    clear hb4 hg4 s4 hrl
    generalize wr.heap.size = h at S4 NE ⊢
    go_wp2_with fail
    have hll : ls.length ≤ 200 := by
     have h1 := (limbs_len_iff n 200).2 HBL.out
     have h2 := congrArg List.length HLM.out
     rw [List.length_append] at h2
     omega
    refine start_ (n := 13) (S := fun w' => w'.cell? ⟨o, 1, none⟩ = some v ∧ W6 w (sgn n) o r h rest (rest / 2 ^ 24) m v ls w') (ds := [10, 12]) #[false, false, false, false, false, false, false, false, false, false, false, false, false] (by kernel_rfl) rfl rfl ⟨c4, S4.out.below ((Below.refl _ _).drew)⟩ (fun hHeld => ?_)
    have Dw5 := Aside0.mk ((Below.refl w4.heap.size w4).drew)
    generalize w4.drew = w5 at hHeld Dw5 ⊢
    refine pure_ (i := 0) (N := some 23) (v := ?_) (a' := ?_) #[true, false, false, false, false, false, false, false, false, false, false, false, false] rfl rfl (by kernel_rfl) (fun _ _ _ h => h) (Or.inl ⟨by rfl, ?_⟩) ?_ ?_
    rotate_left
    ·intro w'
     go_simp
     with_reducible rfl
    rotate_left
    ·simp only [Act.put, List.setIfInBounds_toArray, List.set_cons_zero, List.set_cons_succ, i64_w, i32_w]
     rfl
    refine pure_ (i := 3) (N := some 26) (v := ?_) (a' := ?_) #[true, false, false, true, false, false, false, false, false, false, false, false, false] rfl rfl (by kernel_rfl) (fun _ _ _ h => h) (Or.inl ⟨by rfl, ?_⟩) ?_ ?_
    rotate_left
    ·intro w'
     go_simp
     with_reducible rfl
    rotate_left
    ·simp only [Act.put, List.setIfInBounds_toArray, List.set_cons_zero, List.set_cons_succ, i64_w, i32_w]
     rfl
    refine pure_ (i := 5) (N := some 28) (v := ?_) (a' := ?_) #[true, false, false, true, false, true, false, false, false, false, false, false, false] rfl rfl (by kernel_rfl) (fun _ _ _ h => h) (Or.inl ⟨by rfl, ?_⟩) ?_ ?_
    rotate_left
    ·intro w'
     go_simp
     with_reducible rfl
    rotate_left
    ·simp only [Act.put, List.setIfInBounds_toArray, List.set_cons_zero, List.set_cons_succ, i64_w, i32_w]
     rfl
    refine take_ (i := 1) (N := some 24) (v := ?_) (a' := ?_) #[true, true, false, true, false, true, false, false, false, false, false, false, false] rfl rfl (by kernel_rfl) (fun _ _ _ h => h) (Or.inl ⟨by rfl, ?_⟩) hHeld ?_ ?_
    rotate_left
    ·rintro w' ⟨s0, s1⟩
     go_simp
     with_reducible rfl
    rotate_left
    ·simp only [Act.put, List.setIfInBounds_toArray, List.set_cons_zero, List.set_cons_succ, i64_w, i32_w]
     rfl
    refine join_ (σ := Nat × Nat) 6 #[true, true, true, true, true, true, true, false, false, false, false, false, false] (fun s => [(25, .pointer (some ⟨s.1, 0, none⟩)), (27, .pointer (some ⟨s.2, 0, none⟩)), (29, .pointer (some ⟨s.2, 0, none⟩))]) (fun s w' => W7 w w5 (sgn n) o r h rest (rest / 2 ^ 24) m v ls s.1 s.2 w') ?_ ?_
    rotate_left
    ·intro hCont
     refine two_ (i := 2) (j := 4) (Ni := some 25) (Nj := some 27) #[true, true, true, true, false, true, false, false, false, false, false, false, false] #[true, true, false, true, true, true, false, false, false, false, false, false, false] rfl rfl rfl rfl (by kernel_rfl) (by decide) (by decide) (fun K hK => ?_) (fun K hK => ?_)
     ·skip
      refine value_ (w1 := ?_) (v := ?_) (by rfl) rfl ?_ ?_
      rotate_left 2
      ·go_simp
       constructor
       ·rfl
       ·rfl
      refine hK.out _ _ ⟨(hHeld.2.alloc _).cell, hHeld.2.alloc _⟩ (fun hHeld => ?_)
      clear hK K
      refine norm_ (a' := ?_) ?_ ?_
      rotate_left
      ·show Act.put _ (some 25) _ = _
       simp only [Act.put, List.setIfInBounds_toArray, List.set_cons_zero, List.set_cons_succ, i64_w, i32_w]
       rfl
      refine one_ (i := 4) (N := some 27) #[true, true, true, true, true, true, false, false, false, false, false, false, false] rfl rfl (by kernel_rfl) (by decide) (fun K hK => ?_)
      refine value_ (w1 := ?_) (v := ?_) (by rfl) rfl ?_ ?_
      rotate_left 2
      ·go_simp
       constructor
       ·rfl
       ·rfl
      refine hK.out _ _ ⟨(hHeld.2.alloc _).cell, hHeld.2.alloc _⟩ (fun hHeld => ?_)
      clear hK K
      refine norm_ (a' := ?_) ?_ ?_
      rotate_left
      ·show Act.put _ (some 27) _ = _
       simp only [Act.put, List.setIfInBounds_toArray, List.set_cons_zero, List.set_cons_succ, i64_w, i32_w]
       rfl
      refine one_ (i := 6) (N := some 29) #[true, true, true, true, true, true, true, false, false, false, false, false, false] rfl rfl (by kernel_rfl) (by decide) (fun K hK => ?_)
      refine goes_ Tryd.func84 (by kernel_rfl) rfl #[.pointer (some ⟨w5.heap.size + 1, 0, none⟩), .pointer (some ⟨h, 0, none⟩), .int .u64 24] (by rfl) rfl rfl (by simp only [List.map_toArray, List.map_cons, List.map_nil]; rfl) ?_
      with_reducible refine (lsh24_calls _ h (rest / 2 ^ 24) m _ (is_new2 _ _) hHeld.2.big hm1).mono ?_
      rintro e w6 ⟨rfl, hb6, hg6⟩
      refine ⟨_, rfl, ?_⟩
      refine hK.out _ _ ⟨(W7.a (S4.out.below Dw5.out) hb6 hg6).s.cell, (W7.a (S4.out.below Dw5.out) hb6 hg6).s⟩ (fun hHeld => ?_)
      clear hK K
      refine norm_ (a' := ?_) ?_ ?_
      rotate_left
      ·show Act.put _ (some 29) _ = _
       simp only [Act.put, List.setIfInBounds_toArray, List.set_cons_zero, List.set_cons_succ, i64_w, i32_w]
       rfl
      exact norm_ (by simp only [putAll, Act.put, List.setIfInBounds_toArray, List.set_cons_zero, List.set_cons_succ]) (hCont ⟨w5.heap.size, w5.heap.size + 1⟩ _ (W7.a (S4.out.below Dw5.out) hb6 hg6))
     ·skip
      refine value_ (w1 := ?_) (v := ?_) (by rfl) rfl ?_ ?_
      rotate_left 2
      ·go_simp
       constructor
       ·rfl
       ·rfl
      refine hK.out _ _ ⟨(hHeld.2.alloc _).cell, hHeld.2.alloc _⟩ (fun hHeld => ?_)
      clear hK K
      refine norm_ (a' := ?_) ?_ ?_
      rotate_left
      ·show Act.put _ (some 27) _ = _
       simp only [Act.put, List.setIfInBounds_toArray, List.set_cons_zero, List.set_cons_succ, i64_w, i32_w]
       rfl
      refine two_ (i := 2) (j := 6) (Ni := some 25) (Nj := some 29) #[true, true, true, true, true, true, false, false, false, false, false, false, false] #[true, true, false, true, true, true, true, false, false, false, false, false, false] rfl rfl rfl rfl (by kernel_rfl) (by decide) (by decide) (fun K hK => ?_) (fun K hK => ?_)
      ·skip
       refine value_ (w1 := ?_) (v := ?_) (by rfl) rfl ?_ ?_
       rotate_left 2
       ·go_simp
        constructor
        ·rfl
        ·rfl
       refine hK.out _ _ ⟨(hHeld.2.alloc _).cell, hHeld.2.alloc _⟩ (fun hHeld => ?_)
       clear hK K
       refine norm_ (a' := ?_) ?_ ?_
       rotate_left
       ·show Act.put _ (some 25) _ = _
        simp only [Act.put, List.setIfInBounds_toArray, List.set_cons_zero, List.set_cons_succ, i64_w, i32_w]
        rfl
       refine one_ (i := 6) (N := some 29) #[true, true, true, true, true, true, true, false, false, false, false, false, false] rfl rfl (by kernel_rfl) (by decide) (fun K hK => ?_)
       refine goes_ Tryd.func84 (by kernel_rfl) rfl #[.pointer (some ⟨w5.heap.size, 0, none⟩), .pointer (some ⟨h, 0, none⟩), .int .u64 24] (by rfl) rfl rfl (by simp only [List.map_toArray, List.map_cons, List.map_nil]; rfl) ?_
       with_reducible refine (lsh24_calls _ h (rest / 2 ^ 24) m _ ((is_new _).alloc _) hHeld.2.big hm1).mono ?_
       rintro e w6 ⟨rfl, hb6, hg6⟩
       refine ⟨_, rfl, ?_⟩
       refine hK.out _ _ ⟨(W7.b (S4.out.below Dw5.out) hb6 hg6).s.cell, (W7.b (S4.out.below Dw5.out) hb6 hg6).s⟩ (fun hHeld => ?_)
       clear hK K
       refine norm_ (a' := ?_) ?_ ?_
       rotate_left
       ·show Act.put _ (some 29) _ = _
        simp only [Act.put, List.setIfInBounds_toArray, List.set_cons_zero, List.set_cons_succ, i64_w, i32_w]
        rfl
       exact norm_ (by simp only [putAll, Act.put, List.setIfInBounds_toArray, List.set_cons_zero, List.set_cons_succ]) (hCont ⟨w5.heap.size + 1, w5.heap.size⟩ _ (W7.b (S4.out.below Dw5.out) hb6 hg6))
      ·skip
       refine goes_ Tryd.func84 (by kernel_rfl) rfl #[.pointer (some ⟨w5.heap.size, 0, none⟩), .pointer (some ⟨h, 0, none⟩), .int .u64 24] (by rfl) rfl rfl (by simp only [List.map_toArray, List.map_cons, List.map_nil]; rfl) ?_
       with_reducible refine (lsh24_calls _ h (rest / 2 ^ 24) m _ (is_new _) hHeld.2.big hm1).mono ?_
       rintro e w6 ⟨rfl, hb6, hg6⟩
       refine ⟨_, rfl, ?_⟩
       refine hK.out _ _ ⟨(((S4.out.below Dw5.out).alloc _).grown hg6 (is_new _) (S4.out.below Dw5.out).at_.big.lt (S4.out.below Dw5.out).big.lt).cell, (((S4.out.below Dw5.out).alloc _).grown hg6 (is_new _) (S4.out.below Dw5.out).at_.big.lt (S4.out.below Dw5.out).big.lt)⟩ (fun hHeld => ?_)
       clear hK K
       refine norm_ (a' := ?_) ?_ ?_
       rotate_left
       ·show Act.put _ (some 29) _ = _
        simp only [Act.put, List.setIfInBounds_toArray, List.set_cons_zero, List.set_cons_succ, i64_w, i32_w]
        rfl
       refine one_ (i := 2) (N := some 25) #[true, true, true, true, true, true, true, false, false, false, false, false, false] rfl rfl (by kernel_rfl) (by decide) (fun K hK => ?_)
       refine value_ (w1 := ?_) (v := ?_) (by rfl) rfl ?_ ?_
       rotate_left 2
       ·go_simp
        constructor
        ·rfl
        ·rfl
       refine hK.out _ _ ⟨(hHeld.2.alloc _).cell, hHeld.2.alloc _⟩ (fun hHeld => ?_)
       clear hK K
       refine norm_ (a' := ?_) ?_ ?_
       rotate_left
       ·show Act.put _ (some 25) _ = _
        simp only [Act.put, List.setIfInBounds_toArray, List.set_cons_zero, List.set_cons_succ, i64_w, i32_w]
        rfl
       exact norm_ (by simp only [putAll, Act.put, List.setIfInBounds_toArray, List.set_cons_zero, List.set_cons_succ]) (hCont ⟨w6.heap.size, w5.heap.size⟩ _ (W7.c (S4.out.below Dw5.out) hb6 hg6))
    rintro ⟨p, q⟩ w6 H7
    have hHeld : w6.cell? ⟨o, 1, none⟩ = some v ∧ W6 w (sgn n) o r h rest (rest / 2 ^ 24) m v ls w6 := ⟨H7.s.cell, H7.s⟩
    have H7A := Aside0.mk H7
    clear H7
    refine norm_ (a' := ?_) ?_ ?_
    rotate_left
    ·simp only [putAll, Act.put, List.setIfInBounds_toArray, List.set_cons_zero, List.set_cons_succ]
     rfl
    refine one_ (i := 7) (N := some 30) #[true, true, true, true, true, true, true, true, false, false, false, false, false] rfl rfl (by kernel_rfl) (by decide) (fun K hK => ?_)
    refine goes_ Tryd.func55 (by kernel_rfl) rfl #[.pointer (some ⟨p, 0, none⟩), .pointer (some ⟨r, 0, none⟩), .pointer (some ⟨q, 0, none⟩)] (by rfl) rfl rfl (by simp only [List.map_toArray, List.map_cons, List.map_nil]; rfl) ?_
    with_reducible refine (sub_calls p r q rest (rest / 2 ^ 24 * 2 ^ 24) m (m + 24 / 32 + 1) _ H7A.out.bp H7A.out.s.at_.big hm1 H7A.out.bq (by omega)).mono ?_
    rintro e w7 ⟨rfl, hb7, hg7⟩
    refine ⟨_, rfl, ?_⟩
    have H8 := Aside0.mk (H7A.out.s.grown hg7 H7A.out.bp (Nat.lt_of_lt_of_le (S4.out.below Dw5.out).at_.big.lt H7A.out.hp) (Nat.lt_of_lt_of_le (S4.out.below Dw5.out).big.lt H7A.out.hp))
    refine hK.out _ _ ⟨H8.out.cell, H8.out⟩ (fun hHeld => ?_)
    clear hK K
    refine norm_ (a' := ?_) ?_ ?_
    rotate_left
    ·show Act.put _ (some 30) _ = _
     simp only [Act.put, List.setIfInBounds_toArray, List.set_cons_zero, List.set_cons_succ, i64_w, i32_w]
     rfl
    refine one_ (i := 8) (N := some 31) #[true, true, true, true, true, true, true, true, true, false, false, false, false] rfl rfl (by kernel_rfl) (by decide) (fun K hK => ?_)
    obtain ⟨t, ht1, ht2, hcall⟩ := int64_calls p _ _ w7 hb7 (by omega)
    refine goes_ Tryd.func62 (by kernel_rfl) rfl #[.pointer (some ⟨p, 0, none⟩)] (by rfl) rfl rfl (by simp only [List.map_toArray, List.map_cons, List.map_nil]; rfl) ?_
    with_reducible refine (hcall).mono ?_
    rintro e w8 ⟨rfl, hw8⟩
    refine ⟨_, rfl, ?_⟩
    subst w8
    refine hK.out _ _ ⟨hHeld.1, hHeld.2⟩ (fun hHeld => ?_)
    clear hK K
    refine norm_ (a' := ?_) ?_ ?_
    rotate_left
    ·show Act.put _ (some 31) _ = _
     simp only [Act.put, List.setIfInBounds_toArray, List.set_cons_zero, List.set_cons_succ, i64_w, i32_w]
     rfl
    refine one_ (i := 9) (N := some 32) #[true, true, true, true, true, true, true, true, true, true, false, false, false] rfl rfl (by kernel_rfl) (by decide) (fun K hK => ?_)
    refine value_ (w1 := ?_) (v := ?_) (by rfl) rfl ?_ ?_
    rotate_left 2
    ·go_simp
     constructor
     ·rfl
     ·rfl
    refine hK.out _ _ ⟨(hHeld.2.alloc _).cell, hHeld.2.alloc _⟩ (fun hHeld => ?_)
    clear hK K
    refine norm_ (a' := ?_) ?_ ?_
    rotate_left
    ·show Act.put _ (some 32) _ = _
     simp only [Act.put, List.setIfInBounds_toArray, List.set_cons_zero, List.set_cons_succ, i64_w, i32_w]
     rfl
    refine last_ (i := 10) (N := some 33) #[true, true, true, true, true, true, true, true, true, true, true, false, false] rfl rfl (by kernel_rfl) (by decide) (fun K hK => ?_)
    refine step_append_cells (w0 := w) w.heap.size (by rfl) (.tmp 24) (.tmp 32) 24 2 (.int .i64 0) 1 8 (by rfl) Tryd.underlying24 info64 (by rfl) (by decide) (by decide) v ls.length (nums .i64 ls) [.int .i64 t] (by rfl) (by rfl) (by rfl) (by intro u hu; rw [List.mem_singleton.1 hu]; rfl) H8.out.at_.row H8.out.at_.lo H8.out.at_.lo.size (by omega) ?_
    intro v1 w9 ho9 hb9 hg9 hat9
    obtain ⟨A9, c9, rfl⟩ := own_slice ho9
    have NX := Aside0.mk (H8.out.next ho9 hb9 hg9)
    have ob9 := whole_other H8.out.at_.ob hg9 (fun k hk => own_typed H8.out.at_.row k hk)
    have oc9 : w9.cell? ⟨o, 1, none⟩ = some v := (blk_cell ob9 1).trans rfl
    have of9 : w9.frozen? ⟨o, 1, none⟩ = false := blk_frozen ob9 1
    refine hK.out _ _ ?_
    clear hK K
    refine norm_ (a' := ?_) ?_ ?_
    rotate_left
    ·show Act.put _ (some 33) _ = _
     simp only [Act.put, List.setIfInBounds_toArray, List.set_cons_zero, List.set_cons_succ, i64_w, i32_w]
     rfl
    refine pure_ (i := 11) (N := some 34) (v := ?_) (a' := ?_) #[true, true, true, true, true, true, true, true, true, true, true, true, false] rfl rfl (by kernel_rfl) (fun _ _ _ h => h) (Or.inl ⟨by rfl, ?_⟩) ?_ ?_
    rotate_left
    ·intro w'
     go_simp
     with_reducible rfl
    rotate_left
    ·simp only [Act.put, List.setIfInBounds_toArray, List.set_cons_zero, List.set_cons_succ, i64_w, i32_w]
     rfl
    refine last_ (i := 12) (N := none) #[true, true, true, true, true, true, true, true, true, true, true, true, true] rfl rfl (by kernel_rfl) (by decide) (fun K hK => ?_)
    refine skip_ (w1 := ?_) (by rfl) rfl ?_ ?_
    rotate_left
    ·go_simp
     rfl
    refine hK.out _ _ ?_
    clear hK K
    refine done_ (by kernel_rfl) ?_
    clear ho9 hb9 hg9 hat9 ob9 oc9 of9 hcall hb7 hg7
    go_wp2
    go_roundw
    case rel =>
     refine ⟨h, rfl, ⟨_, _, _, NX.out, ?_, ?_⟩⟩
     ·rw [ten24]
      have := H0.out
      omega
     ·rw [HLM.out, limbs_step (n := rest) (by have := H0.out; have := HZ.out; omega), List.append_assoc, ten24]
      congr 1
      have e := ht2
      rw [ten24] at e
      have := H0.out
      rw [List.singleton_append, e (by omega)]
      congr 1
      omega
    case measure =>
     rw [NX.out.meas, HAT.out.meas]
     have h2 := congrArg List.length HLM.out
     rw [List.length_append, limbs_step (n := rest) (by have := H0.out; have := HZ.out; omega), List.length_cons] at h2
     rw [List.length_append, List.length_singleton]
     omega
 ·have HBL := Aside0.mk hbl
  have hbl2 : 4800 < (blen n : Int) := by omega
  clear hbl
  go_wp2_with fail
  refine bodyPost_ret (results_ct rfl _ _ w.heap.size 26 #[.int .i64 0, .slice none 0 0] (0, 0) _ rfl (by refine blk_put (cs := #[.int .i64 0, .slice none 0 0]) ?_ 1 _ rfl; refine blk_put (cs := #[.int .i64 0, .slice none 0 0]) ?_ 0 _ rfl; exact res1.out) Tryd.underlying26 rfl (by kernel_rfl)) rfl ?_
  rw [show wfit n = (0, [], 3) from by rw [wfit, if_neg HBL.out]]
  exact ⟨_, rfl, own_nil _ _ _ _, (low1.out.setCell (Nat.le_refl _) _).setCell (Nat.le_refl _) _⟩
theorem whole_calls (x : Nat) (n : Int) (m : Nat) (w : World) (hx : Big w x n m) (hm : m ≤ 500000) (r1 : Int) (r2 : List Int) (r3 : Int) (h : wfit n = (r1, r2, r3)) :
  Calls Tryd.prog 40 #[.pointer (some ⟨x, 0, none⟩)] w fun e w' => ∃ v1, e = .returned (.tuple #[.agg #[.int .i64 r1, v1], .int .i64 r3]) ∧ w'.ownsRow w.heap.size 2 1 v1 r2.length (nums .i64 r2) ∧ Below w.heap.size w w' := by
 have hc := whole_walk x n m w hx hm
 rw [h] at hc
 exact hc
end Go.Proofs.YtlkomiiijhphnaaDoor.Big
