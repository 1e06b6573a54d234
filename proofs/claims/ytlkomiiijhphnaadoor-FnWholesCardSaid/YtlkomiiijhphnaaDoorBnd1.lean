/- The contracts of impl.LengthOfWhole and impl.CompareWholes in plain words. Condition: at most 1000000000 limbs. -/
import Derived.Test.YtlkomiiijhphnaaDoorBnd0
import Derived.Test.YtlkomiiijhphnaaDoorG6
namespace Go.Proofs.YtlkomiiijhphnaaDoor
open Go.RowKit Go.Proofs.YtlkomiiijhphnaaDoorW.PrintWords Go.Proofs.YtlkomiiijhphnaaDoorW.PrintLast Go.Proofs.YtlkomiiijhphnaaDoorW.PrintMore Go.Proofs.YtlkomiiijhphnaaDoor.Math Go.Proofs.YtlkomiiijhphnaaDoor.Big
set_option linter.unusedVariables false
set_option linter.unusedSimpArgs false
theorem lims_of {w : World} {s : Int} {A : Option Addr} {l : List Int} (hr : Kd.C (Kd.int .i64) w A l.length l) (h : isW s l = true) : Lims w A l :=
 ⟨hr, isW_okl h, Nat.le_trans (isW_len h) (by omega)⟩
theorem isWhole_of {w : World} (s : Int) (A : Option Addr) (c : Nat) (l : List Int) (hr : Kd.C (Kd.int .i64) w A l.length l) (hc : l.length ≤ c) (hl : l.length ≤ 1000000000) :
  Calls Tryd.prog 10 #[.agg #[.int .i64 s, .slice A l.length c]] w fun e w' => e = .returned (.bool (isW s l)) ∧ Below w.heap.size w w' :=
 impl_IsWhole.calls s A c l (isW s l) w hr hc (by unfold impl_IsWhole.f; rw [if_pos hl])
structure TwoBox (w wr : World) (a : Int) (A : Option Addr) (c : Nat) (l : List Int) (b : Int) (B : Option Addr) (d : Nat) (m : List Int) : Prop where
 lo : Below w.heap.size w wr
 x : wr.heap[w.heap.size]? = some (.cells #[.int .i64 a, .slice A l.length c] 26 (0, 0))
 y : wr.heap[w.heap.size + 1]? = some (.cells #[.int .i64 b, .slice B m.length d] 26 (0, 0))
theorem TwoBox.start (w : World) (a : Int) (A : Option Addr) (c : Nat) (l : List Int) (b : Int) (B : Option Addr) (d : Nat) (m : List Int) :
  TwoBox w ((w.alloc (.cells #[.int .i64 a, .slice A l.length c] 26)).alloc (.cells #[.int .i64 b, .slice B m.length d] 26)) a A c l b B d m := by
 refine ⟨((Below.refl _ _).alloc (Nat.le_refl _) _).alloc (by simp) _, blk_alloc (heap_alloc_new w _) _, ?_⟩
 have := heap_alloc_new (w.alloc (.cells #[.int .i64 a, .slice A l.length c] 26)) (.cells #[.int .i64 b, .slice B m.length d] 26)
 simpa using this
theorem TwoBox.below {w wr w1 : World} {a : Int} {A : Option Addr} {c : Nat} {l : List Int} {b : Int} {B : Option Addr} {d : Nat} {m : List Int} (h : TwoBox w wr a A c l b B d m) (hb : Below wr.heap.size wr w1) :
  TwoBox w w1 a A c l b B d m := ⟨h.lo.trans (hb.mono h.lo.size), blk_below h.x hb, blk_below h.y hb⟩
theorem TwoBox.cells {w wr : World} {a : Int} {A : Option Addr} {c : Nat} {l : List Int} {b : Int} {B : Option Addr} {d : Nat} {m : List Int} (h : TwoBox w wr a A c l b B d m) :
  wr.cell? ⟨w.heap.size, 0, none⟩ = some (.int .i64 a) ∧ wr.cell? ⟨w.heap.size, 1, none⟩ = some (.slice A l.length c) ∧ wr.cell? ⟨w.heap.size + 1, 0, none⟩ = some (.int .i64 b) ∧ wr.cell? ⟨w.heap.size + 1, 1, none⟩ = some (.slice B m.length d) :=
 ⟨(blk_cell h.x 0).trans rfl, (blk_cell h.x 1).trans rfl, (blk_cell h.y 0).trans rfl, (blk_cell h.y 1).trans rfl⟩
def impl_CompareWholes.f (a0_0 : Int) (l0_1 : List Int) (a1_0 : Int) (l1_1 : List Int) : Option (Int × Int) :=
 if l0_1.length ≤ 1000000000 ∧ l1_1.length ≤ 1000000000 then some (if isW a0_0 l0_1 && isW a1_0 l1_1 then (sgn (wv a0_0 l0_1 - wv a1_0 l1_1), 0) else (0, 1)) else none
set_option maxRecDepth 100000 in
set_option maxHeartbeats 4000000 in
theorem impl_CompareWholes.calls (a0_0 : Int) (A0_1 : Option Addr) (c0_1 : Nat) (l0_1 : List Int) (a1_0 : Int) (A1_1 : Option Addr) (c1_1 : Nat) (l1_1 : List Int) (r1 r2 : Int) (w : World) (hr0_1 : Kd.C (Kd.int .i64) w A0_1 l0_1.length l0_1) (hc0_1 : l0_1.length ≤ c0_1) (hr1_1 : Kd.C (Kd.int .i64) w A1_1 l1_1.length l1_1) (hc1_1 : l1_1.length ≤ c1_1) (h : impl_CompareWholes.f a0_0 l0_1 a1_0 l1_1 = some (r1, r2)) :
  Calls Tryd.prog 14 #[.agg #[.int .i64 a0_0, .slice A0_1 l0_1.length c0_1], .agg #[.int .i64 a1_0, .slice A1_1 l1_1.length c1_1]] w fun e w' => e = .returned (.tuple #[.int .i64 r1, .int .i64 r2]) ∧ Below w.heap.size w w' := by
 unfold impl_CompareWholes.f at h
 split at h
 case isFalse => cases h
 rename_i hl
 have HR := Aside0.mk hr0_1
 have HS := Aside0.mk hr1_1
 have T0 := Aside0.mk (TwoBox.start w a0_0 A0_1 c0_1 l0_1 a1_0 A1_1 c1_1 l1_1)
 have HL := Aside0.mk hl
 clear hr0_1 hr1_1 hl
 cases hw : isW a0_0 l0_1
 ·rw [hw] at h
  simp only [Bool.false_and, Bool.false_eq_true, if_false, Option.some.injEq, Prod.mk.injEq] at h
  obtain ⟨rfl, rfl⟩ := h
  have HW := Aside0.mk hw
  clear hw
  go_enter Tryd.func14, Tryd.ntmps14
  go_wp2_with fail
  refine (isWhole_of _ _ _ _ (Kd.C_below HR.out T0.out.lo) hc0_1 HL.out.1).mono ?_
  rintro e w1 ⟨rfl, hb⟩
  rw [HW.out]
  have T1 := Aside0.mk (T0.out.below hb)
  clear hb
  go_wp2
  go_ret2
  exact ⟨rfl, T1.out.lo⟩
 ·have HW := Aside0.mk hw
  cases hv : isW a1_0 l1_1
  ·rw [hw, hv] at h
   simp only [Bool.and_false, Bool.false_eq_true, if_false, Option.some.injEq, Prod.mk.injEq] at h
   obtain ⟨rfl, rfl⟩ := h
   have HV := Aside0.mk hv
   clear hw hv
   go_enter Tryd.func14, Tryd.ntmps14
   go_wp2_with fail
   refine (isWhole_of _ _ _ _ (Kd.C_below HR.out T0.out.lo) hc0_1 HL.out.1).mono ?_
   rintro e w1 ⟨rfl, hb⟩
   rw [HW.out]
   have T1 := Aside0.mk (T0.out.below hb)
   obtain ⟨p0, p1, p2, p3⟩ := T1.out.cells
   clear hb
   go_wp2_with fail
   refine (isWhole_of _ _ _ _ (Kd.C_below HS.out T1.out.lo) hc1_1 HL.out.2).mono ?_
   rintro e w2 ⟨rfl, hb⟩
   rw [HV.out]
   have T2 := Aside0.mk (T1.out.below hb)
   clear hb p0 p1 p2 p3
   go_wp2
   go_ret2
   exact ⟨rfl, T2.out.lo⟩
  ·rw [hw, hv] at h
   simp only [Bool.and_self, if_true, Option.some.injEq, Prod.mk.injEq] at h
   obtain ⟨rfl, rfl⟩ := h
   have HV := Aside0.mk hv
   clear hw hv
   go_enter Tryd.func14, Tryd.ntmps14
   go_wp2_with fail
   refine (isWhole_of _ _ _ _ (Kd.C_below HR.out T0.out.lo) hc0_1 HL.out.1).mono ?_
   rintro e w1 ⟨rfl, hb⟩
   rw [HW.out]
   have T1 := Aside0.mk (T0.out.below hb)
   obtain ⟨p0, p1, p2, p3⟩ := T1.out.cells
   clear hb
   go_wp2_with fail
   refine (isWhole_of _ _ _ _ (Kd.C_below HS.out T1.out.lo) hc1_1 HL.out.2).mono ?_
   rintro e w2 ⟨rfl, hb⟩
   rw [HV.out]
   have T2 := Aside0.mk (T1.out.below hb)
   clear hb p0 p1 p2 p3
   obtain ⟨p0, p1, p2, p3⟩ := T2.out.cells
   go_wp2
   refine start_ (n := 7) (S := fun w' => w'.cell? ⟨w.heap.size, 0, none⟩ = some (.int .i64 a0_0) ∧ w'.cell? ⟨w.heap.size, 1, none⟩ = some (.slice A0_1 l0_1.length c0_1) ∧ w'.cell? ⟨w.heap.size + 1, 0, none⟩ = some (.int .i64 a1_0) ∧ w'.cell? ⟨w.heap.size + 1, 1, none⟩ = some (.slice A1_1 l1_1.length c1_1)) (ds := [4]) #[false, false, false, false, false, false, false] (by kernel_rfl) rfl rfl ⟨p0, p1, p2, p3⟩ (fun hHeld => ?_)
   have Dw3 := Aside0.mk ((Below.refl w2.heap.size w2).drew)
   generalize w2.drew = w3 at hHeld Dw3 ⊢
   refine take_ (i := 0) (N := some 14) (v := ?_) (a' := ?_) #[true, false, false, false, false, false, false] rfl rfl (by kernel_rfl) (fun _ _ _ h => h) (Or.inl ⟨by rfl, ?_⟩) hHeld ?_ ?_
   rotate_left
   ·rintro w' ⟨s0, s1, s2, s3⟩
    go_simp
    with_reducible rfl
   rotate_left
   ·simp only [Act.put, List.setIfInBounds_toArray, List.set_cons_zero, List.set_cons_succ, i64_w, i32_w]
    rfl
   refine take_ (i := 2) (N := some 16) (v := ?_) (a' := ?_) #[true, false, true, false, false, false, false] rfl rfl (by kernel_rfl) (fun _ _ _ h => h) (Or.inl ⟨by rfl, ?_⟩) hHeld ?_ ?_
   rotate_left
   ·rintro w' ⟨s0, s1, s2, s3⟩
    go_simp
    with_reducible rfl
   rotate_left
   ·simp only [Act.put, List.setIfInBounds_toArray, List.set_cons_zero, List.set_cons_succ, i64_w, i32_w]
    rfl
   refine one_ (i := 1) (N := some 15) #[true, true, true, false, false, false, false] rfl rfl (by kernel_rfl) (by decide) (fun K hK => ?_)
   have T3 := Aside0.mk (T2.out.below Dw3.out)
   refine goes_ Tryd.func39 (by kernel_rfl) rfl #[.agg #[.int .i64 a0_0, .slice A0_1 l0_1.length c0_1]] (by rfl) rfl rfl (by simp only [List.map_toArray, List.map_cons, List.map_nil]; rfl) ?_
   with_reducible refine (value_calls _ _ _ _ _ (lims_of (Kd.C_below HR.out T3.out.lo) HW.out)).mono ?_
   rintro e w4 ⟨b, rfl, hge, hbig, hb⟩
   refine ⟨_, rfl, ?_⟩
   have T4 := Aside0.mk (T3.out.below hb)
   have BX := Aside0.mk hbig
   clear hb hge hbig
   refine hK.out _ _ ⟨T4.out.cells.1, T4.out.cells.2.1, T4.out.cells.2.2.1, T4.out.cells.2.2.2⟩ (fun hHeld => ?_)
   clear hK K
   refine norm_ (a' := ?_) ?_ ?_
   rotate_left
   ·show Act.put _ (some 15) _ = _
    simp only [Act.put, List.setIfInBounds_toArray, List.set_cons_zero, List.set_cons_succ, i64_w, i32_w]
    rfl
   refine one_ (i := 3) (N := some 17) #[true, true, true, true, false, false, false] rfl rfl (by kernel_rfl) (by decide) (fun K hK => ?_)
   refine goes_ Tryd.func39 (by kernel_rfl) rfl #[.agg #[.int .i64 a1_0, .slice A1_1 l1_1.length c1_1]] (by rfl) rfl rfl (by simp only [List.map_toArray, List.map_cons, List.map_nil]; rfl) ?_
   with_reducible refine (value_calls _ _ _ _ _ (lims_of (Kd.C_below HS.out T4.out.lo) HV.out)).mono ?_
   rintro e w5 ⟨b', rfl, hge, hbig, hb⟩
   refine ⟨_, rfl, ?_⟩
   have T5 := Aside0.mk (T4.out.below hb)
   have BX5 := Aside0.mk (BX.out.below hb)
   have BY := Aside0.mk hbig
   clear hb hge hbig
   refine hK.out _ _ ⟨T5.out.cells.1, T5.out.cells.2.1, T5.out.cells.2.2.1, T5.out.cells.2.2.2⟩ (fun hHeld => ?_)
   clear hK K
   refine norm_ (a' := ?_) ?_ ?_
   rotate_left
   ·show Act.put _ (some 17) _ = _
    simp only [Act.put, List.setIfInBounds_toArray, List.set_cons_zero, List.set_cons_succ, i64_w, i32_w]
    rfl
   refine last_ (i := 4) (N := some 18) #[true, true, true, true, true, false, false] rfl rfl (by kernel_rfl) (by decide) (fun K hK => ?_)
   refine goes_ Tryd.func51 (by kernel_rfl) rfl #[.pointer (some ⟨b, 0, none⟩), .pointer (some ⟨b', 0, none⟩)] (by rfl) rfl rfl (by simp only [List.map_toArray, List.map_cons, List.map_nil]; rfl) ?_
   with_reducible refine (cmp_calls _ _ _ _ _ _ _ BX5.out (Nat.le_trans (isW_len HW.out) (by omega)) BY.out (Nat.le_trans (isW_len HV.out) (by omega))).mono ?_
   rintro e w6 ⟨rfl, hb⟩
   refine ⟨_, rfl, ?_⟩
   refine hK.out _ _ ?_
   clear hK K
   refine norm_ (a' := ?_) ?_ ?_
   rotate_left
   ·show Act.put _ (some 18) _ = _
    simp only [Act.put, List.setIfInBounds_toArray, List.set_cons_zero, List.set_cons_succ, i64_w, i32_w]
    rfl
   refine pure_ (i := 5) (N := some 4) (v := ?_) (a' := ?_) #[true, true, true, true, true, true, false] rfl rfl (by kernel_rfl) (fun _ _ _ h => h) (Or.inl ⟨by rfl, ?_⟩) ?_ ?_
   rotate_left
   ·intro w'
    go_simp
    with_reducible rfl
   rotate_left
   ·simp only [Act.put, List.setIfInBounds_toArray, List.set_cons_zero, List.set_cons_succ, i64_w, i32_w]
    rfl
   refine pure_ (i := 6) (N := some 5) (v := ?_) (a' := ?_) #[true, true, true, true, true, true, true] rfl rfl (by kernel_rfl) (fun _ _ _ h => h) (Or.inl ⟨by rfl, ?_⟩) ?_ ?_
   rotate_left
   ·intro w'
    go_simp
    with_reducible rfl
   rotate_left
   ·simp only [Act.put, List.setIfInBounds_toArray, List.set_cons_zero, List.set_cons_succ, i64_w, i32_w]
    rfl
   refine done_ (by kernel_rfl) ?_
   have T6 := Aside0.mk (T5.out.below hb)
   clear hb
   try go_wp2
   go_ret2
   exact ⟨rfl, T6.out.lo⟩
end Go.Proofs.YtlkomiiijhphnaaDoor
