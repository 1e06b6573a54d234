/- The contract of impl.WholeOf in plain words. Condition: the argument is an int64. -/
import Derived.Test.YtlkomiiijhphnaaDoorBigD
import Derived.Test.YtlkomiiijhphnaaDoorMathM
import Derived.Test.YtlkomiiijhphnaaDoorBnd1
import Derived.Test.YtlkomiiijhphnaaDoorBigE
/- The contracts of impl.binary, impl.AddWholes, impl.SubtractWholes and impl.MultiplyWholes in plain words. Condition: at most 1000000000 limbs. -/
/- The contracts of impl.shifted, impl.TwosIn and impl.ShiftWhole in plain words. Conditions: at most 1000000000 limbs; the library's table holds its numbers. -/
namespace Go.Proofs.YtlkomiiijhphnaaDoor
open Go.RowKit Go.Proofs.YtlkomiiijhphnaaDoorW.PrintWords Go.Proofs.YtlkomiiijhphnaaDoorW.PrintLast Go.Proofs.YtlkomiiijhphnaaDoor.Math Go.Proofs.YtlkomiiijhphnaaDoor.Big
set_option linter.unusedVariables false
set_option linter.unusedSimpArgs false
theorem alloc_size (w : World) (o : Obj) : (w.alloc o).heap.size = w.heap.size + 1 := by simp
structure ResAt (w wr : World) (b : Nat) : Prop where
 lo : Below w.heap.size w wr
 box : wr.heap[b]? = some (.cells #[.int .i64 0, .slice none 0 0] 26 (0, 0))
 ge : w.heap.size ≤ b
theorem ResAt.below {w wr w1 : World} {b : Nat} (h : ResAt w wr b) (hb : Below wr.heap.size wr w1) : ResAt w w1 b := ⟨h.lo.trans (hb.mono h.lo.size), blk_below h.box hb, h.ge⟩
theorem ResAt.next {w wr : World} (h : Below w.heap.size w wr) : ResAt w (wr.alloc (.cells #[.int .i64 0, .slice none 0 0] 26)) wr.heap.size :=
 ⟨h.alloc h.size _, heap_alloc_new wr _, h.size⟩
theorem ResAt.cells {w wr : World} {b : Nat} (h : ResAt w wr b) : wr.cell? ⟨b, 0, none⟩ = some (.int .i64 0) ∧ wr.cell? ⟨b, 1, none⟩ = some (.slice none 0 0) ∧ wr.frozen? ⟨b, 0, none⟩ = false ∧ wr.frozen? ⟨b, 1, none⟩ = false :=
 ⟨(blk_cell h.box 0).trans rfl, (blk_cell h.box 1).trans rfl, blk_frozen h.box 0, blk_frozen h.box 1⟩
theorem ResAt.put {w wr : World} {b : Nat} (h : ResAt w wr b) (a v : Value) : ((wr.setCell ⟨b, 0, none⟩ a).setCell ⟨b, 1, none⟩ v).heap[b]? = some (.cells #[a, v] 26 (0, 0)) :=
 blk_put (cs := #[a, .slice none 0 0]) (blk_put (cs := #[.int .i64 0, .slice none 0 0]) h.box 0 _ rfl) 1 _ rfl
theorem ResAt.low {w wr : World} {b : Nat} (h : ResAt w wr b) (a v : Value) : Below w.heap.size w ((wr.setCell ⟨b, 0, none⟩ a).setCell ⟨b, 1, none⟩ v) :=
 (h.lo.setCell (show w.heap.size ≤ (⟨b, 0, none⟩ : Addr).block from h.ge) _).setCell (show w.heap.size ≤ (⟨b, 1, none⟩ : Addr).block from h.ge) _
theorem ResAt.row {w wr : World} {b base : Nat} {u : Value} {xs : List Int} (h : ResAt w wr b) (hr : wr.ownsRow base 2 1 u xs.length (nums .i64 xs)) (hb : w.heap.size ≤ base) (a v : Value) :
  Kd.R (Kd.int .i64) 2 ((wr.setCell ⟨b, 0, none⟩ a).setCell ⟨b, 1, none⟩ v) w.heap.size (fun _ => True) u xs :=
 Kd.R_of_own (own_weaken (row_store (row_store hr h.box) (blk_put (cs := #[.int .i64 0, .slice none 0 0]) h.box 0 a rfl)) hb) (fun _ _ => trivial)
def impl_WholeOf.f (a0 : Int) : Option (Int × List Int × Int) := if -9223372036854775808 ≤ a0 ∧ a0 ≤ 9223372036854775807 then some (wfit a0) else none
set_option maxRecDepth 100000 in
set_option maxHeartbeats 1000000 in
theorem impl_WholeOf.calls (a0 : Int) (r1 : Int) (r2 : List Int) (r3 : Int) (w : World) (h : impl_WholeOf.f a0 = some (r1, r2, r3)) :
  Calls Tryd.prog 20 #[.int .i64 a0] w fun e w' => ∃ v1_ : Value, e = .returned (.tuple #[.agg #[.int .i64 r1, v1_], .int .i64 r3]) ∧ Kd.R (Kd.int .i64) 2 w' w.heap.size (fun _ => True) v1_ r2 ∧ Below w.heap.size w w' := by
 unfold impl_WholeOf.f at h
 split at h
 case isFalse => cases h
 rename_i hl
 injection h with h
 have HW := Aside0.mk h
 have R0 := Aside0.mk (ResAt.next (Below.refl w.heap.size w))
 have HL := Aside0.mk hl
 clear h hl
 go_enter Tryd.func20, Tryd.ntmps20
 go_wp2_with fail
 refine (newBig_calls a0 _ HL.out.1 HL.out.2).mono ?_
 rintro e w1 ⟨rfl, hb1, hg1⟩
 have R1 := Aside0.mk (R0.out.below hg1)
 rw [alloc_size] at hb1
 have B1 := Aside0.mk hb1
 clear hb1 hg1
 go_wp2_with fail
 refine (whole_calls _ a0 _ _ B1.out (by omega) r1 r2 r3 HW.out).mono ?_
 rintro e w2 ⟨v, rfl, hr, hb2⟩
 obtain ⟨A1, c1, rfl⟩ := own_slice hr
 have R2 := Aside0.mk (R1.out.below hb2)
 have HR := Aside0.mk hr
 obtain ⟨q0, q1, q2, q3⟩ := R2.out.cells
 clear hr hb2
 go_wp2_with fail
 refine bodyPost_ret (results_ct rfl _ _ w.heap.size 26 #[.int .i64 r1, .slice A1 r2.length c1] (0, 0) _ rfl (R2.out.put _ _) Tryd.underlying26 rfl (by kernel_rfl)) rfl ?_
 exact ⟨_, rfl, R2.out.row HR.out R1.out.lo.size _ _, R2.out.low _ _⟩
end Go.Proofs.YtlkomiiijhphnaaDoor
namespace Go.Proofs.YtlkomiiijhphnaaDoor
open Go.RowKit Go.Proofs.YtlkomiiijhphnaaDoorW.PrintWords Go.Proofs.YtlkomiiijhphnaaDoorW.PrintLast Go.Proofs.YtlkomiiijhphnaaDoorW.PrintMore Go.Proofs.YtlkomiiijhphnaaDoor.Math Go.Proofs.YtlkomiiijhphnaaDoor.Big
set_option linter.unusedVariables false
set_option linter.unusedSimpArgs false
theorem goesv_ {P : Program} {ops : Array Oper} {Q : Exit → Act → World → Prop} {oi : Oper} {N : Option Tmp} {a : Act} {w : World} {K : Act → World → Prop} {f : FuncId} {fn : Func} {o : Operand} {ys : Array Operand} {ts : Array TypeId} (hf : P.funcs[f]? = some fn) (hname : (fn.name == "runtime.NumGoroutine") = false) (hb : fn.body.isSome = true) (args : Array Value)
  (hw : Region.wanted oi (yielded ops a.tmps) = true) (hN : oi.dst = N) (hop : oi.op = .call { callee := .value o, args := ys, argTypes := ts }) (hev : a.eval o = .func (.func f) #[] #[]) (hargs : ys.map a.eval = args)
  (h : Calls P f args w fun e w' => ∃ v, e = .returned v ∧ K (a.put N v) w') : if Region.wanted oi (yielded ops a.tmps) = true then Oper.wp P oi a w K Q else K (a.put N undef) w := by
 refine call_ f args hw hN ?_ h
 have he := enters_ hf hname hb args w
 unfold execOp
 simp [hop, resolve, Deferred.ofValue, invoke, hev, hargs, he]
theorem ResAt.own {w wr : World} {b base : Nat} {u : Value} {xs : List Int} (h : ResAt w wr b) (hr : wr.ownsRow base 2 1 u xs.length (nums .i64 xs)) (hb : w.heap.size ≤ base) (a v : Value) :
  ((wr.setCell ⟨b, 0, none⟩ a).setCell ⟨b, 1, none⟩ v).ownsRow w.heap.size 2 1 u xs.length (nums .i64 xs) :=
 own_weaken (row_store (row_store hr h.box) (blk_put (cs := #[.int .i64 0, .slice none 0 0]) h.box 0 a rfl)) hb
def Makes (f : Nat) (op : Int → Int → Int) : Prop := ∀ (x y : Nat) (n k : Int) (w0 w : World), Big w x n 200 → Big w y k 200 → x ≠ y → w0.heap.size ≤ x → w0.heap.size ≤ y → Below w0.heap.size w0 w →
 Calls Tryd.prog f #[.pointer (some ⟨x, 0, none⟩), .pointer (some ⟨y, 0, none⟩)] w fun e w' => ∃ z, e = .returned (.pointer (some ⟨z, 0, none⟩)) ∧ Big w' z (op n k) 500 ∧ Below w0.heap.size w0 w'
theorem Makes.at_ {f : Nat} {op : Int → Int → Int} (h : Makes f op) (x y : Nat) (n k : Int) (w0 w : World) (hx : Big w x n 200) (hy : Big w y k 200) (hne : x ≠ y) (h1 : w0.heap.size ≤ x) (h2 : w0.heap.size ≤ y) (h3 : Below w0.heap.size w0 w) :
 Calls Tryd.prog f #[.pointer (some ⟨x, 0, none⟩), .pointer (some ⟨y, 0, none⟩)] w fun e w' => ∃ z, e = .returned (.pointer (some ⟨z, 0, none⟩)) ∧ Big w' z (op n k) 500 ∧ Below w0.heap.size w0 w' := h x y n k w0 w hx hy hne h1 h2 h3
theorem adds : Makes 49 (fun n k => n + k) := by
 intro x y n k w0 w hx hy _ h1 h2 h3
 have HX := Aside0.mk hx
 have HY := Aside0.mk hy
 have HB := Aside0.mk (And.intro h1 h3)
 clear hx hy h1 h2 h3
 go_enter Tryd.func49, Tryd.ntmps49
 go_wp2_with fail
 refine (add_calls x x y n k 200 200 _ HX.out.is HX.out (by omega) HY.out (by omega)).mono ?_
 rintro e w1 ⟨rfl, hb, hg⟩
 have HZ := Aside0.mk hb
 have HG := Aside0.mk (below_of_grown HB.out.2 hg HB.out.1)
 clear hb hg
 go_wp2
 go_ret
 exact ⟨x, rfl, HZ.out.more (by omega), HG.out⟩
theorem subs : Makes 54 (fun n k => n - k) := by
 intro x y n k w0 w hx hy _ h1 h2 h3
 have HX := Aside0.mk hx
 have HY := Aside0.mk hy
 have HB := Aside0.mk (And.intro h1 h3)
 clear hx hy h1 h2 h3
 go_enter Tryd.func54, Tryd.ntmps54
 go_wp2_with fail
 refine (sub_calls x x y n k 200 200 _ HX.out.is HX.out (by omega) HY.out (by omega)).mono ?_
 rintro e w1 ⟨rfl, hb, hg⟩
 have HZ := Aside0.mk hb
 have HG := Aside0.mk (below_of_grown HB.out.2 hg HB.out.1)
 clear hb hg
 go_wp2
 go_ret
 exact ⟨x, rfl, HZ.out.more (by omega), HG.out⟩
theorem muls : Makes 47 (fun n k => n * k) := by
 intro x y n k w0 w hx hy _ h1 h2 h3
 have HX := Aside0.mk hx
 have HY := Aside0.mk hy
 have HB := Aside0.mk (And.intro h1 h3)
 clear hx hy h1 h2 h3
 go_enter Tryd.func47, Tryd.ntmps47
 go_wp2_with fail
 refine (mul_calls x x y n k 200 200 _ HX.out.is HX.out (by omega) HY.out (by omega)).mono ?_
 rintro e w1 ⟨rfl, hb, hg⟩
 have HZ := Aside0.mk hb
 have HG := Aside0.mk (below_of_grown HB.out.2 hg HB.out.1)
 clear hb hg
 go_wp2
 go_ret
 exact ⟨x, rfl, HZ.out.more (by omega), HG.out⟩
theorem own_zero (w : World) (base : Nat) : w.ownsRow base 2 1 (.slice none 0 0) ([] : List Int).length (nums .i64 []) := own_nil _ _ _ _
def bfit (op : Int → Int → Int) (s : Int) (l : List Int) (t : Int) (m : List Int) : Int × List Int × Int := if isW s l && isW t m then wfit (op (wv s l) (wv t m)) else (0, [], 1)
set_option maxRecDepth 100000 in
set_option maxHeartbeats 4000000 in
theorem binary_calls {f : Nat} {fn : Func} (hf : Tryd.prog.funcs[f]? = some fn) (hname : (fn.name == "runtime.NumGoroutine") = false) (hb : fn.body.isSome = true) (op : Int → Int → Int) (hop : Makes f op) (s : Int) (A : Option Addr) (c : Nat) (l : List Int) (t : Int) (B : Option Addr) (d : Nat) (m : List Int) (r1 : Int) (r2 : List Int) (r3 : Int) (w : World)
  (hr0 : Kd.C (Kd.int .i64) w A l.length l) (hc0 : l.length ≤ c) (hr1 : Kd.C (Kd.int .i64) w B m.length m) (hc1 : m.length ≤ d) (hl : l.length ≤ 1000000000 ∧ m.length ≤ 1000000000) (h : bfit op s l t m = (r1, r2, r3)) :
  Calls Tryd.prog 46 #[.agg #[.int .i64 s, .slice A l.length c], .agg #[.int .i64 t, .slice B m.length d], .func (.func f) #[] #[]] w fun e w' => ∃ v1_ : Value, e = .returned (.tuple #[.agg #[.int .i64 r1, v1_], .int .i64 r3]) ∧ w'.ownsRow w.heap.size 2 1 v1_ r2.length (nums .i64 r2) ∧ Below w.heap.size w w' := by
 have HF := Aside0.mk (And.intro hf (And.intro hname hb))
 have HR := Aside0.mk hr0
 have HS := Aside0.mk hr1
 have T0 := Aside0.mk (TwoBox.start w s A c l t B d m)
 have R0 := Aside0.mk (ResAt.next T0.out.lo)
 have T1 := Aside0.mk (T0.out.below (below_alloc (Below.refl _ _) (.cells #[.int .i64 0, .slice none 0 0] 26)))
 have HL := Aside0.mk hl
 have HO := Aside0.mk hop
 clear hr0 hr1 hl hf hname hb hop T0
 have hsz : ((w.alloc (.cells #[.int .i64 s, .slice A l.length c] 26)).alloc (.cells #[.int .i64 t, .slice B m.length d] 26)).heap.size = w.heap.size + 2 := by rw [alloc_size, alloc_size]
 rw [hsz] at R0
 clear hsz
 cases hw : isW s l
 ·unfold bfit at h
  rw [hw] at h
  simp only [Bool.false_and, Bool.false_eq_true, if_false, Prod.mk.injEq] at h
  obtain ⟨rfl, rfl, rfl⟩ := h
  have HW := Aside0.mk hw
  clear hw
  go_enter Tryd.func46, Tryd.ntmps46
  go_wp2_with fail
  refine (isWhole_of _ _ _ _ (Kd.C_below HR.out T1.out.lo) hc0 HL.out.1).mono ?_
  rintro e w1 ⟨rfl, hb⟩
  rw [HW.out]
  have R1 := Aside0.mk (R0.out.below hb)
  obtain ⟨q0, q1, q2, q3⟩ := R1.out.cells
  clear hb
  go_wp2_with fail
  refine bodyPost_ret (results_ct rfl _ _ (w.heap.size + 2) 26 #[.int .i64 0, .slice none 0 0] (0, 0) _ rfl (R1.out.put _ _) Tryd.underlying26 rfl (by kernel_rfl)) rfl ?_
  exact ⟨_, rfl, R1.out.own (own_zero w1 (w.heap.size + 3)) (by omega) _ _, R1.out.low _ _⟩
 ·have HW := Aside0.mk hw
  cases hv : isW t m
  ·unfold bfit at h
   rw [hw, hv] at h
   simp only [Bool.and_false, Bool.false_eq_true, if_false, Prod.mk.injEq] at h
   obtain ⟨rfl, rfl, rfl⟩ := h
   have HV := Aside0.mk hv
   clear hw hv
   go_enter Tryd.func46, Tryd.ntmps46
   go_wp2_with fail
   refine (isWhole_of _ _ _ _ (Kd.C_below HR.out T1.out.lo) hc0 HL.out.1).mono ?_
   rintro e w1 ⟨rfl, hb⟩
   rw [HW.out]
   have R1 := Aside0.mk (R0.out.below hb)
   have T2 := Aside0.mk (T1.out.below hb)
   obtain ⟨p0, p1, p2, p3⟩ := T2.out.cells
   clear hb
   go_wp2_with fail
   refine (isWhole_of _ _ _ _ (Kd.C_below HS.out T2.out.lo) hc1 HL.out.2).mono ?_
   rintro e w2 ⟨rfl, hb⟩
   rw [HV.out]
   have R2 := Aside0.mk (R1.out.below hb)
   obtain ⟨q0, q1, q2, q3⟩ := R2.out.cells
   clear hb p0 p1 p2 p3
   go_wp2_with fail
   refine bodyPost_ret (results_ct rfl _ _ (w.heap.size + 2) 26 #[.int .i64 0, .slice none 0 0] (0, 0) _ rfl (R2.out.put _ _) Tryd.underlying26 rfl (by kernel_rfl)) rfl ?_
   exact ⟨_, rfl, R2.out.own (own_zero w2 (w.heap.size + 3)) (by omega) _ _, R2.out.low _ _⟩
  ·unfold bfit at h
   rw [hw, hv] at h
   simp only [Bool.and_self, if_true] at h
   have HV := Aside0.mk hv
   have HH := Aside0.mk h
   clear hw hv h
   go_enter Tryd.func46, Tryd.ntmps46
   go_wp2_with fail
   refine (isWhole_of _ _ _ _ (Kd.C_below HR.out T1.out.lo) hc0 HL.out.1).mono ?_
   rintro e w1 ⟨rfl, hb⟩
   rw [HW.out]
   have R1 := Aside0.mk (R0.out.below hb)
   have T2 := Aside0.mk (T1.out.below hb)
   obtain ⟨p0, p1, p2, p3⟩ := T2.out.cells
   clear hb
   go_wp2_with fail
   refine (isWhole_of _ _ _ _ (Kd.C_below HS.out T2.out.lo) hc1 HL.out.2).mono ?_
   rintro e w2 ⟨rfl, hb⟩
   rw [HV.out]
   have R2 := Aside0.mk (R1.out.below hb)
   have T3 := Aside0.mk (T2.out.below hb)
   clear hb p0 p1 p2 p3
   obtain ⟨p0, p1, p2, p3⟩ := T3.out.cells
   go_wp2
   refine start_ (n := 11) (S := fun w' => w'.cell? ⟨w.heap.size, 0, none⟩ = some (.int .i64 s) ∧ w'.cell? ⟨w.heap.size, 1, none⟩ = some (.slice A l.length c) ∧ w'.cell? ⟨w.heap.size + 1, 0, none⟩ = some (.int .i64 t) ∧ w'.cell? ⟨w.heap.size + 1, 1, none⟩ = some (.slice B m.length d)) (ds := [5, 6, 9]) #[false, false, false, false, false, false, false, false, false, false, false] (by kernel_rfl) rfl rfl ⟨p0, p1, p2, p3⟩ (fun hHeld => ?_)
   have Dw3 := Aside0.mk ((Below.refl w2.heap.size w2).drew)
   generalize w2.drew = w3 at hHeld Dw3 ⊢
   refine pure_ (i := 0) (N := some 17) (v := ?_) (a' := ?_) #[true, false, false, false, false, false, false, false, false, false, false] rfl rfl (by kernel_rfl) (fun _ _ _ h => h) (Or.inl ⟨by rfl, ?_⟩) ?_ ?_
   rotate_left
   ·intro w'
    go_simp
    with_reducible rfl
   rotate_left
   ·simp only [Act.put, List.setIfInBounds_toArray, List.set_cons_zero, List.set_cons_succ, i64_w, i32_w]
    rfl
   refine take_ (i := 1) (N := some 18) (v := ?_) (a' := ?_) #[true, true, false, false, false, false, false, false, false, false, false] rfl rfl (by kernel_rfl) (fun _ _ _ h => h) (Or.inl ⟨by rfl, ?_⟩) hHeld ?_ ?_
   rotate_left
   ·rintro w' ⟨s0, s1, s2, s3⟩
    go_simp
    with_reducible rfl
   rotate_left
   ·simp only [Act.put, List.setIfInBounds_toArray, List.set_cons_zero, List.set_cons_succ, i64_w, i32_w]
    rfl
   refine take_ (i := 3) (N := some 20) (v := ?_) (a' := ?_) #[true, true, false, true, false, false, false, false, false, false, false] rfl rfl (by kernel_rfl) (fun _ _ _ h => h) (Or.inl ⟨by rfl, ?_⟩) hHeld ?_ ?_
   rotate_left
   ·rintro w' ⟨s0, s1, s2, s3⟩
    go_simp
    with_reducible rfl
   rotate_left
   ·simp only [Act.put, List.setIfInBounds_toArray, List.set_cons_zero, List.set_cons_succ, i64_w, i32_w]
    rfl
   refine one_ (i := 2) (N := some 19) #[true, true, true, true, false, false, false, false, false, false, false] rfl rfl (by kernel_rfl) (by decide) (fun K hK => ?_)
   have T4 := Aside0.mk (T3.out.below Dw3.out)
   have R4 := Aside0.mk (R2.out.below Dw3.out)
   refine goes_ Tryd.func39 (by kernel_rfl) rfl #[.agg #[.int .i64 s, .slice A l.length c]] (by rfl) rfl rfl (by simp only [List.map_toArray, List.map_cons, List.map_nil]; rfl) ?_
   with_reducible refine (value_calls _ _ _ _ _ (lims_of (Kd.C_below HR.out T4.out.lo) HW.out)).mono ?_
   rintro e w4 ⟨b, rfl, hge, hbig, hb⟩
   refine ⟨_, rfl, ?_⟩
   have T5 := Aside0.mk (T4.out.below hb)
   have R5 := Aside0.mk (R4.out.below hb)
   have BX := Aside0.mk hbig
   have GE := Aside0.mk hge
   have L4 := Aside0.mk hb
   clear hb hge hbig
   refine hK.out _ _ ⟨T5.out.cells.1, T5.out.cells.2.1, T5.out.cells.2.2.1, T5.out.cells.2.2.2⟩ (fun hHeld => ?_)
   clear hK K
   refine norm_ (a' := ?_) ?_ ?_
   rotate_left
   ·show Act.put _ (some 19) _ = _
    simp only [Act.put, List.setIfInBounds_toArray, List.set_cons_zero, List.set_cons_succ, i64_w, i32_w]
    rfl
   refine one_ (i := 4) (N := some 21) #[true, true, true, true, true, false, false, false, false, false, false] rfl rfl (by kernel_rfl) (by decide) (fun K hK => ?_)
   refine goes_ Tryd.func39 (by kernel_rfl) rfl #[.agg #[.int .i64 t, .slice B m.length d]] (by rfl) rfl rfl (by simp only [List.map_toArray, List.map_cons, List.map_nil]; rfl) ?_
   with_reducible refine (value_calls _ _ _ _ _ (lims_of (Kd.C_below HS.out T5.out.lo) HV.out)).mono ?_
   rintro e w5 ⟨b', rfl, hge, hbig, hb⟩
   refine ⟨_, rfl, ?_⟩
   have T6 := Aside0.mk (T5.out.below hb)
   have R6 := Aside0.mk (R5.out.below hb)
   have BX6 := Aside0.mk (BX.out.below hb)
   have BY := Aside0.mk hbig
   have GE2 := Aside0.mk (Nat.le_trans L4.out.size hge)
   have NEB := Aside0.mk (Nat.ne_of_lt (Nat.lt_of_lt_of_le BX.out.lt hge))
   have L5 := Aside0.mk (L4.out.trans (hb.mono L4.out.size))
   clear hb hge hbig
   refine hK.out _ _ ⟨T6.out.cells.1, T6.out.cells.2.1, T6.out.cells.2.2.1, T6.out.cells.2.2.2⟩ (fun hHeld => ?_)
   clear hK K
   refine norm_ (a' := ?_) ?_ ?_
   rotate_left
   ·show Act.put _ (some 21) _ = _
    simp only [Act.put, List.setIfInBounds_toArray, List.set_cons_zero, List.set_cons_succ, i64_w, i32_w]
    rfl
   refine last_ (i := 5) (N := some 22) #[true, true, true, true, true, true, false, false, false, false, false] rfl rfl (by kernel_rfl) (by decide) (fun K hK => ?_)
   refine goesv_ HF.out.1 HF.out.2.1 HF.out.2.2 #[.pointer (some ⟨b, 0, none⟩), .pointer (some ⟨b', 0, none⟩)] (by rfl) rfl rfl rfl (by simp only [List.map_toArray, List.map_cons, List.map_nil]; rfl) ?_
   with_reducible refine (HO.out.at_ b b' _ _ w3 _ (BX6.out.more (isW_len HW.out)) (BY.out.more (isW_len HV.out)) NEB.out GE.out GE2.out L5.out).mono ?_
   rintro e w6 ⟨z, rfl, hbz, hb6⟩
   refine ⟨_, rfl, ?_⟩
   have R7 := Aside0.mk (R4.out.below hb6)
   have BZ := Aside0.mk hbz
   clear hb6 hbz
   refine hK.out _ _ ?_
   clear hK K
   refine norm_ (a' := ?_) ?_ ?_
   rotate_left
   ·show Act.put _ (some 22) _ = _
    simp only [Act.put, List.setIfInBounds_toArray, List.set_cons_zero, List.set_cons_succ, i64_w, i32_w]
    rfl
   refine last_ (i := 6) (N := some 23) #[true, true, true, true, true, true, true, false, false, false, false] rfl rfl (by kernel_rfl) (by decide) (fun K hK => ?_)
   refine goes_ Tryd.func40 (by kernel_rfl) rfl #[.pointer (some ⟨z, 0, none⟩)] (by rfl) rfl rfl (by simp only [List.map_toArray, List.map_cons, List.map_nil]; rfl) ?_
   with_reducible refine (whole_calls z _ 500 _ BZ.out (by omega) r1 r2 r3 HH.out).mono ?_
   rintro e w7 ⟨v, rfl, hr, hb7⟩
   refine ⟨_, rfl, ?_⟩
   obtain ⟨A1, c1, rfl⟩ := own_slice hr
   have R8 := Aside0.mk (R7.out.below hb7)
   have HRW := Aside0.mk hr
   obtain ⟨q0, q1, q2, q3⟩ := R8.out.cells
   clear hr hb7
   refine hK.out _ _ ?_
   clear hK K
   refine norm_ (a' := ?_) ?_ ?_
   rotate_left
   ·show Act.put _ (some 23) _ = _
    simp only [Act.put, List.setIfInBounds_toArray, List.set_cons_zero, List.set_cons_succ, i64_w, i32_w]
    rfl
   refine pure_ (i := 7) (N := some 24) (v := ?_) (a' := ?_) #[true, true, true, true, true, true, true, true, false, false, false] rfl rfl (by kernel_rfl) (fun _ _ _ h => h) (Or.inl ⟨by rfl, ?_⟩) ?_ ?_
   rotate_left
   ·intro w'
    go_simp
    with_reducible rfl
   rotate_left
   ·simp only [Act.put, List.setIfInBounds_toArray, List.set_cons_zero, List.set_cons_succ, i64_w, i32_w]
    rfl
   refine pure_ (i := 8) (N := some 25) (v := ?_) (a' := ?_) #[true, true, true, true, true, true, true, true, true, false, false] rfl rfl (by kernel_rfl) (fun _ _ _ h => h) (Or.inl ⟨by rfl, ?_⟩) ?_ ?_
   rotate_left
   ·intro w'
    go_simp
    with_reducible rfl
   rotate_left
   ·simp only [Act.put, List.setIfInBounds_toArray, List.set_cons_zero, List.set_cons_succ, i64_w, i32_w]
    rfl
   refine last_ (i := 9) (N := none) #[true, true, true, true, true, true, true, true, true, true, false] rfl rfl (by kernel_rfl) (by decide) (fun K hK => ?_)
   refine skip_ (w1 := ?_) (by rfl) rfl ?_ ?_
   rotate_left
   ·go_simp
    rfl
   refine hK.out _ _ ?_
   clear hK K
   refine pure_ (i := 10) (N := some 7) (v := ?_) (a' := ?_) #[true, true, true, true, true, true, true, true, true, true, true] rfl rfl (by kernel_rfl) (fun _ _ _ h => h) (Or.inl ⟨by rfl, ?_⟩) ?_ ?_
   rotate_left
   ·intro w'
    go_simp
    with_reducible rfl
   rotate_left
   ·simp only [Act.put, List.setIfInBounds_toArray, List.set_cons_zero, List.set_cons_succ, i64_w, i32_w]
    rfl
   refine done_ (by kernel_rfl) ?_
   try go_wp2
   refine bodyPost_ret (results_ct rfl _ _ (w.heap.size + 2) 26 #[.int .i64 r1, .slice A1 r2.length c1] (0, 0) _ rfl (R8.out.put _ _) Tryd.underlying26 rfl (by kernel_rfl)) rfl ?_
   exact ⟨_, rfl, R8.out.own HRW.out R7.out.lo.size _ _, R8.out.low _ _⟩
def impl_AddWholes.f (a0_0 : Int) (l0_1 : List Int) (a1_0 : Int) (l1_1 : List Int) : Option (Int × List Int × Int) := if l0_1.length ≤ 1000000000 ∧ l1_1.length ≤ 1000000000 then some (bfit (fun n k => n + k) a0_0 l0_1 a1_0 l1_1) else none
set_option maxRecDepth 100000 in
set_option maxHeartbeats 2000000 in
theorem impl_AddWholes.calls (a0_0 : Int) (A0_1 : Option Addr) (c0_1 : Nat) (l0_1 : List Int) (a1_0 : Int) (A1_1 : Option Addr) (c1_1 : Nat) (l1_1 : List Int) (r1 : Int) (r2 : List Int) (r3 : Int) (w : World) (hr0_1 : Kd.C (Kd.int .i64) w A0_1 l0_1.length l0_1) (hc0_1 : l0_1.length ≤ c0_1) (hr1_1 : Kd.C (Kd.int .i64) w A1_1 l1_1.length l1_1) (hc1_1 : l1_1.length ≤ c1_1) (h : impl_AddWholes.f a0_0 l0_1 a1_0 l1_1 = some (r1, r2, r3)) :
  Calls Tryd.prog 13 #[.agg #[.int .i64 a0_0, .slice A0_1 l0_1.length c0_1], .agg #[.int .i64 a1_0, .slice A1_1 l1_1.length c1_1]] w fun e w' => ∃ v1_ : Value, e = .returned (.tuple #[.agg #[.int .i64 r1, v1_], .int .i64 r3]) ∧ Kd.R (Kd.int .i64) 2 w' w.heap.size (fun _ => True) v1_ r2 ∧ Below w.heap.size w w' := by
 unfold impl_AddWholes.f at h
 split at h
 case isFalse => cases h
 rename_i hl
 injection h with h
 have HR := Aside0.mk hr0_1
 have HS := Aside0.mk hr1_1
 have T0 := Aside0.mk (TwoBox.start w a0_0 A0_1 c0_1 l0_1 a1_0 A1_1 c1_1 l1_1)
 have R0 := Aside0.mk (ResAt.next T0.out.lo)
 have T1 := Aside0.mk (T0.out.below (below_alloc (Below.refl _ _) (.cells #[.int .i64 0, .slice none 0 0] 26)))
 have HL := Aside0.mk hl
 have HH := Aside0.mk h
 clear hr0_1 hr1_1 hl T0 h
 have hsz : ((w.alloc (.cells #[.int .i64 a0_0, .slice A0_1 l0_1.length c0_1] 26)).alloc (.cells #[.int .i64 a1_0, .slice A1_1 l1_1.length c1_1] 26)).heap.size = w.heap.size + 2 := by rw [alloc_size, alloc_size]
 rw [hsz] at R0
 clear hsz
 go_enter Tryd.func13, Tryd.ntmps13
 go_wp2_with fail
 refine (binary_calls Tryd.func49 rfl rfl _ adds _ _ _ _ _ _ _ _ r1 r2 r3 _ (Kd.C_below HR.out T1.out.lo) hc0_1 (Kd.C_below HS.out T1.out.lo) hc1_1 HL.out HH.out).mono ?_
 rintro e w1 ⟨v, rfl, hr, hb⟩
 obtain ⟨u1, u2, rfl⟩ := own_slice hr
 have R1 := Aside0.mk (R0.out.below hb)
 have HRW := Aside0.mk hr
 obtain ⟨q0, q1, q2, q3⟩ := R1.out.cells
 clear hr hb
 go_wp2_with fail
 refine bodyPost_ret (results_ct rfl _ _ (w.heap.size + 2) 26 #[.int .i64 r1, .slice u1 r2.length u2] (0, 0) _ rfl (R1.out.put _ _) Tryd.underlying26 rfl (by kernel_rfl)) rfl ?_
 exact ⟨_, rfl, R1.out.row HRW.out R0.out.lo.size _ _, R1.out.low _ _⟩
def impl_SubtractWholes.f (a0_0 : Int) (l0_1 : List Int) (a1_0 : Int) (l1_1 : List Int) : Option (Int × List Int × Int) := if l0_1.length ≤ 1000000000 ∧ l1_1.length ≤ 1000000000 then some (bfit (fun n k => n - k) a0_0 l0_1 a1_0 l1_1) else none
set_option maxRecDepth 100000 in
set_option maxHeartbeats 2000000 in
theorem impl_SubtractWholes.calls (a0_0 : Int) (A0_1 : Option Addr) (c0_1 : Nat) (l0_1 : List Int) (a1_0 : Int) (A1_1 : Option Addr) (c1_1 : Nat) (l1_1 : List Int) (r1 : Int) (r2 : List Int) (r3 : Int) (w : World) (hr0_1 : Kd.C (Kd.int .i64) w A0_1 l0_1.length l0_1) (hc0_1 : l0_1.length ≤ c0_1) (hr1_1 : Kd.C (Kd.int .i64) w A1_1 l1_1.length l1_1) (hc1_1 : l1_1.length ≤ c1_1) (h : impl_SubtractWholes.f a0_0 l0_1 a1_0 l1_1 = some (r1, r2, r3)) :
  Calls Tryd.prog 17 #[.agg #[.int .i64 a0_0, .slice A0_1 l0_1.length c0_1], .agg #[.int .i64 a1_0, .slice A1_1 l1_1.length c1_1]] w fun e w' => ∃ v1_ : Value, e = .returned (.tuple #[.agg #[.int .i64 r1, v1_], .int .i64 r3]) ∧ Kd.R (Kd.int .i64) 2 w' w.heap.size (fun _ => True) v1_ r2 ∧ Below w.heap.size w w' := by
 unfold impl_SubtractWholes.f at h
 split at h
 case isFalse => cases h
 rename_i hl
 injection h with h
 have HR := Aside0.mk hr0_1
 have HS := Aside0.mk hr1_1
 have T0 := Aside0.mk (TwoBox.start w a0_0 A0_1 c0_1 l0_1 a1_0 A1_1 c1_1 l1_1)
 have R0 := Aside0.mk (ResAt.next T0.out.lo)
 have T1 := Aside0.mk (T0.out.below (below_alloc (Below.refl _ _) (.cells #[.int .i64 0, .slice none 0 0] 26)))
 have HL := Aside0.mk hl
 have HH := Aside0.mk h
 clear hr0_1 hr1_1 hl T0 h
 have hsz : ((w.alloc (.cells #[.int .i64 a0_0, .slice A0_1 l0_1.length c0_1] 26)).alloc (.cells #[.int .i64 a1_0, .slice A1_1 l1_1.length c1_1] 26)).heap.size = w.heap.size + 2 := by rw [alloc_size, alloc_size]
 rw [hsz] at R0
 clear hsz
 go_enter Tryd.func17, Tryd.ntmps17
 go_wp2_with fail
 refine (binary_calls Tryd.func54 rfl rfl _ subs _ _ _ _ _ _ _ _ r1 r2 r3 _ (Kd.C_below HR.out T1.out.lo) hc0_1 (Kd.C_below HS.out T1.out.lo) hc1_1 HL.out HH.out).mono ?_
 rintro e w1 ⟨v, rfl, hr, hb⟩
 obtain ⟨u1, u2, rfl⟩ := own_slice hr
 have R1 := Aside0.mk (R0.out.below hb)
 have HRW := Aside0.mk hr
 obtain ⟨q0, q1, q2, q3⟩ := R1.out.cells
 clear hr hb
 go_wp2_with fail
 refine bodyPost_ret (results_ct rfl _ _ (w.heap.size + 2) 26 #[.int .i64 r1, .slice u1 r2.length u2] (0, 0) _ rfl (R1.out.put _ _) Tryd.underlying26 rfl (by kernel_rfl)) rfl ?_
 exact ⟨_, rfl, R1.out.row HRW.out R0.out.lo.size _ _, R1.out.low _ _⟩
def impl_MultiplyWholes.f (a0_0 : Int) (l0_1 : List Int) (a1_0 : Int) (l1_1 : List Int) : Option (Int × List Int × Int) := if l0_1.length ≤ 1000000000 ∧ l1_1.length ≤ 1000000000 then some (bfit (fun n k => n * k) a0_0 l0_1 a1_0 l1_1) else none
set_option maxRecDepth 100000 in
set_option maxHeartbeats 2000000 in
theorem impl_MultiplyWholes.calls (a0_0 : Int) (A0_1 : Option Addr) (c0_1 : Nat) (l0_1 : List Int) (a1_0 : Int) (A1_1 : Option Addr) (c1_1 : Nat) (l1_1 : List Int) (r1 : Int) (r2 : List Int) (r3 : Int) (w : World) (hr0_1 : Kd.C (Kd.int .i64) w A0_1 l0_1.length l0_1) (hc0_1 : l0_1.length ≤ c0_1) (hr1_1 : Kd.C (Kd.int .i64) w A1_1 l1_1.length l1_1) (hc1_1 : l1_1.length ≤ c1_1) (h : impl_MultiplyWholes.f a0_0 l0_1 a1_0 l1_1 = some (r1, r2, r3)) :
  Calls Tryd.prog 12 #[.agg #[.int .i64 a0_0, .slice A0_1 l0_1.length c0_1], .agg #[.int .i64 a1_0, .slice A1_1 l1_1.length c1_1]] w fun e w' => ∃ v1_ : Value, e = .returned (.tuple #[.agg #[.int .i64 r1, v1_], .int .i64 r3]) ∧ Kd.R (Kd.int .i64) 2 w' w.heap.size (fun _ => True) v1_ r2 ∧ Below w.heap.size w w' := by
 unfold impl_MultiplyWholes.f at h
 split at h
 case isFalse => cases h
 rename_i hl
 injection h with h
 have HR := Aside0.mk hr0_1
 have HS := Aside0.mk hr1_1
 have T0 := Aside0.mk (TwoBox.start w a0_0 A0_1 c0_1 l0_1 a1_0 A1_1 c1_1 l1_1)
 have R0 := Aside0.mk (ResAt.next T0.out.lo)
 have T1 := Aside0.mk (T0.out.below (below_alloc (Below.refl _ _) (.cells #[.int .i64 0, .slice none 0 0] 26)))
 have HL := Aside0.mk hl
 have HH := Aside0.mk h
 clear hr0_1 hr1_1 hl T0 h
 have hsz : ((w.alloc (.cells #[.int .i64 a0_0, .slice A0_1 l0_1.length c0_1] 26)).alloc (.cells #[.int .i64 a1_0, .slice A1_1 l1_1.length c1_1] 26)).heap.size = w.heap.size + 2 := by rw [alloc_size, alloc_size]
 rw [hsz] at R0
 clear hsz
 go_enter Tryd.func12, Tryd.ntmps12
 go_wp2_with fail
 refine (binary_calls Tryd.func47 rfl rfl _ muls _ _ _ _ _ _ _ _ r1 r2 r3 _ (Kd.C_below HR.out T1.out.lo) hc0_1 (Kd.C_below HS.out T1.out.lo) hc1_1 HL.out HH.out).mono ?_
 rintro e w1 ⟨v, rfl, hr, hb⟩
 obtain ⟨u1, u2, rfl⟩ := own_slice hr
 have R1 := Aside0.mk (R0.out.below hb)
 have HRW := Aside0.mk hr
 obtain ⟨q0, q1, q2, q3⟩ := R1.out.cells
 clear hr hb
 go_wp2_with fail
 refine bodyPost_ret (results_ct rfl _ _ (w.heap.size + 2) 26 #[.int .i64 r1, .slice u1 r2.length u2] (0, 0) _ rfl (R1.out.put _ _) Tryd.underlying26 rfl (by kernel_rfl)) rfl ?_
 exact ⟨_, rfl, R1.out.row HRW.out R0.out.lo.size _ _, R1.out.low _ _⟩
end Go.Proofs.YtlkomiiijhphnaaDoor
namespace Go.Proofs.YtlkomiiijhphnaaDoor
open Go.RowKit Go.Proofs.YtlkomiiijhphnaaDoorW.PrintWords Go.Proofs.YtlkomiiijhphnaaDoorW.PrintLast Go.Proofs.YtlkomiiijhphnaaDoorW.PrintMore Go.Proofs.YtlkomiiijhphnaaDoor.Math Go.Proofs.YtlkomiiijhphnaaDoor.Big
set_option linter.unusedVariables false
set_option linter.unusedSimpArgs false
structure OneBox (w wr : World) (a : Int) (A : Option Addr) (c : Nat) (l : List Int) : Prop where
 lo : Below w.heap.size w wr
 x : wr.heap[w.heap.size]? = some (.cells #[.int .i64 a, .slice A l.length c] 26 (0, 0))
theorem OneBox.start (w : World) (a : Int) (A : Option Addr) (c : Nat) (l : List Int) : OneBox w (w.alloc (.cells #[.int .i64 a, .slice A l.length c] 26)) a A c l := ⟨(Below.refl _ _).alloc (Nat.le_refl _) _, heap_alloc_new w _⟩
theorem OneBox.below {w wr w1 : World} {a : Int} {A : Option Addr} {c : Nat} {l : List Int} (h : OneBox w wr a A c l) (hb : Below wr.heap.size wr w1) : OneBox w w1 a A c l := ⟨h.lo.trans (hb.mono h.lo.size), blk_below h.x hb⟩
theorem OneBox.cells {w wr : World} {a : Int} {A : Option Addr} {c : Nat} {l : List Int} (h : OneBox w wr a A c l) : wr.cell? ⟨w.heap.size, 0, none⟩ = some (.int .i64 a) ∧ wr.cell? ⟨w.heap.size, 1, none⟩ = some (.slice A l.length c) :=
 ⟨(blk_cell h.x 0).trans rfl, (blk_cell h.x 1).trans rfl⟩
end Go.Proofs.YtlkomiiijhphnaaDoor
