/- The contracts of impl.IsDyadic, impl.dyadicCode and impl.ScaleDyadic in plain words. Conditions: at most 1000000000 limbs; the library's table holds its numbers. -/
import Derived.Test.YtdbdhgimokaooaaDoorG17
import Derived.Test.YtdbdhgimokaooaaDoorA2
/- The contracts of (impl.Dyadic).value, (impl.number).floor and impl.FloorDyadic in plain words. Conditions: at most 1000000000 limbs; the library's table holds its numbers. -/
namespace Go.Proofs.YtdbdhgimokaooaaDoor
open Go.RowKit Go.Proofs.YtdbdhgimokaooaaDoorW.PrintWords Go.Proofs.YtdbdhgimokaooaaDoorW.PrintLast Go.Proofs.YtdbdhgimokaooaaDoorW.PrintMore Go.Proofs.YtdbdhgimokaooaaDoor.Math Go.Proofs.YtdbdhgimokaooaaDoor.Big
set_option linter.unusedVariables false
set_option linter.unusedSimpArgs false
theorem A_between5 (x : Int) : A.impl_between.f x (-5000) 5000 = some (decide (-5000 ≤ x) && decide (x ≤ 5000)) := by
 unfold A.impl_between.f
 by_cases h : -5000 ≤ x
 ·rw [if_pos h]
  simp [h]
 ·rw [if_neg h]
  simp [h]
theorem A_isDyadic (s : Int) (l : List Int) (e : Int) (hl : l.length ≤ 1000000000) : A.impl_IsDyadic.f (l.length + 2) s l e = some (isD s l e) := by
 have hw : A.impl_IsWhole.f (l.length + 2) s l = some (isW s l) := by
  have := A_isWhole s l hl l.length (l.length + 2) 0 (Nat.zero_le _) (Nat.sub_zero _) (by omega)
  simpa [A.impl_IsWhole.f, isW] using this
 unfold A.impl_IsDyadic.f
 rw [hw]
 simp only [Option.bind_some, A_between5]
 unfold isD
 cases h : isW s l
 ·simp only [Bool.false_eq_true, if_false, Bool.false_and, A.impl_IsDyadic.j0, if_true]
 ·simp only [if_true, Bool.true_and]
  cases h2 : (decide (-5000 ≤ e) && decide (e ≤ 5000))
  ·simp [A.impl_IsDyadic.j0]
  ·simp only [A.impl_IsDyadic.j0, Bool.not_true, Bool.false_eq_true, if_false, Bool.true_and]
   by_cases hs : s = 0
   ·rw [if_pos hs, if_pos hs]
   ·have hne := isW_ne h hs
    have hp : 0 < l.length := List.length_pos_iff.2 hne
    rw [if_neg hs, if_neg hs, if_pos (by omega)]
    rfl
theorem isDyadic_of {w : World} (s : Int) (A : Option Addr) (c : Nat) (l : List Int) (e : Int) (hr : Kd.C (Kd.int .i64) w A l.length l) (hc : l.length ≤ c) (hl : l.length ≤ 1000000000) :
  Calls Tryd.prog 48 #[.agg #[.int .i64 s, .slice A l.length c, .int .i64 e]] w fun x w' => x = .returned (.bool (isD s l e)) ∧ Below w.heap.size w w' :=
 Go.Proofs.YtdbdhgimokaooaaDoor.A.impl_IsDyadic.calls (l.length + 2) s A c l e (isD s l e) w hr hc (A_isDyadic s l e hl)
theorem isD_isW {s : Int} {l : List Int} {e : Int} (h : isD s l e = true) : isW s l = true := by
 unfold isD at h
 rw [Bool.and_eq_true] at h
 exact h.1
theorem isD_exp {s : Int} {l : List Int} {e : Int} (h : isD s l e = true) : -5000 ≤ e ∧ e ≤ 5000 := by
 unfold isD at h
 simp only [Bool.and_eq_true, decide_eq_true_eq] at h
 exact h.2.1
structure DyBox (w wr : World) (s : Int) (A : Option Addr) (c : Nat) (l : List Int) (e : Int) : Prop where
 lo : Below w.heap.size w wr
 x : wr.heap[w.heap.size]? = some (.cells #[.int .i64 s, .slice A l.length c, .int .i64 e] 28 (0, 0))
theorem DyBox.start (w : World) (s : Int) (A : Option Addr) (c : Nat) (l : List Int) (e : Int) : DyBox w (w.alloc (.cells #[.int .i64 s, .slice A l.length c, .int .i64 e] 28)) s A c l e := ⟨(Below.refl _ _).alloc (Nat.le_refl _) _, heap_alloc_new w _⟩
theorem DyBox.below {w wr w1 : World} {s : Int} {A : Option Addr} {c : Nat} {l : List Int} {e : Int} (h : DyBox w wr s A c l e) (hb : Below wr.heap.size wr w1) : DyBox w w1 s A c l e := ⟨h.lo.trans (hb.mono h.lo.size), blk_below h.x hb⟩
theorem DyBox.cells {w wr : World} {s : Int} {A : Option Addr} {c : Nat} {l : List Int} {e : Int} (h : DyBox w wr s A c l e) : wr.cell? ⟨w.heap.size, 0, none⟩ = some (.int .i64 s) ∧ wr.cell? ⟨w.heap.size, 1, none⟩ = some (.slice A l.length c) ∧ wr.cell? ⟨w.heap.size, 2, none⟩ = some (.int .i64 e) :=
 ⟨(blk_cell h.x 0).trans rfl, (blk_cell h.x 1).trans rfl, (blk_cell h.x 2).trans rfl⟩
end Go.Proofs.YtdbdhgimokaooaaDoor
namespace Go.Proofs.YtdbdhgimokaooaaDoor
open Go.RowKit Go.Proofs.YtdbdhgimokaooaaDoorW.PrintWords Go.Proofs.YtdbdhgimokaooaaDoorW.PrintLast Go.Proofs.YtdbdhgimokaooaaDoorW.PrintMore Go.Proofs.YtdbdhgimokaooaaDoor.Math Go.Proofs.YtdbdhgimokaooaaDoor.Big
set_option linter.unusedVariables false
set_option linter.unusedSimpArgs false
theorem results_c1 {P : Program} {fn : Func} {p : Tmp} {ty : TypeId} (h : fn.results = #[.cell p ty]) (tmps : Array Value) (w : World) (g : Nat) (t : TypeId) (cs : Array Value) (fr : Nat × Nat) (d : TypeDesc)
  (hp : tmps.getD p undef = .pointer (some ⟨g, 0, none⟩)) (hg : w.heap[g]? = some (.cells cs t fr))
  (hu : P.underlying ty = some d) (hd : (match d with | .struct _ | .array _ _ => true | _ => false) = true) (hi : (P.info? ty).map (·.size) = some cs.size) :
  (results fn tmps).run P w = .ok (.agg cs) w := by
 have hp' : tmps[p]?.getD undef = .pointer (some ⟨g, 0, none⟩) := by simpa using hp
 simp [results, h, hp', asAddr, run_loadVar_row w g t ty cs fr d hg hu hd hi]
structure ResN (w wr : World) (b : Nat) : Prop where
 lo : Below w.heap.size w wr
 box : wr.heap[b]? = some (.cells #[.pointer none, .int .i64 0] 62 (0, 0))
 ge : w.heap.size ≤ b
theorem ResN.below {w wr w1 : World} {b : Nat} (h : ResN w wr b) (hb : Below wr.heap.size wr w1) : ResN w w1 b := ⟨h.lo.trans (hb.mono h.lo.size), blk_below h.box hb, h.ge⟩
theorem ResN.next {w wr : World} (h : Below w.heap.size w wr) : ResN w (wr.alloc (.cells #[.pointer none, .int .i64 0] 62)) wr.heap.size := ⟨h.alloc h.size _, heap_alloc_new wr _, h.size⟩
theorem ResN.cells {w wr : World} {b : Nat} (h : ResN w wr b) : wr.cell? ⟨b, 0, none⟩ = some (.pointer none) ∧ wr.cell? ⟨b, 1, none⟩ = some (.int .i64 0) ∧ wr.frozen? ⟨b, 0, none⟩ = false ∧ wr.frozen? ⟨b, 1, none⟩ = false :=
 ⟨(blk_cell h.box 0).trans rfl, (blk_cell h.box 1).trans rfl, blk_frozen h.box 0, blk_frozen h.box 1⟩
theorem ResN.put {w wr : World} {b : Nat} (h : ResN w wr b) (a v : Value) : ((wr.setCell ⟨b, 0, none⟩ a).setCell ⟨b, 1, none⟩ v).heap[b]? = some (.cells #[a, v] 62 (0, 0)) :=
 blk_put (cs := #[a, .int .i64 0]) (blk_put (cs := #[.pointer none, .int .i64 0]) h.box 0 _ rfl) 1 _ rfl
theorem ResN.low {w wr : World} {b : Nat} (h : ResN w wr b) (a v : Value) : Below w.heap.size w ((wr.setCell ⟨b, 0, none⟩ a).setCell ⟨b, 1, none⟩ v) :=
 (h.lo.setCell (show w.heap.size ≤ (⟨b, 0, none⟩ : Addr).block from h.ge) _).setCell (show w.heap.size ≤ (⟨b, 1, none⟩ : Addr).block from h.ge) _
theorem grownBy_number {w : World} {b : Nat} {cs : Array Value} (h : w.heap[b]? = some (.cells cs 62 (0, 0))) {x : Nat} (hx : IsBig w x) : x ≠ b := by
 rintro rfl
 obtain ⟨n, u, hz⟩ := hx
 rw [hz] at h
 injection h with h
 injection h with _ h
 exact absurd h (by decide)
theorem digs_storeN {w : World} {b i : Nat} {u v : Value} {xs : List Int} {cs : Array Value} (h : Digs w v xs) (hb : w.heap[b]? = some (.cells cs 62 (0, 0))) : Digs (w.setCell ⟨b, i, none⟩ u) v xs := by
 refine own_move h (fun k hk => ?_)
 obtain ⟨cells, hc⟩ := own_typed h k hk
 refine Below.heap_setCell w ⟨b, i, none⟩ u k ?_
 rintro rfl
 rw [hc] at hb
 injection hb with hb
 injection hb with _ hb
 exact absurd hb (by decide)
theorem big_storeN {w : World} {b i x : Nat} {u : Value} {n : Int} {m : Nat} {cs : Array Value} (h : Big w x n m) (hb : w.heap[b]? = some (.cells cs 62 (0, 0))) : Big (w.setCell ⟨b, i, none⟩ u) x n m := by
 have hne := grownBy_number hb h.is
 obtain ⟨ng, xs, ⟨v, hv, hd⟩, rest⟩ := h
 exact ⟨ng, xs, ⟨v, (Below.heap_setCell w ⟨b, i, none⟩ u x hne).trans hv, digs_storeN hd hb⟩, rest⟩
theorem ResN.big {w wr : World} {b x : Nat} {n : Int} {m : Nat} (h : ResN w wr b) (hx : Big wr x n m) (a v : Value) : Big ((wr.setCell ⟨b, 0, none⟩ a).setCell ⟨b, 1, none⟩ v) x n m :=
 big_storeN (big_storeN hx h.box) (blk_put (cs := #[.pointer none, .int .i64 0]) h.box 0 a rfl)
set_option maxRecDepth 100000 in
set_option maxHeartbeats 2000000 in
theorem dvalue_calls (s : Int) (A : Option Addr) (c : Nat) (l : List Int) (e : Int) (w : World) (hr : Kd.C (Kd.int .i64) w A l.length l) (hw : isW s l = true) :
  Calls Tryd.prog 49 #[.agg #[.int .i64 s, .slice A l.length c, .int .i64 e]] w fun x w' => ∃ b, x = .returned (.agg #[.pointer (some ⟨b, 0, none⟩), .int .i64 e]) ∧ w.heap.size ≤ b ∧ Big w' b (wv s l) 200 ∧ Below w.heap.size w w' := by
 have HR := Aside0.mk hr
 have HW := Aside0.mk hw
 have R0 := Aside0.mk (ResN.next (DyBox.start w s A c l e).lo)
 have D0 := Aside0.mk ((DyBox.start w s A c l e).below (below_alloc (Below.refl _ _) (.cells #[.pointer none, .int .i64 0] 62)))
 clear hr hw
 rw [alloc_size] at R0
 obtain ⟨p0, p1, p2⟩ := D0.out.cells
 go_enter Tryd.func49, Tryd.ntmps49
 go_wp2
 generalize hw0 : (w.alloc (.cells #[.int .i64 s, .slice A l.length c, .int .i64 e] 28)).alloc (.cells #[.pointer none, .int .i64 0] 62) = w1 at R0 D0 p0 p1 p2 ⊢
 clear hw0
 refine start_ (n := 7) (S := fun w' => w'.cell? ⟨w.heap.size, 0, none⟩ = some (.int .i64 s) ∧ w'.cell? ⟨w.heap.size, 1, none⟩ = some (.slice A l.length c) ∧ w'.cell? ⟨w.heap.size, 2, none⟩ = some (.int .i64 e)) (ds := [6]) #[false, false, false, false, false, false, false] (by kernel_rfl) rfl rfl ⟨p0, p1, p2⟩ (fun hHeld => ?_)
 have Dw3 := Aside0.mk ((Below.refl w1.heap.size w1).drew)
 generalize w1.drew = w3 at hHeld Dw3 ⊢
 refine pure_ (i := 0) (N := some 3) (v := ?_) (a' := ?_) #[true, false, false, false, false, false, false] rfl rfl (by kernel_rfl) (fun _ _ _ h => h) (Or.inl ⟨by rfl, ?_⟩) ?_ ?_
 rotate_left
 ·intro w'
  go_simp
  with_reducible rfl
 rotate_left
 ·simp only [Act.put, List.setIfInBounds_toArray, List.set_cons_zero, List.set_cons_succ, i64_w, i32_w]
  rfl
 refine pure_ (i := 3) (N := some 6) (v := ?_) (a' := ?_) #[true, false, false, true, false, false, false] rfl rfl (by kernel_rfl) (fun _ _ _ h => h) (Or.inl ⟨by rfl, ?_⟩) ?_ ?_
 rotate_left
 ·intro w'
  go_simp
  with_reducible rfl
 rotate_left
 ·simp only [Act.put, List.setIfInBounds_toArray, List.set_cons_zero, List.set_cons_succ, i64_w, i32_w]
  rfl
 refine take_ (i := 1) (N := some 4) (v := ?_) (a' := ?_) #[true, true, false, true, false, false, false] rfl rfl (by kernel_rfl) (fun _ _ _ h => h) (Or.inl ⟨by rfl, ?_⟩) hHeld ?_ ?_
 rotate_left
 ·rintro w' ⟨s0, s1, s2⟩
  go_simp
  with_reducible rfl
 rotate_left
 ·simp only [Act.put, List.setIfInBounds_toArray, List.set_cons_zero, List.set_cons_succ, i64_w, i32_w]
  rfl
 refine take_ (i := 4) (N := some 7) (v := ?_) (a' := ?_) #[true, true, false, true, true, false, false] rfl rfl (by kernel_rfl) (fun _ _ _ h => h) (Or.inl ⟨by rfl, ?_⟩) hHeld ?_ ?_
 rotate_left
 ·rintro w' ⟨s0, s1, s2⟩
  go_simp
  with_reducible rfl
 rotate_left
 ·simp only [Act.put, List.setIfInBounds_toArray, List.set_cons_zero, List.set_cons_succ, i64_w, i32_w]
  rfl
 refine one_ (i := 2) (N := some 5) #[true, true, true, true, true, false, false] rfl rfl (by kernel_rfl) (by decide) (fun K hK => ?_)
 have R3 := Aside0.mk (R0.out.below Dw3.out)
 have D3 := Aside0.mk (D0.out.below Dw3.out)
 refine goes_ Tryd.func41 (by kernel_rfl) rfl #[.agg #[.int .i64 s, .slice A l.length c]] (by rfl) rfl rfl (by simp only [List.map_toArray, List.map_cons, List.map_nil]; rfl) ?_
 with_reducible refine (value_calls _ _ _ _ _ (lims_of (Kd.C_below HR.out D3.out.lo) HW.out)).mono ?_
 rintro x w4 ⟨b, rfl, hge, hbig, hb⟩
 refine ⟨_, rfl, ?_⟩
 have R4 := Aside0.mk (R3.out.below hb)
 have D4 := Aside0.mk (D3.out.below hb)
 have BB := Aside0.mk (hbig.more (isW_len HW.out))
 have GE := Aside0.mk (Nat.le_trans R3.out.lo.size hge)
 obtain ⟨q0, q1, q2, q3⟩ := R4.out.cells
 clear hb hge hbig
 refine hK.out _ _ ⟨D4.out.cells.1, D4.out.cells.2.1, D4.out.cells.2.2⟩ (fun hHeld => ?_)
 clear hK K
 refine norm_ (a' := ?_) ?_ ?_
 rotate_left
 ·show Act.put _ (some 5) _ = _
  simp only [Act.put, List.setIfInBounds_toArray, List.set_cons_zero, List.set_cons_succ, i64_w, i32_w]
  rfl
 refine pure_ (i := 5) (N := some 8) (v := ?_) (a' := ?_) #[true, true, true, true, true, true, false] rfl rfl (by kernel_rfl) (fun _ _ _ h => h) (Or.inl ⟨by rfl, ?_⟩) ?_ ?_
 rotate_left
 ·intro w'
  go_simp
  with_reducible rfl
 rotate_left
 ·simp only [Act.put, List.setIfInBounds_toArray, List.set_cons_zero, List.set_cons_succ, i64_w, i32_w]
  rfl
 refine last_ (i := 6) (N := none) #[true, true, true, true, true, true, true] rfl rfl (by kernel_rfl) (by decide) (fun K hK => ?_)
 refine skip_ (w1 := ?_) (by rfl) rfl ?_ ?_
 rotate_left
 ·go_simp
  rfl
 refine hK.out _ _ ?_
 clear hK K
 refine done_ (by kernel_rfl) ?_
 try go_wp2
 refine bodyPost_ret (results_c1 rfl _ _ (w.heap.size + 1) 62 #[.pointer (some ⟨b, 0, none⟩), .int .i64 e] (0, 0) _ rfl (R4.out.put _ _) Tryd.underlying62 rfl (by kernel_rfl)) rfl ?_
 exact ⟨b, rfl, GE.out, R4.out.big BB.out _ _, R4.out.low _ _⟩
end Go.Proofs.YtdbdhgimokaooaaDoor
/- The contracts of (impl.number).times, impl.pairOf and impl.MultiplyDyadics in plain words. Conditions: at most 1000000000 limbs; the library's table holds its numbers. -/
/- The contracts of (impl.number).plus, (impl.number).minus, impl.AddDyadics and impl.SubtractDyadics in plain words. Conditions: at most 1000000000 limbs; the library's table holds its numbers. -/
namespace Go.Proofs.YtdbdhgimokaooaaDoor
open Go.RowKit Go.Proofs.YtdbdhgimokaooaaDoorW.PrintWords Go.Proofs.YtdbdhgimokaooaaDoorW.PrintLast Go.Proofs.YtdbdhgimokaooaaDoorW.PrintMore Go.Proofs.YtdbdhgimokaooaaDoor.Math Go.Proofs.YtdbdhgimokaooaaDoor.Big
set_option linter.unusedVariables false
set_option linter.unusedSimpArgs false
attribute [local go_sem] max2_int min2_int max_two min_two
theorem mn_le (p q : Int) : mn p q ≤ p ∧ mn p q ≤ q ∧ (mn p q = p ∨ mn p q = q) := by
 unfold mn
 split <;> omega
structure TwoNum (w wr : World) (x : Nat) (p : Int) (y : Nat) (q : Int) : Prop where
 lo : Below w.heap.size w wr
 x : wr.heap[w.heap.size]? = some (.cells #[.pointer (some ⟨x, 0, none⟩), .int .i64 p] 62 (0, 0))
 y : wr.heap[w.heap.size + 1]? = some (.cells #[.pointer (some ⟨y, 0, none⟩), .int .i64 q] 62 (0, 0))
theorem TwoNum.start (w : World) (x : Nat) (p : Int) (y : Nat) (q : Int) :
  TwoNum w ((w.alloc (.cells #[.pointer (some ⟨x, 0, none⟩), .int .i64 p] 62)).alloc (.cells #[.pointer (some ⟨y, 0, none⟩), .int .i64 q] 62)) x p y q := by
 refine ⟨((Below.refl _ _).alloc (Nat.le_refl _) _).alloc (by simp) _, blk_alloc (heap_alloc_new w _) _, ?_⟩
 have := heap_alloc_new (w.alloc (.cells #[.pointer (some ⟨x, 0, none⟩), .int .i64 p] 62)) (.cells #[.pointer (some ⟨y, 0, none⟩), .int .i64 q] 62)
 simpa using this
theorem TwoNum.below {w wr w1 : World} {x : Nat} {p : Int} {y : Nat} {q : Int} (h : TwoNum w wr x p y q) (hb : Below wr.heap.size wr w1) : TwoNum w w1 x p y q := ⟨h.lo.trans (hb.mono h.lo.size), blk_below h.x hb, blk_below h.y hb⟩
theorem TwoNum.cells {w wr : World} {x : Nat} {p : Int} {y : Nat} {q : Int} (h : TwoNum w wr x p y q) :
  wr.cell? ⟨w.heap.size, 0, none⟩ = some (.pointer (some ⟨x, 0, none⟩)) ∧ wr.cell? ⟨w.heap.size, 1, none⟩ = some (.int .i64 p) ∧ wr.cell? ⟨w.heap.size + 1, 0, none⟩ = some (.pointer (some ⟨y, 0, none⟩)) ∧ wr.cell? ⟨w.heap.size + 1, 1, none⟩ = some (.int .i64 q) :=
 ⟨(blk_cell h.x 0).trans rfl, (blk_cell h.x 1).trans rfl, (blk_cell h.y 0).trans rfl, (blk_cell h.y 1).trans rfl⟩
set_option maxRecDepth 100000 in
set_option maxHeartbeats 2000000 in
theorem aligned_calls (x y : Nat) (n m p q : Int) (w : World) {t : Nat} (hx : Big w x n t) (hy : Big w y m t) (hp : -20000 ≤ p ∧ p ≤ 20000) (hq : -20000 ≤ q ∧ q ≤ 20000) (hT : Tab w) (ht : t ≤ 1000 := by omega) :
  Calls Tryd.prog 76 #[.agg #[.pointer (some ⟨x, 0, none⟩), .int .i64 p], .agg #[.pointer (some ⟨y, 0, none⟩), .int .i64 q]] w fun e w' => ∃ z1 z2, e = .returned (.tuple #[.pointer (some ⟨z1, 0, none⟩), .pointer (some ⟨z2, 0, none⟩), .int .i64 (mn p q)]) ∧ w.heap.size ≤ z1 ∧ z1 < z2 ∧ Big w' z1 (n * 2 ^ (p - mn p q).toNat) (t + 4000) ∧ Big w' z2 (m * 2 ^ (q - mn p q).toNat) (t + 4000) ∧ Below w.heap.size w w' := by
 obtain ⟨j, hj⟩ : ∃ j, mn p q = j := ⟨_, rfl⟩
 have hj_ : (if q < p then q else p) = j := hj
 have hm := mn_le p q
 rw [hj] at hm ⊢
 have N0 := Aside0.mk (TwoNum.start w x p y q)
 have HX := Aside0.mk (hx.below N0.out.lo)
 have HY := Aside0.mk (hy.below N0.out.lo)
 have HT := Aside0.mk hT
 have hw1 : wrap64 (p - j) = p - j := w64s (by omega) (by omega)
 have hw2 : wrap64 (q - j) = q - j := w64s (by omega) (by omega)
 have hw3 : IntKind.i64.wrap (p - j) = p - j := by rw [IntKind.wrap_i64]; omega
 have hw4 : IntKind.i64.wrap (q - j) = q - j := by rw [IntKind.wrap_i64]; omega
 have HB := Aside0.mk (show (-100000 ≤ p - j ∧ p - j ≤ 100000 ∧ 0 ≤ p - j) ∧ (-100000 ≤ q - j ∧ q - j ≤ 100000 ∧ 0 ≤ q - j) from by omega)
 have HS := Aside0.mk (show shv n (p - j) = n * 2 ^ (p - j).toNat ∧ shv m (q - j) = m * 2 ^ (q - j).toNat from ⟨by unfold shv; rw [if_pos HB.out.1.2.2], by unfold shv; rw [if_pos HB.out.2.2.2]⟩)
 obtain ⟨p0, p1, p2, p3⟩ := N0.out.cells
 clear hx hy hT hp hq hm
 go_enter Tryd.func76, Tryd.ntmps76
 go_wp2
 generalize hw0 : (w.alloc (.cells #[.pointer (some ⟨x, 0, none⟩), .int .i64 p] 62)).alloc (.cells #[.pointer (some ⟨y, 0, none⟩), .int .i64 q] 62) = w1 at N0 HX HY p0 p1 p2 p3 ⊢
 clear hw0
 refine start_ (n := 18) (S := fun w' => w'.cell? ⟨w.heap.size, 0, none⟩ = some (.pointer (some ⟨x, 0, none⟩)) ∧ w'.cell? ⟨w.heap.size, 1, none⟩ = some (.int .i64 p) ∧ w'.cell? ⟨w.heap.size + 1, 0, none⟩ = some (.pointer (some ⟨y, 0, none⟩)) ∧ w'.cell? ⟨w.heap.size + 1, 1, none⟩ = some (.int .i64 q)) (ds := []) #[false, false, false, false, false, false, false, false, false, false, false, false, false, false, false, false, false, false] (by kernel_rfl) rfl rfl ⟨p0, p1, p2, p3⟩ (fun hHeld => ?_)
 have Dw3 := Aside0.mk ((Below.refl w1.heap.size w1).drew)
 generalize w1.drew = w3 at hHeld Dw3 ⊢
 refine pure_ (i := 0) (N := some 13) (v := ?_) (a' := ?_) #[true, false, false, false, false, false, false, false, false, false, false, false, false, false, false, false, false, false] rfl rfl (by kernel_rfl) (fun _ _ _ h => h) (Or.inl ⟨by rfl, ?_⟩) ?_ ?_
 rotate_left
 ·intro w'
  go_simp
  with_reducible rfl
 rotate_left
 ·simp only [Act.put, List.setIfInBounds_toArray, List.set_cons_zero, List.set_cons_succ, i64_w, i32_w]
  rfl
 refine pure_ (i := 2) (N := some 15) (v := ?_) (a' := ?_) #[true, false, true, false, false, false, false, false, false, false, false, false, false, false, false, false, false, false] rfl rfl (by kernel_rfl) (fun _ _ _ h => h) (Or.inl ⟨by rfl, ?_⟩) ?_ ?_
 rotate_left
 ·intro w'
  go_simp
  with_reducible rfl
 rotate_left
 ·simp only [Act.put, List.setIfInBounds_toArray, List.set_cons_zero, List.set_cons_succ, i64_w, i32_w]
  rfl
 refine pure_ (i := 4) (N := some 17) (v := ?_) (a' := ?_) #[true, false, true, false, true, false, false, false, false, false, false, false, false, false, false, false, false, false] rfl rfl (by kernel_rfl) (fun _ _ _ h => h) (Or.inl ⟨by rfl, ?_⟩) ?_ ?_
 rotate_left
 ·intro w'
  go_simp
  with_reducible rfl
 rotate_left
 ·simp only [Act.put, List.setIfInBounds_toArray, List.set_cons_zero, List.set_cons_succ, i64_w, i32_w]
  rfl
 refine pure_ (i := 7) (N := some 20) (v := ?_) (a' := ?_) #[true, false, true, false, true, false, false, true, false, false, false, false, false, false, false, false, false, false] rfl rfl (by kernel_rfl) (fun _ _ _ h => h) (Or.inl ⟨by rfl, ?_⟩) ?_ ?_
 rotate_left
 ·intro w'
  go_simp
  with_reducible rfl
 rotate_left
 ·simp only [Act.put, List.setIfInBounds_toArray, List.set_cons_zero, List.set_cons_succ, i64_w, i32_w]
  rfl
 refine pure_ (i := 9) (N := some 22) (v := ?_) (a' := ?_) #[true, false, true, false, true, false, false, true, false, true, false, false, false, false, false, false, false, false] rfl rfl (by kernel_rfl) (fun _ _ _ h => h) (Or.inl ⟨by rfl, ?_⟩) ?_ ?_
 rotate_left
 ·intro w'
  go_simp
  with_reducible rfl
 rotate_left
 ·simp only [Act.put, List.setIfInBounds_toArray, List.set_cons_zero, List.set_cons_succ, i64_w, i32_w]
  rfl
 refine pure_ (i := 11) (N := some 24) (v := ?_) (a' := ?_) #[true, false, true, false, true, false, false, true, false, true, false, true, false, false, false, false, false, false] rfl rfl (by kernel_rfl) (fun _ _ _ h => h) (Or.inl ⟨by rfl, ?_⟩) ?_ ?_
 rotate_left
 ·intro w'
  go_simp
  with_reducible rfl
 rotate_left
 ·simp only [Act.put, List.setIfInBounds_toArray, List.set_cons_zero, List.set_cons_succ, i64_w, i32_w]
  rfl
 refine pure_ (i := 14) (N := some 27) (v := ?_) (a' := ?_) #[true, false, true, false, true, false, false, true, false, true, false, true, false, false, true, false, false, false] rfl rfl (by kernel_rfl) (fun _ _ _ h => h) (Or.inl ⟨by rfl, ?_⟩) ?_ ?_
 rotate_left
 ·intro w'
  go_simp
  with_reducible rfl
 rotate_left
 ·simp only [Act.put, List.setIfInBounds_toArray, List.set_cons_zero, List.set_cons_succ, i64_w, i32_w]
  rfl
 refine take_ (i := 1) (N := some 14) (v := ?_) (a' := ?_) #[true, true, true, false, true, false, false, true, false, true, false, true, false, false, true, false, false, false] rfl rfl (by kernel_rfl) (fun _ _ _ h => h) (Or.inl ⟨by rfl, ?_⟩) hHeld ?_ ?_
 rotate_left
 ·rintro w' ⟨s0, s1, s2, s3⟩
  go_simp
  with_reducible rfl
 rotate_left
 ·simp only [Act.put, List.setIfInBounds_toArray, List.set_cons_zero, List.set_cons_succ, i64_w, i32_w]
  rfl
 refine take_ (i := 3) (N := some 16) (v := ?_) (a' := ?_) #[true, true, true, true, true, false, false, true, false, true, false, true, false, false, true, false, false, false] rfl rfl (by kernel_rfl) (fun _ _ _ h => h) (Or.inl ⟨by rfl, ?_⟩) hHeld ?_ ?_
 rotate_left
 ·rintro w' ⟨s0, s1, s2, s3⟩
  go_simp
  with_reducible rfl
 rotate_left
 ·simp only [Act.put, List.setIfInBounds_toArray, List.set_cons_zero, List.set_cons_succ, i64_w, i32_w]
  rfl
 refine pure_ (i := 5) (N := some 18) (v := ?_) (a' := ?_) #[true, true, true, true, true, true, false, true, false, true, false, true, false, false, true, false, false, false] rfl rfl (by kernel_rfl) (fun _ _ _ h => h) (Or.inl ⟨by rfl, ?_⟩) ?_ ?_
 rotate_left
 ·intro w'
  go_simp
  with_reducible rfl
 rotate_left
 ·simp only [Act.put, List.setIfInBounds_toArray, List.set_cons_zero, List.set_cons_succ, i64_w, i32_w]
  rfl
 refine take_ (i := 8) (N := some 21) (v := ?_) (a' := ?_) #[true, true, true, true, true, true, false, true, true, true, false, true, false, false, true, false, false, false] rfl rfl (by kernel_rfl) (fun _ _ _ h => h) (Or.inl ⟨by rfl, ?_⟩) hHeld ?_ ?_
 rotate_left
 ·rintro w' ⟨s0, s1, s2, s3⟩
  go_simp
  with_reducible rfl
 rotate_left
 ·simp only [Act.put, List.setIfInBounds_toArray, List.set_cons_zero, List.set_cons_succ, i64_w, i32_w]
  rfl
 refine take_ (i := 10) (N := some 23) (v := ?_) (a' := ?_) #[true, true, true, true, true, true, false, true, true, true, true, true, false, false, true, false, false, false] rfl rfl (by kernel_rfl) (fun _ _ _ h => h) (Or.inl ⟨by rfl, ?_⟩) hHeld ?_ ?_
 rotate_left
 ·rintro w' ⟨s0, s1, s2, s3⟩
  go_simp
  with_reducible rfl
 rotate_left
 ·simp only [Act.put, List.setIfInBounds_toArray, List.set_cons_zero, List.set_cons_succ, i64_w, i32_w]
  rfl
 refine pure_ (i := 12) (N := some 25) (v := ?_) (a' := ?_) #[true, true, true, true, true, true, false, true, true, true, true, true, true, false, true, false, false, false] rfl rfl (by kernel_rfl) (fun _ _ _ h => h) (Or.inl ⟨by rfl, ?_⟩) ?_ ?_
 rotate_left
 ·intro w'
  go_simp
  with_reducible rfl
 rotate_left
 ·simp only [Act.put, List.setIfInBounds_toArray, List.set_cons_zero, List.set_cons_succ, i64_w, i32_w]
  rfl
 refine one_ (i := 6) (N := some 19) #[true, true, true, true, true, true, true, true, true, true, true, true, true, false, true, false, false, false] rfl rfl (by kernel_rfl) (by decide) (fun K hK => ?_)
 have N3 := Aside0.mk (N0.out.below Dw3.out)
 refine goes_ Tryd.func98 (by kernel_rfl) rfl #[.pointer (some ⟨x, 0, none⟩), .int .i64 (p - j)] (by rfl) rfl rfl (by simp only [List.map_toArray, List.map_cons, List.map_nil]; rfl) ?_
 with_reducible refine (shifted_calls x n (p - j) t _ (HX.out.below Dw3.out) (by omega) HB.out.1.1 HB.out.1.2.1 (HT.out.below N3.out.lo)).mono ?_
 rintro e w4 ⟨z1, rfl, hge1, hbig1, hb1⟩
 refine ⟨_, rfl, ?_⟩
 have N4 := Aside0.mk (N3.out.below hb1)
 have Y4 := Aside0.mk ((HY.out.below Dw3.out).below hb1)
 have BZ1 := Aside0.mk hbig1
 have GE1 := Aside0.mk (Nat.le_trans N3.out.lo.size hge1)
 clear hb1 hge1 hbig1
 refine hK.out _ _ ⟨N4.out.cells.1, N4.out.cells.2.1, N4.out.cells.2.2.1, N4.out.cells.2.2.2⟩ (fun hHeld => ?_)
 clear hK K
 refine norm_ (a' := ?_) ?_ ?_
 rotate_left
 ·show Act.put _ (some 19) _ = _
  simp only [Act.put, List.setIfInBounds_toArray, List.set_cons_zero, List.set_cons_succ, i64_w, i32_w]
  rfl
 refine one_ (i := 13) (N := some 26) #[true, true, true, true, true, true, true, true, true, true, true, true, true, true, true, false, false, false] rfl rfl (by kernel_rfl) (by decide) (fun K hK => ?_)
 refine goes_ Tryd.func98 (by kernel_rfl) rfl #[.pointer (some ⟨y, 0, none⟩), .int .i64 (q - j)] (by rfl) rfl rfl (by simp only [List.map_toArray, List.map_cons, List.map_nil]; rfl) ?_
 with_reducible refine (shifted_calls y m (q - j) t _ Y4.out (by omega) HB.out.2.1 HB.out.2.2.1 (HT.out.below N4.out.lo)).mono ?_
 rintro e w5 ⟨z2, rfl, hge2, hbig2, hb2⟩
 refine ⟨_, rfl, ?_⟩
 have N5 := Aside0.mk (N4.out.below hb2)
 have BZ5 := Aside0.mk (BZ1.out.below hb2)
 have BZ2 := Aside0.mk hbig2
 have LT := Aside0.mk (Nat.lt_of_lt_of_le BZ1.out.lt hge2)
 clear hb2 hge2 hbig2
 refine hK.out _ _ ⟨N5.out.cells.1, N5.out.cells.2.1, N5.out.cells.2.2.1, N5.out.cells.2.2.2⟩ (fun hHeld => ?_)
 clear hK K
 refine norm_ (a' := ?_) ?_ ?_
 rotate_left
 ·show Act.put _ (some 26) _ = _
  simp only [Act.put, List.setIfInBounds_toArray, List.set_cons_zero, List.set_cons_succ, i64_w, i32_w]
  rfl
 refine pure_ (i := 15) (N := some 4) (v := ?_) (a' := ?_) #[true, true, true, true, true, true, true, true, true, true, true, true, true, true, true, true, false, false] rfl rfl (by kernel_rfl) (fun _ _ _ h => h) (Or.inl ⟨by rfl, ?_⟩) ?_ ?_
 rotate_left
 ·intro w'
  go_simp
  with_reducible rfl
 rotate_left
 ·simp only [Act.put, List.setIfInBounds_toArray, List.set_cons_zero, List.set_cons_succ, i64_w, i32_w]
  rfl
 refine pure_ (i := 16) (N := some 5) (v := ?_) (a' := ?_) #[true, true, true, true, true, true, true, true, true, true, true, true, true, true, true, true, true, false] rfl rfl (by kernel_rfl) (fun _ _ _ h => h) (Or.inl ⟨by rfl, ?_⟩) ?_ ?_
 rotate_left
 ·intro w'
  go_simp
  with_reducible rfl
 rotate_left
 ·simp only [Act.put, List.setIfInBounds_toArray, List.set_cons_zero, List.set_cons_succ, i64_w, i32_w]
  rfl
 refine pure_ (i := 17) (N := some 6) (v := ?_) (a' := ?_) #[true, true, true, true, true, true, true, true, true, true, true, true, true, true, true, true, true, true] rfl rfl (by kernel_rfl) (fun _ _ _ h => h) (Or.inl ⟨by rfl, ?_⟩) ?_ ?_
 rotate_left
 ·intro w'
  go_simp
  with_reducible rfl
 rotate_left
 ·simp only [Act.put, List.setIfInBounds_toArray, List.set_cons_zero, List.set_cons_succ, i64_w, i32_w]
  rfl
 refine done_ (by kernel_rfl) ?_
 try go_wp2
 refine bodyPost_ret (results_tmp3 rfl _ _ _) rfl ?_
 exact ⟨z1, z2, rfl, GE1.out, LT.out, by rw [← HS.out.1]; exact BZ5.out, by rw [← HS.out.2]; exact BZ2.out, N5.out.lo⟩
set_option maxRecDepth 100000 in
set_option maxHeartbeats 2000000 in
theorem compare_calls (x y : Nat) (n m p q : Int) (w : World) {t : Nat} (hx : Big w x n t) (hy : Big w y m t) (hp : -20000 ≤ p ∧ p ≤ 20000) (hq : -20000 ≤ q ∧ q ≤ 20000) (hT : Tab w) (ht : t ≤ 1000 := by omega) :
  Calls Tryd.prog 50 #[.agg #[.pointer (some ⟨x, 0, none⟩), .int .i64 p], .agg #[.pointer (some ⟨y, 0, none⟩), .int .i64 q]] w fun e w' => e = .returned (.int .i64 (sgn (n * 2 ^ (p - mn p q).toNat - m * 2 ^ (q - mn p q).toNat))) ∧ Below w.heap.size w w' := by
 have N0 := Aside0.mk (TwoNum.start w x p y q)
 have HX := Aside0.mk (hx.below N0.out.lo)
 have HY := Aside0.mk (hy.below N0.out.lo)
 have HT := Aside0.mk (hT.below N0.out.lo)
 have HP := Aside0.mk (And.intro hp hq)
 obtain ⟨p0, p1, p2, p3⟩ := N0.out.cells
 clear hx hy hT hp hq
 go_enter Tryd.func50, Tryd.ntmps50
 go_wp2_with fail
 refine (aligned_calls x y n m p q _ HX.out HY.out HP.out.1 HP.out.2 HT.out).mono ?_
 rintro e w1 ⟨z1, z2, rfl, hge, hlt, hb1, hb2, hb⟩
 have N1 := Aside0.mk (N0.out.below hb)
 have B1 := Aside0.mk hb1
 have B2 := Aside0.mk hb2
 clear hge hlt hb1 hb2 hb
 go_wp2_with fail
 refine (cmp_calls z1 z2 _ _ _ _ _ B1.out (by omega) B2.out (by omega)).mono ?_
 rintro e w2 ⟨rfl, hb⟩
 have N2 := Aside0.mk (N1.out.below hb)
 clear hb
 go_wp2
 go_ret
 exact ⟨rfl, N2.out.lo⟩
structure TwoDy (w wr : World) (s : Int) (A : Option Addr) (c : Nat) (l : List Int) (e t : Int) (B : Option Addr) (d : Nat) (m : List Int) (f : Int) : Prop where
 lo : Below w.heap.size w wr
 x : wr.heap[w.heap.size]? = some (.cells #[.int .i64 s, .slice A l.length c, .int .i64 e] 28 (0, 0))
 y : wr.heap[w.heap.size + 1]? = some (.cells #[.int .i64 t, .slice B m.length d, .int .i64 f] 28 (0, 0))
theorem TwoDy.start (w : World) (s : Int) (A : Option Addr) (c : Nat) (l : List Int) (e t : Int) (B : Option Addr) (d : Nat) (m : List Int) (f : Int) :
  TwoDy w ((w.alloc (.cells #[.int .i64 s, .slice A l.length c, .int .i64 e] 28)).alloc (.cells #[.int .i64 t, .slice B m.length d, .int .i64 f] 28)) s A c l e t B d m f := by
 refine ⟨((Below.refl _ _).alloc (Nat.le_refl _) _).alloc (by simp) _, blk_alloc (heap_alloc_new w _) _, ?_⟩
 have := heap_alloc_new (w.alloc (.cells #[.int .i64 s, .slice A l.length c, .int .i64 e] 28)) (.cells #[.int .i64 t, .slice B m.length d, .int .i64 f] 28)
 simpa using this
theorem TwoDy.below {w wr w1 : World} {s : Int} {A : Option Addr} {c : Nat} {l : List Int} {e t : Int} {B : Option Addr} {d : Nat} {m : List Int} {f : Int} (h : TwoDy w wr s A c l e t B d m f) (hb : Below wr.heap.size wr w1) : TwoDy w w1 s A c l e t B d m f := ⟨h.lo.trans (hb.mono h.lo.size), blk_below h.x hb, blk_below h.y hb⟩
theorem TwoDy.cells {w wr : World} {s : Int} {A : Option Addr} {c : Nat} {l : List Int} {e t : Int} {B : Option Addr} {d : Nat} {m : List Int} {f : Int} (h : TwoDy w wr s A c l e t B d m f) :
  wr.cell? ⟨w.heap.size, 0, none⟩ = some (.int .i64 s) ∧ wr.cell? ⟨w.heap.size, 1, none⟩ = some (.slice A l.length c) ∧ wr.cell? ⟨w.heap.size, 2, none⟩ = some (.int .i64 e) ∧ wr.cell? ⟨w.heap.size + 1, 0, none⟩ = some (.int .i64 t) ∧ wr.cell? ⟨w.heap.size + 1, 1, none⟩ = some (.slice B m.length d) ∧ wr.cell? ⟨w.heap.size + 1, 2, none⟩ = some (.int .i64 f) :=
 ⟨(blk_cell h.x 0).trans rfl, (blk_cell h.x 1).trans rfl, (blk_cell h.x 2).trans rfl, (blk_cell h.y 0).trans rfl, (blk_cell h.y 1).trans rfl, (blk_cell h.y 2).trans rfl⟩
def cmpv (s : Int) (l : List Int) (e t : Int) (m : List Int) (f : Int) : Int := sgn (wv s l * 2 ^ (e - mn e f).toNat - wv t m * 2 ^ (f - mn e f).toNat)
def impl_CompareDyadics.f (a0_0 : Int) (l0_1 : List Int) (a0_2 : Int) (a1_0 : Int) (l1_1 : List Int) (a1_2 : Int) : Option (Int × Int) :=
 if l0_1.length ≤ 1000000000 ∧ l1_1.length ≤ 1000000000 then some (if isD a0_0 l0_1 a0_2 && isD a1_0 l1_1 a1_2 then (cmpv a0_0 l0_1 a0_2 a1_0 l1_1 a1_2, 0) else (0, 1)) else none
set_option maxRecDepth 100000 in
set_option maxHeartbeats 4000000 in
theorem impl_CompareDyadics.calls (a0_0 : Int) (A0_1 : Option Addr) (c0_1 : Nat) (l0_1 : List Int) (a0_2 : Int) (a1_0 : Int) (A1_1 : Option Addr) (c1_1 : Nat) (l1_1 : List Int) (a1_2 : Int) (r1 r2 : Int) (w : World) (hr0_1 : Kd.C (Kd.int .i64) w A0_1 l0_1.length l0_1) (hc0_1 : l0_1.length ≤ c0_1) (hr1_1 : Kd.C (Kd.int .i64) w A1_1 l1_1.length l1_1) (hc1_1 : l1_1.length ≤ c1_1) (hT : Tab w) (h : impl_CompareDyadics.f a0_0 l0_1 a0_2 a1_0 l1_1 a1_2 = some (r1, r2)) :
  Calls Tryd.prog 22 #[.agg #[.int .i64 a0_0, .slice A0_1 l0_1.length c0_1, .int .i64 a0_2], .agg #[.int .i64 a1_0, .slice A1_1 l1_1.length c1_1, .int .i64 a1_2]] w fun e w' => e = .returned (.tuple #[.int .i64 r1, .int .i64 r2]) ∧ Below w.heap.size w w' := by
 unfold impl_CompareDyadics.f at h
 split at h
 case isFalse => cases h
 rename_i hl
 have HR := Aside0.mk hr0_1
 have HS := Aside0.mk hr1_1
 have T0 := Aside0.mk (TwoDy.start w a0_0 A0_1 c0_1 l0_1 a0_2 a1_0 A1_1 c1_1 l1_1 a1_2)
 have HL := Aside0.mk hl
 have HT := Aside0.mk hT
 clear hr0_1 hr1_1 hl hT
 cases hw : isD a0_0 l0_1 a0_2
 ·rw [hw] at h
  simp only [Bool.false_and, Bool.false_eq_true, if_false, Option.some.injEq, Prod.mk.injEq] at h
  obtain ⟨rfl, rfl⟩ := h
  have HW := Aside0.mk hw
  clear hw
  go_enter Tryd.func22, Tryd.ntmps22
  go_wp2_with fail
  refine (isDyadic_of _ _ _ _ _ (Kd.C_below HR.out T0.out.lo) hc0_1 HL.out.1).mono ?_
  rintro e w1 ⟨rfl, hb⟩
  rw [HW.out]
  have T1 := Aside0.mk (T0.out.below hb)
  clear hb
  go_wp2
  go_ret2
  exact ⟨rfl, T1.out.lo⟩
 ·have HW := Aside0.mk hw
  cases hv : isD a1_0 l1_1 a1_2
  ·rw [hw, hv] at h
   simp only [Bool.and_false, Bool.false_eq_true, if_false, Option.some.injEq, Prod.mk.injEq] at h
   obtain ⟨rfl, rfl⟩ := h
   have HV := Aside0.mk hv
   clear hw hv
   go_enter Tryd.func22, Tryd.ntmps22
   go_wp2_with fail
   refine (isDyadic_of _ _ _ _ _ (Kd.C_below HR.out T0.out.lo) hc0_1 HL.out.1).mono ?_
   rintro e w1 ⟨rfl, hb⟩
   rw [HW.out]
   have T1 := Aside0.mk (T0.out.below hb)
   obtain ⟨p0, p1, p2, p3, p4, p5⟩ := T1.out.cells
   clear hb
   go_wp2_with fail
   refine (isDyadic_of _ _ _ _ _ (Kd.C_below HS.out T1.out.lo) hc1_1 HL.out.2).mono ?_
   rintro e w2 ⟨rfl, hb⟩
   rw [HV.out]
   have T2 := Aside0.mk (T1.out.below hb)
   clear hb p0 p1 p2 p3 p4 p5
   go_wp2
   go_ret2
   exact ⟨rfl, T2.out.lo⟩
  ·rw [hw, hv] at h
   simp only [Bool.and_self, if_true, Option.some.injEq, Prod.mk.injEq] at h
   obtain ⟨rfl, rfl⟩ := h
   have HV := Aside0.mk hv
   have HE := Aside0.mk (show (-20000 ≤ a0_2 ∧ a0_2 ≤ 20000) ∧ (-20000 ≤ a1_2 ∧ a1_2 ≤ 20000) from by have := isD_exp hw; have := isD_exp hv; omega)
   clear hw hv
   unfold cmpv
   go_enter Tryd.func22, Tryd.ntmps22
   go_wp2_with fail
   refine (isDyadic_of _ _ _ _ _ (Kd.C_below HR.out T0.out.lo) hc0_1 HL.out.1).mono ?_
   rintro e w1 ⟨rfl, hb⟩
   rw [HW.out]
   have T1 := Aside0.mk (T0.out.below hb)
   obtain ⟨p0, p1, p2, p3, p4, p5⟩ := T1.out.cells
   clear hb
   go_wp2_with fail
   refine (isDyadic_of _ _ _ _ _ (Kd.C_below HS.out T1.out.lo) hc1_1 HL.out.2).mono ?_
   rintro e w2 ⟨rfl, hb⟩
   rw [HV.out]
   have T2 := Aside0.mk (T1.out.below hb)
   clear hb p0 p1 p2 p3 p4 p5
   obtain ⟨p0, p1, p2, p3, p4, p5⟩ := T2.out.cells
   go_wp2
   refine start_ (n := 7) (S := fun w' => w'.cell? ⟨w.heap.size, 0, none⟩ = some (.int .i64 a0_0) ∧ w'.cell? ⟨w.heap.size, 1, none⟩ = some (.slice A0_1 l0_1.length c0_1) ∧ w'.cell? ⟨w.heap.size, 2, none⟩ = some (.int .i64 a0_2) ∧ w'.cell? ⟨w.heap.size + 1, 0, none⟩ = some (.int .i64 a1_0) ∧ w'.cell? ⟨w.heap.size + 1, 1, none⟩ = some (.slice A1_1 l1_1.length c1_1) ∧ w'.cell? ⟨w.heap.size + 1, 2, none⟩ = some (.int .i64 a1_2)) (ds := [4]) #[false, false, false, false, false, false, false] (by kernel_rfl) rfl rfl ⟨p0, p1, p2, p3, p4, p5⟩ (fun hHeld => ?_)
   have Dw3 := Aside0.mk ((Below.refl w2.heap.size w2).drew)
   generalize w2.drew = w3 at hHeld Dw3 ⊢
   refine take_ (i := 0) (N := some 14) (v := ?_) (a' := ?_) #[true, false, false, false, false, false, false] rfl rfl (by kernel_rfl) (fun _ _ _ h => h) (Or.inl ⟨by rfl, ?_⟩) hHeld ?_ ?_
   rotate_left
   ·rintro w' ⟨s0, s1, s2, s3, s4, s5⟩
    go_simp
    with_reducible rfl
   rotate_left
   ·simp only [Act.put, List.setIfInBounds_toArray, List.set_cons_zero, List.set_cons_succ, i64_w, i32_w]
    rfl
   refine take_ (i := 2) (N := some 16) (v := ?_) (a' := ?_) #[true, false, true, false, false, false, false] rfl rfl (by kernel_rfl) (fun _ _ _ h => h) (Or.inl ⟨by rfl, ?_⟩) hHeld ?_ ?_
   rotate_left
   ·rintro w' ⟨s0, s1, s2, s3, s4, s5⟩
    go_simp
    with_reducible rfl
   rotate_left
   ·simp only [Act.put, List.setIfInBounds_toArray, List.set_cons_zero, List.set_cons_succ, i64_w, i32_w]
    rfl
   refine one_ (i := 1) (N := some 15) #[true, true, true, false, false, false, false] rfl rfl (by kernel_rfl) (by decide) (fun K hK => ?_)
   have T3 := Aside0.mk (T2.out.below Dw3.out)
   refine goes_ Tryd.func49 (by kernel_rfl) rfl #[.agg #[.int .i64 a0_0, .slice A0_1 l0_1.length c0_1, .int .i64 a0_2]] (by rfl) rfl rfl (by simp only [List.map_toArray, List.map_cons, List.map_nil]; rfl) ?_
   with_reducible refine (dvalue_calls a0_0 A0_1 c0_1 l0_1 a0_2 _ (Kd.C_below HR.out T3.out.lo) (isD_isW HW.out)).mono ?_
   rintro e w4 ⟨b, rfl, hge, hbig, hb⟩
   refine ⟨_, rfl, ?_⟩
   have T4 := Aside0.mk (T3.out.below hb)
   have BX := Aside0.mk hbig
   clear hb hge hbig
   refine hK.out _ _ ⟨T4.out.cells.1, T4.out.cells.2.1, T4.out.cells.2.2.1, T4.out.cells.2.2.2.1, T4.out.cells.2.2.2.2.1, T4.out.cells.2.2.2.2.2⟩ (fun hHeld => ?_)
   clear hK K
   refine norm_ (a' := ?_) ?_ ?_
   rotate_left
   ·show Act.put _ (some 15) _ = _
    simp only [Act.put, List.setIfInBounds_toArray, List.set_cons_zero, List.set_cons_succ, i64_w, i32_w]
    rfl
   refine one_ (i := 3) (N := some 17) #[true, true, true, true, false, false, false] rfl rfl (by kernel_rfl) (by decide) (fun K hK => ?_)
   refine goes_ Tryd.func49 (by kernel_rfl) rfl #[.agg #[.int .i64 a1_0, .slice A1_1 l1_1.length c1_1, .int .i64 a1_2]] (by rfl) rfl rfl (by simp only [List.map_toArray, List.map_cons, List.map_nil]; rfl) ?_
   with_reducible refine (dvalue_calls a1_0 A1_1 c1_1 l1_1 a1_2 _ (Kd.C_below HS.out T4.out.lo) (isD_isW HV.out)).mono ?_
   rintro e w5 ⟨b', rfl, hge, hbig, hb⟩
   refine ⟨_, rfl, ?_⟩
   have T5 := Aside0.mk (T4.out.below hb)
   have BX5 := Aside0.mk (BX.out.below hb)
   have BY := Aside0.mk hbig
   clear hb hge hbig
   refine hK.out _ _ ⟨T5.out.cells.1, T5.out.cells.2.1, T5.out.cells.2.2.1, T5.out.cells.2.2.2.1, T5.out.cells.2.2.2.2.1, T5.out.cells.2.2.2.2.2⟩ (fun hHeld => ?_)
   clear hK K
   refine norm_ (a' := ?_) ?_ ?_
   rotate_left
   ·show Act.put _ (some 17) _ = _
    simp only [Act.put, List.setIfInBounds_toArray, List.set_cons_zero, List.set_cons_succ, i64_w, i32_w]
    rfl
   refine last_ (i := 4) (N := some 18) #[true, true, true, true, true, false, false] rfl rfl (by kernel_rfl) (by decide) (fun K hK => ?_)
   refine goes_ Tryd.func50 (by kernel_rfl) rfl #[.agg #[.pointer (some ⟨b, 0, none⟩), .int .i64 a0_2], .agg #[.pointer (some ⟨b', 0, none⟩), .int .i64 a1_2]] (by rfl) rfl rfl (by simp only [List.map_toArray, List.map_cons, List.map_nil]; rfl) ?_
   with_reducible refine (compare_calls b b' _ _ a0_2 a1_2 _ BX5.out BY.out HE.out.1 HE.out.2 (HT.out.below T5.out.lo)).mono ?_
   rintro e w6 ⟨rfl, hb⟩
   refine ⟨_, rfl, ?_⟩
   refine hK.out _ _ ?_
   clear hK K
   refine norm_ (a' := ?_) ?_ ?_
   rotate_left
   ·show Act.put _ (some 18) _ = _
    simp only [Act.put, List.setIfInBounds_toArray, List.set_cons_zero, List.set_cons_succ, i64_w, i32_w]
    rfl
   refine pure_ (i := 5) (N := some 4) (v := ?_) (a' := ?_) #[true, true, true, true, true, true, false] rfl rfl (by kernel_rfl) (fun _ _ _ h => h) (Or.inl ⟨by rfl, ?_⟩) ?_ ?_
   rotate_left
   ·intro w'
    go_simp
    with_reducible rfl
   rotate_left
   ·simp only [Act.put, List.setIfInBounds_toArray, List.set_cons_zero, List.set_cons_succ, i64_w, i32_w]
    rfl
   refine pure_ (i := 6) (N := some 5) (v := ?_) (a' := ?_) #[true, true, true, true, true, true, true] rfl rfl (by kernel_rfl) (fun _ _ _ h => h) (Or.inl ⟨by rfl, ?_⟩) ?_ ?_
   rotate_left
   ·intro w'
    go_simp
    with_reducible rfl
   rotate_left
   ·simp only [Act.put, List.setIfInBounds_toArray, List.set_cons_zero, List.set_cons_succ, i64_w, i32_w]
    rfl
   refine done_ (by kernel_rfl) ?_
   have T6 := Aside0.mk (T5.out.below hb)
   clear hb
   try go_wp2
   go_ret2
   exact ⟨rfl, T6.out.lo⟩
end Go.Proofs.YtdbdhgimokaooaaDoor
namespace Go.Proofs.YtdbdhgimokaooaaDoor
open Go.RowKit Go.Proofs.YtdbdhgimokaooaaDoorW.PrintWords Go.Proofs.YtdbdhgimokaooaaDoorW.PrintLast Go.Proofs.YtdbdhgimokaooaaDoorW.PrintMore Go.Proofs.YtdbdhgimokaooaaDoor.Math Go.Proofs.YtdbdhgimokaooaaDoor.Big
set_option linter.unusedVariables false
set_option linter.unusedSimpArgs false
def MakesN (f : Nat) (V P : Int → Int → Int → Int → Int) : Prop := ∀ (x y : Nat) (n k p q : Int) (w : World), Big w x n 200 → Big w y k 200 → (-5000 ≤ p ∧ p ≤ 5000) → (-5000 ≤ q ∧ q ≤ 5000) → Tab w →
 Calls Tryd.prog f #[.agg #[.pointer (some ⟨x, 0, none⟩), .int .i64 p], .agg #[.pointer (some ⟨y, 0, none⟩), .int .i64 q]] w fun e w' => ∃ z, e = .returned (.agg #[.pointer (some ⟨z, 0, none⟩), .int .i64 (P n k p q)]) ∧ Big w' z (V n k p q) 5000 ∧ (-20000 ≤ P n k p q ∧ P n k p q ≤ 20000) ∧ Below w.heap.size w w'
theorem MakesN.at_ {f : Nat} {V P : Int → Int → Int → Int → Int} (h : MakesN f V P) (x y : Nat) (n k p q : Int) (w : World) (hx : Big w x n 200) (hy : Big w y k 200) (hp : -5000 ≤ p ∧ p ≤ 5000) (hq : -5000 ≤ q ∧ q ≤ 5000) (hT : Tab w) :
 Calls Tryd.prog f #[.agg #[.pointer (some ⟨x, 0, none⟩), .int .i64 p], .agg #[.pointer (some ⟨y, 0, none⟩), .int .i64 q]] w fun e w' => ∃ z, e = .returned (.agg #[.pointer (some ⟨z, 0, none⟩), .int .i64 (P n k p q)]) ∧ Big w' z (V n k p q) 5000 ∧ (-20000 ≤ P n k p q ∧ P n k p q ≤ 20000) ∧ Below w.heap.size w w' := h x y n k p q w hx hy hp hq hT
set_option maxRecDepth 100000 in
set_option maxHeartbeats 2000000 in
theorem times_calls (x y : Nat) (n k p q : Int) (w : World) (hx : Big w x n 200) (hy : Big w y k 200) (hp : -5000 ≤ p ∧ p ≤ 5000) (hq : -5000 ≤ q ∧ q ≤ 5000) :
  Calls Tryd.prog 57 #[.agg #[.pointer (some ⟨x, 0, none⟩), .int .i64 p], .agg #[.pointer (some ⟨y, 0, none⟩), .int .i64 q]] w fun e w' => ∃ z, e = .returned (.agg #[.pointer (some ⟨z, 0, none⟩), .int .i64 (p + q)]) ∧ Big w' z (n * k) 400 ∧ (-20000 ≤ p + q ∧ p + q ≤ 20000) ∧ Below w.heap.size w w' := by
 have N0 := Aside0.mk ((TwoNum.start w x p y q).below (below_alloc (Below.refl _ _) (.cells #[.pointer none, .int .i64 0] 62)))
 have R0 := Aside0.mk (ResN.next (TwoNum.start w x p y q).lo)
 have hsz : ((w.alloc (.cells #[.pointer (some ⟨x, 0, none⟩), .int .i64 p] 62)).alloc (.cells #[.pointer (some ⟨y, 0, none⟩), .int .i64 q] 62)).heap.size = w.heap.size + 2 := by rw [alloc_size, alloc_size]
 rw [hsz] at R0
 have HX := Aside0.mk (hx.below N0.out.lo)
 have HY := Aside0.mk (hy.below N0.out.lo)
 have hw1 : wrap64 (p + q) = p + q := w64s (by omega) (by omega)
 have hw2 : IntKind.i64.wrap (p + q) = p + q := by rw [IntKind.wrap_i64]; omega
 have HB := Aside0.mk (show -20000 ≤ p + q ∧ p + q ≤ 20000 from by omega)
 obtain ⟨p0, p1, p2, p3⟩ := N0.out.cells
 clear hx hy hp hq hsz
 go_enter Tryd.func57, Tryd.ntmps57
 go_wp2
 generalize hw0 : ((w.alloc (.cells #[.pointer (some ⟨x, 0, none⟩), .int .i64 p] 62)).alloc (.cells #[.pointer (some ⟨y, 0, none⟩), .int .i64 q] 62)).alloc (.cells #[.pointer none, .int .i64 0] 62) = w1 at N0 R0 HX HY p0 p1 p2 p3 ⊢
 clear hw0
 refine start_ (n := 13) (S := fun w' => w'.cell? ⟨w.heap.size, 0, none⟩ = some (.pointer (some ⟨x, 0, none⟩)) ∧ w'.cell? ⟨w.heap.size, 1, none⟩ = some (.int .i64 p) ∧ w'.cell? ⟨w.heap.size + 1, 0, none⟩ = some (.pointer (some ⟨y, 0, none⟩)) ∧ w'.cell? ⟨w.heap.size + 1, 1, none⟩ = some (.int .i64 q)) (ds := [12]) #[false, false, false, false, false, false, false, false, false, false, false, false, false] (by kernel_rfl) rfl rfl ⟨p0, p1, p2, p3⟩ (fun hHeld => ?_)
 have Dw3 := Aside0.mk ((Below.refl w1.heap.size w1).drew)
 generalize w1.drew = w3 at hHeld Dw3 ⊢
 refine pure_ (i := 1) (N := some 6) (v := ?_) (a' := ?_) #[false, true, false, false, false, false, false, false, false, false, false, false, false] rfl rfl (by kernel_rfl) (fun _ _ _ h => h) (Or.inl ⟨by rfl, ?_⟩) ?_ ?_
 rotate_left
 ·intro w'
  go_simp
  with_reducible rfl
 rotate_left
 ·simp only [Act.put, List.setIfInBounds_toArray, List.set_cons_zero, List.set_cons_succ, i64_w, i32_w]
  rfl
 refine pure_ (i := 3) (N := some 8) (v := ?_) (a' := ?_) #[false, true, false, true, false, false, false, false, false, false, false, false, false] rfl rfl (by kernel_rfl) (fun _ _ _ h => h) (Or.inl ⟨by rfl, ?_⟩) ?_ ?_
 rotate_left
 ·intro w'
  go_simp
  with_reducible rfl
 rotate_left
 ·simp only [Act.put, List.setIfInBounds_toArray, List.set_cons_zero, List.set_cons_succ, i64_w, i32_w]
  rfl
 refine pure_ (i := 6) (N := some 11) (v := ?_) (a' := ?_) #[false, true, false, true, false, false, true, false, false, false, false, false, false] rfl rfl (by kernel_rfl) (fun _ _ _ h => h) (Or.inl ⟨by rfl, ?_⟩) ?_ ?_
 rotate_left
 ·intro w'
  go_simp
  with_reducible rfl
 rotate_left
 ·simp only [Act.put, List.setIfInBounds_toArray, List.set_cons_zero, List.set_cons_succ, i64_w, i32_w]
  rfl
 refine pure_ (i := 8) (N := some 13) (v := ?_) (a' := ?_) #[false, true, false, true, false, false, true, false, true, false, false, false, false] rfl rfl (by kernel_rfl) (fun _ _ _ h => h) (Or.inl ⟨by rfl, ?_⟩) ?_ ?_
 rotate_left
 ·intro w'
  go_simp
  with_reducible rfl
 rotate_left
 ·simp only [Act.put, List.setIfInBounds_toArray, List.set_cons_zero, List.set_cons_succ, i64_w, i32_w]
  rfl
 refine take_ (i := 2) (N := some 7) (v := ?_) (a' := ?_) #[false, true, true, true, false, false, true, false, true, false, false, false, false] rfl rfl (by kernel_rfl) (fun _ _ _ h => h) (Or.inl ⟨by rfl, ?_⟩) hHeld ?_ ?_
 rotate_left
 ·rintro w' ⟨s0, s1, s2, s3⟩
  go_simp
  with_reducible rfl
 rotate_left
 ·simp only [Act.put, List.setIfInBounds_toArray, List.set_cons_zero, List.set_cons_succ, i64_w, i32_w]
  rfl
 refine take_ (i := 4) (N := some 9) (v := ?_) (a' := ?_) #[false, true, true, true, true, false, true, false, true, false, false, false, false] rfl rfl (by kernel_rfl) (fun _ _ _ h => h) (Or.inl ⟨by rfl, ?_⟩) hHeld ?_ ?_
 rotate_left
 ·rintro w' ⟨s0, s1, s2, s3⟩
  go_simp
  with_reducible rfl
 rotate_left
 ·simp only [Act.put, List.setIfInBounds_toArray, List.set_cons_zero, List.set_cons_succ, i64_w, i32_w]
  rfl
 refine take_ (i := 7) (N := some 12) (v := ?_) (a' := ?_) #[false, true, true, true, true, false, true, true, true, false, false, false, false] rfl rfl (by kernel_rfl) (fun _ _ _ h => h) (Or.inl ⟨by rfl, ?_⟩) hHeld ?_ ?_
 rotate_left
 ·rintro w' ⟨s0, s1, s2, s3⟩
  go_simp
  with_reducible rfl
 rotate_left
 ·simp only [Act.put, List.setIfInBounds_toArray, List.set_cons_zero, List.set_cons_succ, i64_w, i32_w]
  rfl
 refine take_ (i := 9) (N := some 14) (v := ?_) (a' := ?_) #[false, true, true, true, true, false, true, true, true, true, false, false, false] rfl rfl (by kernel_rfl) (fun _ _ _ h => h) (Or.inl ⟨by rfl, ?_⟩) hHeld ?_ ?_
 rotate_left
 ·rintro w' ⟨s0, s1, s2, s3⟩
  go_simp
  with_reducible rfl
 rotate_left
 ·simp only [Act.put, List.setIfInBounds_toArray, List.set_cons_zero, List.set_cons_succ, i64_w, i32_w]
  rfl
 refine pure_ (i := 10) (N := some 15) (v := ?_) (a' := ?_) #[false, true, true, true, true, false, true, true, true, true, true, false, false] rfl rfl (by kernel_rfl) (fun _ _ _ h => h) (Or.inl ⟨by rfl, ?_⟩) ?_ ?_
 rotate_left
 ·intro w'
  go_simp
  with_reducible rfl
 rotate_left
 ·simp only [Act.put, List.setIfInBounds_toArray, List.set_cons_zero, List.set_cons_succ, i64_w, i32_w]
  rfl
 refine one_ (i := 0) (N := some 5) #[true, true, true, true, true, false, true, true, true, true, true, false, false] rfl rfl (by kernel_rfl) (by decide) (fun K hK => ?_)
 refine value_ (w1 := ?_) (v := ?_) (by rfl) rfl ?_ ?_
 rotate_left 2
 ·go_simp
  constructor
  ·rfl
  ·rfl
 refine hK.out _ _ ⟨pw_cell_below (below_alloc (Below.refl _ _) _) hHeld.1, pw_cell_below (below_alloc (Below.refl _ _) _) hHeld.2.1, pw_cell_below (below_alloc (Below.refl _ _) _) hHeld.2.2.1, pw_cell_below (below_alloc (Below.refl _ _) _) hHeld.2.2.2⟩ (fun hHeld => ?_)
 clear hK K
 refine norm_ (a' := ?_) ?_ ?_
 rotate_left
 ·show Act.put _ (some 5) _ = _
  simp only [Act.put, List.setIfInBounds_toArray, List.set_cons_zero, List.set_cons_succ, i64_w, i32_w]
  rfl
 refine one_ (i := 5) (N := some 10) #[true, true, true, true, true, true, true, true, true, true, true, false, false] rfl rfl (by kernel_rfl) (by decide) (fun K hK => ?_)
 have N3 := Aside0.mk (N0.out.below Dw3.out)
 have R3 := Aside0.mk (R0.out.below Dw3.out)
 have X3 := Aside0.mk ((HX.out.below Dw3.out).below (below_alloc (Below.refl w3.heap.size w3) (.cells #[.bool false, .slice none 0 0] 82)))
 have Y3 := Aside0.mk ((HY.out.below Dw3.out).below (below_alloc (Below.refl w3.heap.size w3) (.cells #[.bool false, .slice none 0 0] 82)))
 refine goes_ Tryd.func82 (by kernel_rfl) rfl #[.pointer (some ⟨w3.heap.size, 0, none⟩), .pointer (some ⟨x, 0, none⟩), .pointer (some ⟨y, 0, none⟩)] (by rfl) rfl rfl (by simp only [List.map_toArray, List.map_cons, List.map_nil]; rfl) ?_
 with_reducible refine (mul_calls w3.heap.size x y n k 200 200 _ (is_new w3) X3.out (by omega) Y3.out (by omega)).mono ?_
 rintro e w4 ⟨rfl, hb4, hg4⟩
 refine ⟨_, rfl, ?_⟩
 have L4 := Aside0.mk (below_of_grown ((Below.refl w3.heap.size w3).alloc (Nat.le_refl _) _) hg4 (Nat.le_refl _))
 have N4 := Aside0.mk (N3.out.below L4.out)
 have R4 := Aside0.mk (R3.out.below L4.out)
 have B4 := Aside0.mk hb4
 obtain ⟨q0, q1, q2, q3⟩ := R4.out.cells
 clear hb4 hg4
 refine hK.out _ _ ⟨N4.out.cells.1, N4.out.cells.2.1, N4.out.cells.2.2.1, N4.out.cells.2.2.2⟩ (fun hHeld => ?_)
 clear hK K
 refine norm_ (a' := ?_) ?_ ?_
 rotate_left
 ·show Act.put _ (some 10) _ = _
  simp only [Act.put, List.setIfInBounds_toArray, List.set_cons_zero, List.set_cons_succ, i64_w, i32_w]
  rfl
 refine pure_ (i := 11) (N := some 16) (v := ?_) (a' := ?_) #[true, true, true, true, true, true, true, true, true, true, true, true, false] rfl rfl (by kernel_rfl) (fun _ _ _ h => h) (Or.inl ⟨by rfl, ?_⟩) ?_ ?_
 rotate_left
 ·intro w'
  go_simp
  with_reducible rfl
 rotate_left
 ·simp only [Act.put, List.setIfInBounds_toArray, List.set_cons_zero, List.set_cons_succ, i64_w, i32_w]
  rfl
 refine last_ (i := 12) (N := none) #[true, true, true, true, true, true, true, true, true, true, true, true, true] rfl rfl (by kernel_rfl) (by decide) (fun K hK => ?_)
 refine skip_ (w1 := ?_) (by rfl) rfl ?_ ?_
 rotate_left
 ·go_simp
  rfl
 refine hK.out _ _ ?_
 clear hK K
 refine done_ (by kernel_rfl) ?_
 try go_wp2
 refine bodyPost_ret (results_c1 rfl _ _ (w.heap.size + 2) 62 #[.pointer (some ⟨w3.heap.size, 0, none⟩), .int .i64 (p + q)] (0, 0) _ rfl (R4.out.put _ _) Tryd.underlying62 rfl (by kernel_rfl)) rfl ?_
 exact ⟨w3.heap.size, rfl, (R4.out.big B4.out _ _).more (by omega), HB.out, R4.out.low _ _⟩
theorem times_makes : MakesN 57 (fun n k _ _ => n * k) (fun _ _ p q => p + q) := fun x y n k p q w hx hy hp hq hT =>
 (times_calls x y n k p q w hx hy hp hq).mono fun _ _ ⟨z, h1, h2, h3⟩ => ⟨z, h1, h2.more (by omega), h3⟩
def pfit (V P : Int → Int → Int → Int → Int) (s : Int) (l : List Int) (e t : Int) (m : List Int) (f : Int) : Int × List Int × Int × Int := if isD s l e && isD t m f then dyfit (V (wv s l) (wv t m) e f) (P (wv s l) (wv t m) e f) else (0, [], 0, 1)
set_option maxRecDepth 100000 in
set_option maxHeartbeats 4000000 in
theorem pairOf_calls {f : Nat} {fn : Func} (hf : Tryd.prog.funcs[f]? = some fn) (hname : (fn.name == "runtime.NumGoroutine") = false) (hb : fn.body.isSome = true) (V P : Int → Int → Int → Int → Int) (hop : MakesN f V P) (s : Int) (A : Option Addr) (c : Nat) (l : List Int) (e1 : Int) (t : Int) (B : Option Addr) (d : Nat) (m : List Int) (f1 : Int) (r1 : Int) (r2 : List Int) (r3 r4 : Int) (w : World)
  (hr0 : Kd.C (Kd.int .i64) w A l.length l) (hc0 : l.length ≤ c) (hr1 : Kd.C (Kd.int .i64) w B m.length m) (hc1 : m.length ≤ d) (hl : l.length ≤ 1000000000 ∧ m.length ≤ 1000000000) (hT : Tab w) (h : pfit V P s l e1 t m f1 = (r1, r2, r3, r4)) :
  Calls Tryd.prog 56 #[.agg #[.int .i64 s, .slice A l.length c, .int .i64 e1], .agg #[.int .i64 t, .slice B m.length d, .int .i64 f1], .func (.func f) #[] #[]] w fun e w' => ∃ v1_ : Value, e = .returned (.tuple #[.agg #[.int .i64 r1, v1_, .int .i64 r3], .int .i64 r4]) ∧ w'.ownsRow w.heap.size 2 1 v1_ r2.length (nums .i64 r2) ∧ Below w.heap.size w w' := by
 have HF := Aside0.mk (And.intro hf (And.intro hname hb))
 have HR := Aside0.mk hr0
 have HS := Aside0.mk hr1
 have T0 := Aside0.mk (TwoDy.start w s A c l e1 t B d m f1)
 have R0 := Aside0.mk (ResD.next T0.out.lo)
 have T1 := Aside0.mk (T0.out.below (below_alloc (Below.refl _ _) (.cells #[.int .i64 0, .slice none 0 0, .int .i64 0] 28)))
 have HL := Aside0.mk hl
 have HO := Aside0.mk hop
 have HT := Aside0.mk hT
 clear hr0 hr1 hl hf hname hb hop T0 hT
 have hsz : ((w.alloc (.cells #[.int .i64 s, .slice A l.length c, .int .i64 e1] 28)).alloc (.cells #[.int .i64 t, .slice B m.length d, .int .i64 f1] 28)).heap.size = w.heap.size + 2 := by rw [alloc_size, alloc_size]
 rw [hsz] at R0
 clear hsz
 cases hw : isD s l e1
 ·unfold pfit at h
  rw [hw] at h
  simp only [Bool.false_and, Bool.false_eq_true, if_false, Prod.mk.injEq] at h
  obtain ⟨rfl, rfl, rfl, rfl⟩ := h
  have HW := Aside0.mk hw
  clear hw
  go_enter Tryd.func56, Tryd.ntmps56
  go_wp2_with fail
  refine (isDyadic_of _ _ _ _ _ (Kd.C_below HR.out T1.out.lo) hc0 HL.out.1).mono ?_
  rintro e w1 ⟨rfl, hb⟩
  rw [HW.out]
  have R1 := Aside0.mk (R0.out.below hb)
  obtain ⟨q0, q1, q2, q3, q4, q5⟩ := R1.out.cells
  clear hb
  go_wp2_with fail
  refine bodyPost_ret (results_ct rfl _ _ (w.heap.size + 2) 28 #[.int .i64 0, .slice none 0 0, .int .i64 0] (0, 0) _ rfl (R1.out.put _ _ _) Tryd.underlying28 rfl (by kernel_rfl)) rfl ?_
  exact ⟨_, rfl, R1.out.own (own_zero w1 (w.heap.size + 3)) (by omega) _ _ _, R1.out.low _ _ _⟩
 ·have HW := Aside0.mk hw
  cases hv : isD t m f1
  ·unfold pfit at h
   rw [hw, hv] at h
   simp only [Bool.and_false, Bool.false_eq_true, if_false, Prod.mk.injEq] at h
   obtain ⟨rfl, rfl, rfl, rfl⟩ := h
   have HV := Aside0.mk hv
   clear hw hv
   go_enter Tryd.func56, Tryd.ntmps56
   go_wp2_with fail
   refine (isDyadic_of _ _ _ _ _ (Kd.C_below HR.out T1.out.lo) hc0 HL.out.1).mono ?_
   rintro e w1 ⟨rfl, hb⟩
   rw [HW.out]
   have R1 := Aside0.mk (R0.out.below hb)
   have T2 := Aside0.mk (T1.out.below hb)
   obtain ⟨p0, p1, p2, p3, p4, p5⟩ := T2.out.cells
   clear hb
   go_wp2_with fail
   refine (isDyadic_of _ _ _ _ _ (Kd.C_below HS.out T2.out.lo) hc1 HL.out.2).mono ?_
   rintro e w2 ⟨rfl, hb⟩
   rw [HV.out]
   have R2 := Aside0.mk (R1.out.below hb)
   obtain ⟨q0, q1, q2, q3, q4, q5⟩ := R2.out.cells
   clear hb p0 p1 p2 p3 p4 p5
   go_wp2_with fail
   refine bodyPost_ret (results_ct rfl _ _ (w.heap.size + 2) 28 #[.int .i64 0, .slice none 0 0, .int .i64 0] (0, 0) _ rfl (R2.out.put _ _ _) Tryd.underlying28 rfl (by kernel_rfl)) rfl ?_
   exact ⟨_, rfl, R2.out.own (own_zero w2 (w.heap.size + 3)) (by omega) _ _ _, R2.out.low _ _ _⟩
  ·unfold pfit at h
   rw [hw, hv] at h
   simp only [Bool.and_self, if_true] at h
   have HV := Aside0.mk hv
   have HE := Aside0.mk (And.intro (isD_exp hw) (isD_exp hv))
   have HH := Aside0.mk h
   clear hw hv h
   go_enter Tryd.func56, Tryd.ntmps56
   go_wp2_with fail
   refine (isDyadic_of _ _ _ _ _ (Kd.C_below HR.out T1.out.lo) hc0 HL.out.1).mono ?_
   rintro e w1 ⟨rfl, hb⟩
   rw [HW.out]
   have R1 := Aside0.mk (R0.out.below hb)
   have T2 := Aside0.mk (T1.out.below hb)
   obtain ⟨p0, p1, p2, p3, p4, p5⟩ := T2.out.cells
   clear hb
   go_wp2_with fail
   refine (isDyadic_of _ _ _ _ _ (Kd.C_below HS.out T2.out.lo) hc1 HL.out.2).mono ?_
   rintro e w2 ⟨rfl, hb⟩
   rw [HV.out]
   have R2 := Aside0.mk (R1.out.below hb)
   have T3 := Aside0.mk (T2.out.below hb)
   clear hb p0 p1 p2 p3 p4 p5
   obtain ⟨p0, p1, p2, p3, p4, p5⟩ := T3.out.cells
   go_wp2
   refine start_ (n := 11) (S := fun w' => w'.cell? ⟨w.heap.size, 0, none⟩ = some (.int .i64 s) ∧ w'.cell? ⟨w.heap.size, 1, none⟩ = some (.slice A l.length c) ∧ w'.cell? ⟨w.heap.size, 2, none⟩ = some (.int .i64 e1) ∧ w'.cell? ⟨w.heap.size + 1, 0, none⟩ = some (.int .i64 t) ∧ w'.cell? ⟨w.heap.size + 1, 1, none⟩ = some (.slice B m.length d) ∧ w'.cell? ⟨w.heap.size + 1, 2, none⟩ = some (.int .i64 f1)) (ds := [5, 6, 9]) #[false, false, false, false, false, false, false, false, false, false, false] (by kernel_rfl) rfl rfl ⟨p0, p1, p2, p3, p4, p5⟩ (fun hHeld => ?_)
   have Dw3 := Aside0.mk ((Below.refl w2.heap.size w2).drew)
   generalize w2.drew = w3 at hHeld Dw3 ⊢
   refine pure_ (i := 0) (N := some 17) (v := ?_) (a' := ?_) #[true, false, false, false, false, false, false, false, false, false, false] rfl rfl (by kernel_rfl) (fun _ _ _ h => h) (Or.inl ⟨by rfl, ?_⟩) ?_ ?_
   rotate_left
   ·intro w'
    go_simp
    with_reducible rfl
   rotate_left
   ·simp only [Act.put, List.setIfInBounds_toArray, List.set_cons_zero, List.set_cons_succ, i64_w, i32_w]
    rfl
   refine take_ (i := 1) (N := some 18) (v := ?_) (a' := ?_) #[true, true, false, false, false, false, false, false, false, false, false] rfl rfl (by kernel_rfl) (fun _ _ _ h => h) (Or.inl ⟨by rfl, ?_⟩) hHeld ?_ ?_
   rotate_left
   ·rintro w' ⟨s0, s1, s2, s3, s4, s5⟩
    go_simp
    with_reducible rfl
   rotate_left
   ·simp only [Act.put, List.setIfInBounds_toArray, List.set_cons_zero, List.set_cons_succ, i64_w, i32_w]
    rfl
   refine take_ (i := 3) (N := some 20) (v := ?_) (a' := ?_) #[true, true, false, true, false, false, false, false, false, false, false] rfl rfl (by kernel_rfl) (fun _ _ _ h => h) (Or.inl ⟨by rfl, ?_⟩) hHeld ?_ ?_
   rotate_left
   ·rintro w' ⟨s0, s1, s2, s3, s4, s5⟩
    go_simp
    with_reducible rfl
   rotate_left
   ·simp only [Act.put, List.setIfInBounds_toArray, List.set_cons_zero, List.set_cons_succ, i64_w, i32_w]
    rfl
   refine one_ (i := 2) (N := some 19) #[true, true, true, true, false, false, false, false, false, false, false] rfl rfl (by kernel_rfl) (by decide) (fun K hK => ?_)
   have T4 := Aside0.mk (T3.out.below Dw3.out)
   have R4 := Aside0.mk (R2.out.below Dw3.out)
   refine goes_ Tryd.func49 (by kernel_rfl) rfl #[.agg #[.int .i64 s, .slice A l.length c, .int .i64 e1]] (by rfl) rfl rfl (by simp only [List.map_toArray, List.map_cons, List.map_nil]; rfl) ?_
   with_reducible refine (dvalue_calls s A c l e1 _ (Kd.C_below HR.out T4.out.lo) (isD_isW HW.out)).mono ?_
   rintro e w4 ⟨b, rfl, hge, hbig, hb⟩
   refine ⟨_, rfl, ?_⟩
   have T5 := Aside0.mk (T4.out.below hb)
   have R5 := Aside0.mk (R4.out.below hb)
   have BX := Aside0.mk hbig
   clear hb hge hbig
   refine hK.out _ _ ⟨T5.out.cells.1, T5.out.cells.2.1, T5.out.cells.2.2.1, T5.out.cells.2.2.2.1, T5.out.cells.2.2.2.2.1, T5.out.cells.2.2.2.2.2⟩ (fun hHeld => ?_)
   clear hK K
   refine norm_ (a' := ?_) ?_ ?_
   rotate_left
   ·show Act.put _ (some 19) _ = _
    simp only [Act.put, List.setIfInBounds_toArray, List.set_cons_zero, List.set_cons_succ, i64_w, i32_w]
    rfl
   refine one_ (i := 4) (N := some 21) #[true, true, true, true, true, false, false, false, false, false, false] rfl rfl (by kernel_rfl) (by decide) (fun K hK => ?_)
   refine goes_ Tryd.func49 (by kernel_rfl) rfl #[.agg #[.int .i64 t, .slice B m.length d, .int .i64 f1]] (by rfl) rfl rfl (by simp only [List.map_toArray, List.map_cons, List.map_nil]; rfl) ?_
   with_reducible refine (dvalue_calls t B d m f1 _ (Kd.C_below HS.out T5.out.lo) (isD_isW HV.out)).mono ?_
   rintro e w5 ⟨b', rfl, hge, hbig, hb⟩
   refine ⟨_, rfl, ?_⟩
   have T6 := Aside0.mk (T5.out.below hb)
   have R6 := Aside0.mk (R5.out.below hb)
   have BX6 := Aside0.mk (BX.out.below hb)
   have BY := Aside0.mk hbig
   clear hb hge hbig
   refine hK.out _ _ ⟨T6.out.cells.1, T6.out.cells.2.1, T6.out.cells.2.2.1, T6.out.cells.2.2.2.1, T6.out.cells.2.2.2.2.1, T6.out.cells.2.2.2.2.2⟩ (fun hHeld => ?_)
   clear hK K
   refine norm_ (a' := ?_) ?_ ?_
   rotate_left
   ·show Act.put _ (some 21) _ = _
    simp only [Act.put, List.setIfInBounds_toArray, List.set_cons_zero, List.set_cons_succ, i64_w, i32_w]
    rfl
   refine last_ (i := 5) (N := some 22) #[true, true, true, true, true, true, false, false, false, false, false] rfl rfl (by kernel_rfl) (by decide) (fun K hK => ?_)
   refine goesv_ HF.out.1 HF.out.2.1 HF.out.2.2 #[.agg #[.pointer (some ⟨b, 0, none⟩), .int .i64 e1], .agg #[.pointer (some ⟨b', 0, none⟩), .int .i64 f1]] (by rfl) rfl rfl rfl (by simp only [List.map_toArray, List.map_cons, List.map_nil]; rfl) ?_
   with_reducible refine (HO.out.at_ b b' _ _ e1 f1 _ BX6.out BY.out HE.out.1 HE.out.2 (HT.out.below R6.out.lo)).mono ?_
   rintro e w6 ⟨z, rfl, hbz, hpb, hb6⟩
   refine ⟨_, rfl, ?_⟩
   have R7 := Aside0.mk (R6.out.below hb6)
   have BZ := Aside0.mk hbz
   have PB := Aside0.mk hpb
   clear hb6 hbz hpb
   refine hK.out _ _ ?_
   clear hK K
   refine norm_ (a' := ?_) ?_ ?_
   rotate_left
   ·show Act.put _ (some 22) _ = _
    simp only [Act.put, List.setIfInBounds_toArray, List.set_cons_zero, List.set_cons_succ, i64_w, i32_w]
    rfl
   refine last_ (i := 6) (N := some 23) #[true, true, true, true, true, true, true, false, false, false, false] rfl rfl (by kernel_rfl) (by decide) (fun K hK => ?_)
   refine goes_ Tryd.func42 (by kernel_rfl) rfl #[.agg #[.pointer (some ⟨z, 0, none⟩), .int .i64 (P (wv s l) (wv t m) e1 f1)]] (by rfl) rfl rfl (by simp only [List.map_toArray, List.map_cons, List.map_nil]; rfl) ?_
   with_reducible refine (dyadic_calls z _ _ 5000 _ BZ.out (by omega) (Int.le_trans (by omega) PB.out.1) (Int.le_trans PB.out.2 (by omega)) (HT.out.below R7.out.lo) r1 r2 r3 r4 HH.out).mono ?_
   rintro e w7 ⟨v, rfl, hr, hb7⟩
   refine ⟨_, rfl, ?_⟩
   obtain ⟨A1, c1, rfl⟩ := own_slice hr
   have R8 := Aside0.mk (R7.out.below hb7)
   have HRW := Aside0.mk hr
   obtain ⟨q0, q1, q2, q3, q4, q5⟩ := R8.out.cells
   clear hr hb7
   refine hK.out _ _ ?_
   clear hK K
   refine norm_ (a' := ?_) ?_ ?_
   rotate_left
   ·show Act.put _ (some 23) _ = _
    simp only [Act.put, List.setIfInBounds_toArray, List.set_cons_zero, List.set_cons_succ, i64_w, i32_w]
    rfl
   refine pure_ (i := 7) (N := some 24) (v := ?_) (a' := ?_) #[true, true, true, true, true, true, true, true, false, false, false] rfl rfl (by kernel_rfl) (fun _ _ _ h => h) (Or.inl ⟨by rfl, ?_⟩) ?_ ?_
   rotate_left
   ·intro w'
    go_simp
    with_reducible rfl
   rotate_left
   ·simp only [Act.put, List.setIfInBounds_toArray, List.set_cons_zero, List.set_cons_succ, i64_w, i32_w]
    rfl
   refine pure_ (i := 8) (N := some 25) (v := ?_) (a' := ?_) #[true, true, true, true, true, true, true, true, true, false, false] rfl rfl (by kernel_rfl) (fun _ _ _ h => h) (Or.inl ⟨by rfl, ?_⟩) ?_ ?_
   rotate_left
   ·intro w'
    go_simp
    with_reducible rfl
   rotate_left
   ·simp only [Act.put, List.setIfInBounds_toArray, List.set_cons_zero, List.set_cons_succ, i64_w, i32_w]
    rfl
   refine last_ (i := 9) (N := none) #[true, true, true, true, true, true, true, true, true, true, false] rfl rfl (by kernel_rfl) (by decide) (fun K hK => ?_)
   refine skip_ (w1 := ?_) (by rfl) rfl ?_ ?_
   rotate_left
   ·go_simp
    rfl
   refine hK.out _ _ ?_
   clear hK K
   refine pure_ (i := 10) (N := some 7) (v := ?_) (a' := ?_) #[true, true, true, true, true, true, true, true, true, true, true] rfl rfl (by kernel_rfl) (fun _ _ _ h => h) (Or.inl ⟨by rfl, ?_⟩) ?_ ?_
   rotate_left
   ·intro w'
    go_simp
    with_reducible rfl
   rotate_left
   ·simp only [Act.put, List.setIfInBounds_toArray, List.set_cons_zero, List.set_cons_succ, i64_w, i32_w]
    rfl
   refine done_ (by kernel_rfl) ?_
   try go_wp2
   refine bodyPost_ret (results_ct rfl _ _ (w.heap.size + 2) 28 #[.int .i64 r1, .slice A1 r2.length c1, .int .i64 r3] (0, 0) _ rfl (R8.out.put _ _ _) Tryd.underlying28 rfl (by kernel_rfl)) rfl ?_
   exact ⟨_, rfl, R8.out.own HRW.out R7.out.lo.size _ _ _, R8.out.low _ _ _⟩
def impl_MultiplyDyadics.f (a0_0 : Int) (l0_1 : List Int) (a0_2 : Int) (a1_0 : Int) (l1_1 : List Int) (a1_2 : Int) : Option (Int × List Int × Int × Int) := if l0_1.length ≤ 1000000000 ∧ l1_1.length ≤ 1000000000 then some (pfit (fun n k _ _ => n * k) (fun _ _ p q => p + q) a0_0 l0_1 a0_2 a1_0 l1_1 a1_2) else none
set_option maxRecDepth 100000 in
set_option maxHeartbeats 2000000 in
theorem impl_MultiplyDyadics.calls (a0_0 : Int) (A0_1 : Option Addr) (c0_1 : Nat) (l0_1 : List Int) (a0_2 : Int) (a1_0 : Int) (A1_1 : Option Addr) (c1_1 : Nat) (l1_1 : List Int) (a1_2 : Int) (r1 : Int) (r2 : List Int) (r3 r4 : Int) (w : World) (hr0_1 : Kd.C (Kd.int .i64) w A0_1 l0_1.length l0_1) (hc0_1 : l0_1.length ≤ c0_1) (hr1_1 : Kd.C (Kd.int .i64) w A1_1 l1_1.length l1_1) (hc1_1 : l1_1.length ≤ c1_1) (hT : Tab w) (h : impl_MultiplyDyadics.f a0_0 l0_1 a0_2 a1_0 l1_1 a1_2 = some (r1, r2, r3, r4)) :
  Calls Tryd.prog 26 #[.agg #[.int .i64 a0_0, .slice A0_1 l0_1.length c0_1, .int .i64 a0_2], .agg #[.int .i64 a1_0, .slice A1_1 l1_1.length c1_1, .int .i64 a1_2]] w fun e w' => ∃ v1_ : Value, e = .returned (.tuple #[.agg #[.int .i64 r1, v1_, .int .i64 r3], .int .i64 r4]) ∧ Kd.R (Kd.int .i64) 2 w' w.heap.size (fun _ => True) v1_ r2 ∧ Below w.heap.size w w' := by
 unfold impl_MultiplyDyadics.f at h
 split at h
 case isFalse => cases h
 rename_i hl
 injection h with h
 have HR := Aside0.mk hr0_1
 have HS := Aside0.mk hr1_1
 have T0 := Aside0.mk (TwoDy.start w a0_0 A0_1 c0_1 l0_1 a0_2 a1_0 A1_1 c1_1 l1_1 a1_2)
 have R0 := Aside0.mk (ResD.next T0.out.lo)
 have T1 := Aside0.mk (T0.out.below (below_alloc (Below.refl _ _) (.cells #[.int .i64 0, .slice none 0 0, .int .i64 0] 28)))
 have HL := Aside0.mk hl
 have HH := Aside0.mk h
 have HT := Aside0.mk (hT.below T1.out.lo)
 clear hr0_1 hr1_1 hl T0 h hT
 have hsz : ((w.alloc (.cells #[.int .i64 a0_0, .slice A0_1 l0_1.length c0_1, .int .i64 a0_2] 28)).alloc (.cells #[.int .i64 a1_0, .slice A1_1 l1_1.length c1_1, .int .i64 a1_2] 28)).heap.size = w.heap.size + 2 := by rw [alloc_size, alloc_size]
 rw [hsz] at R0
 clear hsz
 go_enter Tryd.func26, Tryd.ntmps26
 go_wp2_with fail
 refine (pairOf_calls Tryd.func57 rfl rfl _ _ times_makes _ _ _ _ _ _ _ _ _ _ r1 r2 r3 r4 _ (Kd.C_below HR.out T1.out.lo) hc0_1 (Kd.C_below HS.out T1.out.lo) hc1_1 HL.out HT.out HH.out).mono ?_
 rintro e w1 ⟨v, rfl, hr, hb⟩
 obtain ⟨u1, u2, rfl⟩ := own_slice hr
 have R1 := Aside0.mk (R0.out.below hb)
 have HRW := Aside0.mk hr
 obtain ⟨q0, q1, q2, q3, q4, q5⟩ := R1.out.cells
 clear hr hb
 go_wp2_with fail
 refine bodyPost_ret (results_ct rfl _ _ (w.heap.size + 2) 28 #[.int .i64 r1, .slice u1 r2.length u2, .int .i64 r3] (0, 0) _ rfl (R1.out.put _ _ _) Tryd.underlying28 rfl (by kernel_rfl)) rfl ?_
 exact ⟨_, rfl, R1.out.row HRW.out R0.out.lo.size _ _ _, R1.out.low _ _ _⟩
end Go.Proofs.YtdbdhgimokaooaaDoor
namespace Go.Proofs.YtdbdhgimokaooaaDoor
open Go.RowKit Go.Proofs.YtdbdhgimokaooaaDoorW.PrintWords Go.Proofs.YtdbdhgimokaooaaDoorW.PrintLast Go.Proofs.YtdbdhgimokaooaaDoorW.PrintMore Go.Proofs.YtdbdhgimokaooaaDoor.Math Go.Proofs.YtdbdhgimokaooaaDoor.Big
set_option linter.unusedVariables false
set_option linter.unusedSimpArgs false
theorem ResN.grown {w wr w1 : World} {b z : Nat} (h : ResN w wr b) (hg : wr.grownBy w1 (some z)) (hz : IsBig wr z) (hw : w.heap.size ≤ z) : ResN w w1 b :=
 ⟨below_of_grown h.lo hg hw, (hg.block b (blk_lt h.box) (by intro e; injection e with e; exact grownBy_number h.box hz e.symm)).trans h.box, h.ge⟩
set_option maxRecDepth 100000 in
set_option maxHeartbeats 2000000 in
theorem minus_calls (x y : Nat) (n k p q : Int) (w : World) {t : Nat} (hx : Big w x n t) (hy : Big w y k t) (hp : -20000 ≤ p ∧ p ≤ 20000) (hq : -20000 ≤ q ∧ q ≤ 20000) (hT : Tab w) (ht : t ≤ 900 := by omega) :
  Calls Tryd.prog 59 #[.agg #[.pointer (some ⟨x, 0, none⟩), .int .i64 p], .agg #[.pointer (some ⟨y, 0, none⟩), .int .i64 q]] w fun e w' => ∃ z, e = .returned (.agg #[.pointer (some ⟨z, 0, none⟩), .int .i64 (mn p q)]) ∧ Big w' z (n * 2 ^ (p - mn p q).toNat - k * 2 ^ (q - mn p q).toNat) 5000 ∧ (-20000 ≤ mn p q ∧ mn p q ≤ 20000) ∧ Below w.heap.size w w' := by
 have hm := mn_le p q
 obtain ⟨j, hj⟩ : ∃ j, mn p q = j := ⟨_, rfl⟩
 have N0 := Aside0.mk ((TwoNum.start w x p y q).below (below_alloc (Below.refl _ _) (.cells #[.pointer none, .int .i64 0] 62)))
 have R0 := Aside0.mk (ResN.next (TwoNum.start w x p y q).lo)
 have hsz : ((w.alloc (.cells #[.pointer (some ⟨x, 0, none⟩), .int .i64 p] 62)).alloc (.cells #[.pointer (some ⟨y, 0, none⟩), .int .i64 q] 62)).heap.size = w.heap.size + 2 := by rw [alloc_size, alloc_size]
 rw [hsz] at R0
 have HX := Aside0.mk (hx.below N0.out.lo)
 have HY := Aside0.mk (hy.below N0.out.lo)
 have HT := Aside0.mk (hT.below N0.out.lo)
 have HB := Aside0.mk (show (-20000 ≤ p ∧ p ≤ 20000) ∧ (-20000 ≤ q ∧ q ≤ 20000) ∧ -20000 ≤ mn p q ∧ mn p q ≤ 20000 from by omega)
 clear hx hy hp hq hT hsz hm hj j
 go_enter Tryd.func59, Tryd.ntmps59
 go_wp2_with fail
 refine (aligned_calls x y n k p q _ HX.out HY.out HB.out.1 HB.out.2.1 HT.out).mono ?_
 rintro e w1 ⟨z1, z2, rfl, hge, hlt, hb1, hb2, hb⟩
 have N1 := Aside0.mk (N0.out.below hb)
 have R1 := Aside0.mk (R0.out.below hb)
 have GE := Aside0.mk (Nat.le_trans N0.out.lo.size hge)
 have B1 := Aside0.mk hb1
 have B2 := Aside0.mk hb2
 clear hge hlt hb1 hb2 hb
 go_wp2_with fail
 refine (sub_calls z1 z1 z2 _ _ _ _ _ B1.out.is B1.out (by omega) B2.out (by omega)).mono ?_
 rintro e w2 ⟨rfl, hb2, hg⟩
 have R2 := Aside0.mk (R1.out.grown hg B1.out.is GE.out)
 have B3 := Aside0.mk hb2
 obtain ⟨q0, q1, q2, q3⟩ := R2.out.cells
 clear hb2 hg
 go_wp2
 refine bodyPost_ret (results_c1 rfl _ _ (w.heap.size + 2) 62 #[.pointer (some ⟨z1, 0, none⟩), .int .i64 (mn p q)] (0, 0) _ rfl (R2.out.put _ _) Tryd.underlying62 rfl (by kernel_rfl)) rfl ?_
 exact ⟨z1, rfl, (R2.out.big B3.out _ _).more (by omega), HB.out.2.2, R2.out.low _ _⟩
theorem minus_makes : MakesN 59 (fun n k p q => n * 2 ^ (p - mn p q).toNat - k * 2 ^ (q - mn p q).toNat) (fun _ _ p q => mn p q) := fun x y n k p q w hx hy hp hq hT =>
 minus_calls x y n k p q w hx hy ⟨by omega, by omega⟩ ⟨by omega, by omega⟩ hT
def impl_SubtractDyadics.f (a0_0 : Int) (l0_1 : List Int) (a0_2 : Int) (a1_0 : Int) (l1_1 : List Int) (a1_2 : Int) : Option (Int × List Int × Int × Int) := if l0_1.length ≤ 1000000000 ∧ l1_1.length ≤ 1000000000 then some (pfit (fun n k p q => n * 2 ^ (p - mn p q).toNat - k * 2 ^ (q - mn p q).toNat) (fun _ _ p q => mn p q) a0_0 l0_1 a0_2 a1_0 l1_1 a1_2) else none
set_option maxRecDepth 100000 in
set_option maxHeartbeats 2000000 in
theorem impl_SubtractDyadics.calls (a0_0 : Int) (A0_1 : Option Addr) (c0_1 : Nat) (l0_1 : List Int) (a0_2 : Int) (a1_0 : Int) (A1_1 : Option Addr) (c1_1 : Nat) (l1_1 : List Int) (a1_2 : Int) (r1 : Int) (r2 : List Int) (r3 r4 : Int) (w : World) (hr0_1 : Kd.C (Kd.int .i64) w A0_1 l0_1.length l0_1) (hc0_1 : l0_1.length ≤ c0_1) (hr1_1 : Kd.C (Kd.int .i64) w A1_1 l1_1.length l1_1) (hc1_1 : l1_1.length ≤ c1_1) (hT : Tab w) (h : impl_SubtractDyadics.f a0_0 l0_1 a0_2 a1_0 l1_1 a1_2 = some (r1, r2, r3, r4)) :
  Calls Tryd.prog 30 #[.agg #[.int .i64 a0_0, .slice A0_1 l0_1.length c0_1, .int .i64 a0_2], .agg #[.int .i64 a1_0, .slice A1_1 l1_1.length c1_1, .int .i64 a1_2]] w fun e w' => ∃ v1_ : Value, e = .returned (.tuple #[.agg #[.int .i64 r1, v1_, .int .i64 r3], .int .i64 r4]) ∧ Kd.R (Kd.int .i64) 2 w' w.heap.size (fun _ => True) v1_ r2 ∧ Below w.heap.size w w' := by
 unfold impl_SubtractDyadics.f at h
 split at h
 case isFalse => cases h
 rename_i hl
 injection h with h
 have HR := Aside0.mk hr0_1
 have HS := Aside0.mk hr1_1
 have T0 := Aside0.mk (TwoDy.start w a0_0 A0_1 c0_1 l0_1 a0_2 a1_0 A1_1 c1_1 l1_1 a1_2)
 have R0 := Aside0.mk (ResD.next T0.out.lo)
 have T1 := Aside0.mk (T0.out.below (below_alloc (Below.refl _ _) (.cells #[.int .i64 0, .slice none 0 0, .int .i64 0] 28)))
 have HL := Aside0.mk hl
 have HH := Aside0.mk h
 have HT := Aside0.mk (hT.below T1.out.lo)
 clear hr0_1 hr1_1 hl T0 h hT
 have hsz : ((w.alloc (.cells #[.int .i64 a0_0, .slice A0_1 l0_1.length c0_1, .int .i64 a0_2] 28)).alloc (.cells #[.int .i64 a1_0, .slice A1_1 l1_1.length c1_1, .int .i64 a1_2] 28)).heap.size = w.heap.size + 2 := by rw [alloc_size, alloc_size]
 rw [hsz] at R0
 clear hsz
 go_enter Tryd.func30, Tryd.ntmps30
 go_wp2_with fail
 refine (pairOf_calls Tryd.func59 rfl rfl _ _ minus_makes _ _ _ _ _ _ _ _ _ _ r1 r2 r3 r4 _ (Kd.C_below HR.out T1.out.lo) hc0_1 (Kd.C_below HS.out T1.out.lo) hc1_1 HL.out HT.out HH.out).mono ?_
 rintro e w1 ⟨v, rfl, hr, hb⟩
 obtain ⟨u1, u2, rfl⟩ := own_slice hr
 have R1 := Aside0.mk (R0.out.below hb)
 have HRW := Aside0.mk hr
 obtain ⟨q0, q1, q2, q3, q4, q5⟩ := R1.out.cells
 clear hr hb
 go_wp2_with fail
 refine bodyPost_ret (results_ct rfl _ _ (w.heap.size + 2) 28 #[.int .i64 r1, .slice u1 r2.length u2, .int .i64 r3] (0, 0) _ rfl (R1.out.put _ _ _) Tryd.underlying28 rfl (by kernel_rfl)) rfl ?_
 exact ⟨_, rfl, R1.out.row HRW.out R0.out.lo.size _ _ _, R1.out.low _ _ _⟩
end Go.Proofs.YtdbdhgimokaooaaDoor
