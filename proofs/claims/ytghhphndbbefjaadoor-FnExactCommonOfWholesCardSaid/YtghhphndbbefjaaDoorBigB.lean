/- Numbers by their values; the walks of SetInt64, newBig, Sign, Abs, Set and Neg. Conditions: the pointers lead to bigInts, of at most 1000000 digits. -/
/- append([]uint32{}, x.mag...): a copy of digits; the walks of Abs, Set and Neg. Conditions: the pointers lead to bigInts, of at most 1000000 digits. -/
import Derived.Test.YtghhphndbbefjaaDoorBigA
import Derived.Deep.RegionHeld3
import Derived.Deep.AppendLies
namespace Go.Proofs.YtghhphndbbefjaaDoor.Big
open Go.RowKit Go.Proofs.YtghhphndbbefjaaDoorW.PrintWords Go.Proofs.YtghhphndbbefjaaDoor.Math
set_option linter.unusedVariables false
set_option linter.unusedSimpArgs false

/-- The value of a sign and digits. -/
def bval (neg : Bool) (xs : List Int) : Int := if neg then -val xs else val xs
/-- Block b is the number n, of at most so many digits. -/
def Big (w : World) (b : Nat) (n : Int) (m : Nat) : Prop :=
  ∃ neg xs, BigAt w b neg xs ∧ Okd xs ∧ Tight xs ∧ (neg = true → xs ≠ []) ∧ xs.length ≤ m ∧ n = bval neg xs

theorem Big.is {w : World} {b : Nat} {n : Int} {m : Nat} (h : Big w b n m) : IsBig w b := by
  obtain ⟨_, _, h, _⟩ := h
  exact h.is
theorem Big.lt {w : World} {b : Nat} {n : Int} {m : Nat} (h : Big w b n m) : b < w.heap.size := h.is.lt
theorem Big.below {w w1 : World} {b : Nat} {n : Int} {m : Nat} (h : Big w b n m) (hb : Below w.heap.size w w1) : Big w1 b n m := by
  obtain ⟨neg, xs, h, r⟩ := h
  exact ⟨neg, xs, h.below hb, r⟩
theorem Big.grown {w w1 : World} {b z : Nat} {n : Int} {m : Nat} (h : Big w b n m) (hg : w.grownBy w1 (some z)) (hz : IsBig w z) (hne : b ≠ z) : Big w1 b n m := by
  obtain ⟨neg, xs, h, r⟩ := h
  exact ⟨neg, xs, h.grown hg hz hne, r⟩
theorem Big.more {w : World} {b : Nat} {n : Int} {m m' : Nat} (h : Big w b n m) (hm : m ≤ m') : Big w b n m' := by
  obtain ⟨neg, xs, h1, h2, h3, h4, h5, h6⟩ := h
  exact ⟨neg, xs, h1, h2, h3, h4, by omega, h6⟩

theorem put_big (z : Nat) (neg : Bool) (v : Value) (xs : List Int) (w : World) (hz : IsBig w z) (hv : Digs w v xs) (ok : Okd xs) :
    Calls Tryd.prog 90 #[.pointer (some ⟨z, 0, none⟩), .bool neg, v] w fun e w' => e = .returned (.pointer (some ⟨z, 0, none⟩)) ∧ Big w' z (bval neg xs) xs.length ∧ w.grownBy w' (some z) := by
  obtain ⟨n0, v0, hz⟩ := hz
  refine (put_calls z neg n0 v v0 xs w hz hv).mono ?_
  rintro e w' ⟨h1, h2, h3⟩
  refine ⟨h1, ⟨_, _, h2, okd_trim ok, trim_tight xs, ?_, trim_length xs, ?_⟩, h3⟩
  · intro h
    simpa using (Bool.and_eq_true_iff.1 h).2
  · by_cases e : trim xs = []
    · have : val xs = 0 := by rw [← val_trim, e]; rfl
      cases neg <;> simp [bval, e, this, val]
    · cases neg <;> simp [bval, e, val_trim]


theorem negU {n : Int} (h1 : -9223372036854775808 ≤ n) (h2 : n < 0) : IntKind.u64.wrap (-IntKind.u64.wrap n) = -n := by
  rw [wrapU, wrapU]
  omega
theorem Digs.two (w : World) (a b : Int) : Digs (w.alloc (.cells #[.int .u32 a, .int .u32 b] 118)) (.slice (some ⟨w.heap.size, 0, none⟩) 2 2) [a, b] :=
  own_lit w 0 118 .u32 [a, b] (Nat.zero_le _) (by simp)
theorem IsBig.alloc {w : World} {b : Nat} (h : IsBig w b) (o : Obj) : IsBig (w.alloc o) b := h.below ((Below.refl _ _).alloc (Nat.le_refl _) o)
theorem grown_alloc {w w1 : World} {o : Obj} {z : Nat} (h : (w.alloc o).grownBy w1 (some z)) : w.grownBy w1 (some z) := (World.grownBy_alloc w o _).trans h
theorem val_two (a : Int) (h1 : 0 ≤ a) : val [a % 4294967296, a / 4294967296] = a := by
  simp only [val]
  omega

set_option maxHeartbeats 400000 in
theorem setInt64_calls (z : Nat) (n : Int) (w : World) (hz : IsBig w z) (h1 : -9223372036854775808 ≤ n) (h2 : n ≤ 9223372036854775807) :
    Calls Tryd.prog 108 #[.pointer (some ⟨z, 0, none⟩), .int .i64 n] w fun e w' => e = .returned (.pointer (some ⟨z, 0, none⟩)) ∧ Big w' z n 2 ∧ w.grownBy w' (some z) := by
  have HZ := Aside0.mk hz
  clear hz
  by_cases hn : n < 0
  · have hu := negU h1 hn
    have HU := Aside0.mk hu
    clear hu
    go_enter Tryd.func108, Tryd.ntmps108
    go_wp2_with fail
    rw [HU.out]
    rw [Int.emod_eq_of_lt (a := -n / 4294967296) (by omega) (by omega)]
    refine (put_big z true _ [-n % 4294967296, -n / 4294967296] _ (HZ.out.alloc _) (Digs.two _ _ _) (Okd.cons (by omega) (okd_single (by omega)))).mono ?_
    rintro e w' ⟨rfl, hb, hg⟩
    have HB := Aside0.mk hb
    have HG := Aside0.mk hg
    clear hb hg
    go_wp2
    go_ret
    refine ⟨rfl, ?_, grown_alloc HG.out⟩
    have := HB.out
    rw [bval, if_pos rfl, val_two _ (by omega), Int.neg_neg] at this
    exact this
  · go_enter Tryd.func108, Tryd.ntmps108
    go_wp2_with fail
    refine (put_big z false _ [n % 4294967296, n / 4294967296] _ (HZ.out.alloc _) (Digs.two _ _ _) (Okd.cons (by omega) (okd_single (by omega)))).mono ?_
    rintro e w' ⟨rfl, hb, hg⟩
    have HB := Aside0.mk hb
    have HG := Aside0.mk hg
    clear hb hg
    go_wp2
    go_ret
    refine ⟨rfl, ?_, grown_alloc HG.out⟩
    have := HB.out
    rw [bval, if_neg (by decide), val_two _ (by omega)] at this
    exact this

set_option maxHeartbeats 400000 in
theorem newBig_calls (n : Int) (w : World) (h1 : -9223372036854775808 ≤ n) (h2 : n ≤ 9223372036854775807) :
    Calls Tryd.prog 84 #[.int .i64 n] w fun e w' => e = .returned (.pointer (some ⟨w.heap.size, 0, none⟩)) ∧ Big w' w.heap.size n 2 ∧ Below w.heap.size w w' := by
  go_enter Tryd.func84, Tryd.ntmps84
  go_wp2_with fail
  refine (setInt64_calls _ n _ ⟨_, _, heap_alloc_new w _⟩ h1 h2).mono ?_
  rintro e w' ⟨rfl, hb, hg⟩
  have HB := Aside0.mk hb
  have HG := Aside0.mk hg
  clear hb hg
  go_wp2
  go_ret
  exact ⟨rfl, HB.out, below_of_grown ((Below.refl _ _).alloc (Nat.le_refl _) _) HG.out (Nat.le_refl _)⟩

set_option maxHeartbeats 400000 in
theorem sign_calls (x : Nat) (n : Int) (m : Nat) (w : World) (hx : Big w x n m) :
    Calls Tryd.prog 95 #[.pointer (some ⟨x, 0, none⟩)] w fun e w' => e = .returned (.int .i64 (sgn n)) ∧ w' = w := by
  obtain ⟨neg, xs, ⟨v, hb, hd⟩, ok, ti, hne, hm, rfl⟩ := hx
  obtain ⟨A, c, rfl⟩ := hd.shape
  obtain ⟨c0, c1, f0, f1⟩ := big_cells hb
  have hs : sgn (bval neg xs) = (if xs = [] then 0 else if neg then -1 else 1) := by
    by_cases e : xs = []
    · subst e
      cases neg <;> rfl
    · have h := val_eq_zero ok ti
      have h0 := val_nonneg ok
      have h3 : val xs ≠ 0 := fun h' => e (h.1 h')
      rw [if_neg e]
      cases neg
      · simp only [bval, sgn, Bool.false_eq_true, if_false]
        rw [if_neg (by omega), if_neg (by omega)]
      · simp only [bval, sgn, if_true]
        rw [if_pos (by omega)]
  have HS := Aside0.mk hs
  clear hs hb hd ok ti hne f0 f1
  by_cases e : xs = []
  · have hl : ((xs.length : Int) == 0) = true := by rw [e]; rfl
    have E := Aside0.mk e
    clear e
    go_enter Tryd.func95, Tryd.ntmps95
    go_wp2
    go_ret
    exact ⟨by rw [HS.out, if_pos E.out]; rfl, rfl⟩
  · have hl : ((xs.length : Int) == 0) = false := by simpa using e
    have E := Aside0.mk e
    clear e
    cases neg
    all_goals
      go_enter Tryd.func95, Tryd.ntmps95
      go_wp2
      go_ret
      exact ⟨by rw [HS.out, if_neg E.out]; rfl, rfl⟩
end Go.Proofs.YtghhphndbbefjaaDoor.Big

namespace Go.Proofs.YtghhphndbbefjaaDoor.Big
open Go.RowKit Go.Proofs.YtghhphndbbefjaaDoorW.PrintWords Go.Proofs.YtghhphndbbefjaaDoorW.PrintLast Go.Proofs.YtghhphndbbefjaaDoorW.PrintMore Go.Proofs.YtghhphndbbefjaaDoor.Math
set_option linter.unusedVariables false
set_option linter.unusedSimpArgs false

theorem nums_get (xs : List Int) (j : Nat) (u : Value) (hu : (nums .u32 xs)[j]? = some u) : j < xs.length ∧ u = .int .u32 (xs.getD j 0) := by
  have hj : j < xs.length := by
    rcases Nat.lt_or_ge j xs.length with h | h
    · exact h
    · simp [nums, List.getElem?_eq_none h] at hu
  refine ⟨hj, ?_⟩
  simp [nums, List.getElem?_eq_getElem hj] at hu
  subst hu
  simp [List.getD_eq_getElem?_getD, List.getElem?_eq_getElem hj]
theorem copy_run (W : World) (ty : TypeId) (g : Nat) (hg : W.heap[g]? = some (.cells #[] 118 (0, 0))) (v : Value) (xs : List Int) (HX : Digs W v xs) (hl : xs.length ≤ 1000000000) :
    ∃ v1 w1, (Builtin.append_ #[71, 71] ty #[.slice (some ⟨g, 0, none⟩) 0 0, v]).run Tryd.prog W = .ok v1 w1 ∧ Digs w1 v1 xs ∧ W.grownBy w1 (some g) := by
  obtain ⟨i0, hi, hz0, hz1, hz2⟩ := info_parts info32
  have ht := Tryd.underlying71
  have HO : W.ownsRow 0 118 1 (.slice (some ⟨g, 0, none⟩) 0 0) 0 [] := ⟨rfl, .inr ⟨g, 0, #[], rfl, Nat.zero_le _, hg, Nat.le_refl _, Nat.zero_le _, rfl, rfl⟩⟩
  obtain ⟨A, c, rfl⟩ := HX.shape
  rcases A with _ | ad
  · have h0 : xs = [] := by
      rcases HX.2 with ⟨_, h⟩ | ⟨_, _, _, h, _⟩
      · exact List.eq_nil_of_length_eq_zero h
      · cases h
    subst h0
    refine ⟨.slice (some ⟨g, 0, none⟩) 0 0, W, ?_, HO, grownBy_refl _ _⟩
    simp [Builtin.append_, run_underlying ht, sizeOf, typeInfo, hi, Builtin.lenOf, Builtin.firstCells, storeCells]
  · have hcells : ∀ j u, (nums .u32 xs)[j]? = some u → W.cell? (ad.add j) = some u := by
      intro j u hu
      obtain ⟨hj, rfl⟩ := nums_get xs j u hu
      obtain ⟨g', c', he, _⟩ := HX.form (by omega)
      obtain rfl : ad = ⟨g', 0, none⟩ := Option.some.inj (Value.slice.inj he).1
      rw [add_plain]
      exact (HX.at_ hj).1
    have hgl : g < W.heap.size := blk_lt hg
    obtain ⟨v1, w1, hr, h2, h3, _, h5⟩ := run_append_own_at (P := Tryd.prog) W 0 71 ty 118 i0 (.int .u32 0) 1 4 ht hi hz0 hz1 hz2 rfl (by omega) _ 0 [] HO ad xs.length c (nums .u32 xs) (by simp [nums]) hcells
      (by intro u hu; simp only [nums, List.mem_map] at hu; obtain ⟨q, _, rfl⟩ := hu; rfl) (by simp only [maxLen]; omega) (by omega) (Nat.zero_le _)
    exact ⟨v1, w1, hr, by simpa [nums, Digs] using h2, h3⟩

section
variable {ops : Array Oper} {rest : List Oper} {o : Oper} {a : Act} {Q : Exit → Act → World → Prop} {K : Act → World → Prop}
theorem wpList_copy {W : World} (hgd : o.guard = none) (s x : Operand) (ho : o.op = .call { callee := .builtin .append, args := #[s, x], argTypes := #[71, 71] })
    (g : Nat) (v : Value) (xs : List Int) (hs : a.eval s = .slice (some ⟨g, 0, none⟩) 0 0) (hx : a.eval x = v)
    (hg : W.heap[g]? = some (.cells #[] 118 (0, 0))) (HX : Digs W v xs) (hl : xs.length ≤ 1000000000)
    (h : ∀ v1 w1, Digs w1 v1 xs → W.grownBy w1 (some g) → wpList Tryd.prog ops Q rest (a.put o.dst v1) w1) :
    wpList Tryd.prog ops Q (o :: rest) a W := by
  obtain ⟨v1, w1, hr, hown, hg⟩ := copy_run W o.type g hg v xs HX hl
  refine wpList_plain hgd fun K hK => ?_
  unfold Oper.wp execOp
  simp only [ho, resolve, invoke, builtin, Sem.run_bind, Sem.run_pure, Result.andThen_ok, List.map_toArray, List.map_cons, List.map_nil, hs, hx, hr]
  exact hK _ _ (h v1 w1 hown hg)
theorem step_copy {W : World} (hw : Region.wanted o (yielded ops a.tmps) = true) (s x : Operand) (ho : o.op = .call { callee := .builtin .append, args := #[s, x], argTypes := #[71, 71] })
    (g : Nat) (v : Value) (xs : List Int) (hs : a.eval s = .slice (some ⟨g, 0, none⟩) 0 0) (hx : a.eval x = v)
    (hg : W.heap[g]? = some (.cells #[] 118 (0, 0))) (HX : Digs W v xs) (hl : xs.length ≤ 1000000000)
    (h : ∀ v1 w1, Digs w1 v1 xs → W.grownBy w1 (some g) → K (a.put o.dst v1) w1) :
    if Region.wanted o (yielded ops a.tmps) = true then Oper.wp Tryd.prog o a W K Q else K (a.put o.dst undef) W := by
  obtain ⟨v1, w1, hr, hown, hg⟩ := copy_run W o.type g hg v xs HX hl
  rw [if_pos hw]
  unfold Oper.wp execOp
  simp only [ho, resolve, invoke, builtin, Sem.run_bind, Sem.run_pure, Result.andThen_ok, List.map_toArray, List.map_cons, List.map_nil, hs, hx, hr]
  exact h v1 w1 hown hg
end

/-- The size of a number. -/
def iabs (n : Int) : Int := if n < 0 then -n else n
theorem iabs_bval {neg : Bool} {xs : List Int} (ok : Okd xs) : iabs (bval neg xs) = bval false xs := by
  have h2 := val_nonneg ok
  cases neg
  · simp only [bval, iabs, Bool.false_eq_true, if_false]
    rw [if_neg (by omega)]
  · simp only [bval, iabs, if_true, Bool.false_eq_true, if_false]
    split <;> omega
set_option maxHeartbeats 400000 in
theorem abs_calls (z x : Nat) (n : Int) (m : Nat) (w : World) (hz : IsBig w z) (hx : Big w x n m) (hm : m ≤ 1000000) :
    Calls Tryd.prog 62 #[.pointer (some ⟨z, 0, none⟩), .pointer (some ⟨x, 0, none⟩)] w fun e w' => e = .returned (.pointer (some ⟨z, 0, none⟩)) ∧ Big w' z (iabs n) m ∧ w.grownBy w' (some z) := by
  obtain ⟨neg, xs, ⟨v, hb, hd⟩, ok, ti, hne, hlm, rfl⟩ := hx
  obtain ⟨A, c, rfl⟩ := hd.shape
  obtain ⟨c0, c1, f0, f1⟩ := big_cells hb
  have HZ := Aside0.mk hz
  have HD := Aside0.mk hd
  have OK := Aside0.mk ok
  have hxw : x ≠ w.heap.size := Nat.ne_of_lt (blk_lt hb)
  have c1' := pw_cell_below ((Below.refl _ _).alloc (Nat.le_refl _) (.cells #[] 118)) c1
  clear hz hd hb ti hne ok f0 f1 c0 c1
  go_enter Tryd.func62, Tryd.ntmps62
  go_wp2_with (at_builtin; refine wpList_copy rfl _ _ rfl w.heap.size _ xs rfl rfl (heap_alloc_new w _) (HD.out.below ((Below.refl _ _).alloc (Nat.le_refl _) _)) (by omega) ?_; intro v1 w1 hd1 hg1)
  refine (put_big z false v1 xs _ ((HZ.out.alloc _).grown hg1 (Nat.ne_of_lt HZ.out.lt)) hd1 OK.out).mono ?_
  rintro e w' ⟨rfl, hb2, hg2⟩
  have HB := Aside0.mk hb2
  have hb1 := below_of_grown ((Below.refl _ _).alloc (Nat.le_refl _) _) hg1 (Nat.le_refl _)
  have HG := Aside0.mk ((below_grownBy hb1 (some z)).trans hg2)
  clear hb2 hg2 hg1 hb1 hd1
  go_wp2
  go_ret
  refine ⟨rfl, ?_, HG.out⟩
  rw [iabs_bval OK.out]
  exact HB.out.more hlm
set_option maxRecDepth 100000 in
set_option maxHeartbeats 1000000 in
theorem set_calls (z x : Nat) (n : Int) (m : Nat) (w : World) (hz : IsBig w z) (hx : Big w x n m) (hm : m ≤ 1000000) :
    Calls Tryd.prog 110 #[.pointer (some ⟨z, 0, none⟩), .pointer (some ⟨x, 0, none⟩)] w fun e w' => e = .returned (.pointer (some ⟨z, 0, none⟩)) ∧ Big w' z n m ∧ w.grownBy w' (some z) := by
  obtain ⟨neg, xs, ⟨v, hb, hd⟩, ok, ti, hne, hlm, rfl⟩ := hx
  obtain ⟨A, c, rfl⟩ := hd.shape
  obtain ⟨c0, c1, f0, f1⟩ := big_cells hb
  have HZ := Aside0.mk hz
  have HD := Aside0.mk hd
  have OK := Aside0.mk ok
  have hxw : x < w.heap.size := blk_lt hb
  clear hz hd hb ti hne ok f0 f1
  go_enter Tryd.func110, Tryd.ntmps110
  go_wp2_with fail
  refine start_ (n := 13) (S := fun w' => w'.cell? ⟨x, 0, none⟩ = some (.bool neg) ∧ w'.cell? ⟨x, 1, none⟩ = some (.slice A xs.length c)) (ds := [11]) #[false, false, false, false, false, false, false, false, false, false, false, false, false] (by kernel_rfl) rfl rfl ⟨c0, c1⟩ (fun hHeld => ?_)
  have Dw0 := Aside0.mk ((Below.refl w.heap.size w).drew)
  generalize w.drew = w0 at hHeld Dw0 ⊢
  refine pure_ (i := 0) (N := some 5) (v := ?_) (a' := ?_) #[true, false, false, false, false, false, false, false, false, false, false, false, false] rfl rfl (by kernel_rfl) (fun _ _ _ h => h) (Or.inl ⟨by rfl, ?_⟩) ?_ ?_
  rotate_left
  · intro w'
    go_simp
    with_reducible rfl
  rotate_left
  · simp only [Act.put, List.setIfInBounds_toArray, List.set_cons_zero, List.set_cons_succ, i64_w, i32_w]
    rfl
  refine pure_ (i := 1) (N := some 6) (v := ?_) (a' := ?_) #[true, true, false, false, false, false, false, false, false, false, false, false, false] rfl rfl (by kernel_rfl) (fun _ _ _ h => h) (Or.inl ⟨by rfl, ?_⟩) ?_ ?_
  rotate_left
  · intro w'
    go_simp
    with_reducible rfl
  rotate_left
  · simp only [Act.put, List.setIfInBounds_toArray, List.set_cons_zero, List.set_cons_succ, i64_w, i32_w]
    rfl
  refine pure_ (i := 2) (N := some 7) (v := ?_) (a' := ?_) #[true, true, true, false, false, false, false, false, false, false, false, false, false] rfl rfl (by kernel_rfl) (fun _ _ _ h => h) (Or.inl ⟨by rfl, ?_⟩) ?_ ?_
  rotate_left
  · intro w'
    go_simp
    with_reducible rfl
  rotate_left
  · simp only [Act.put, List.setIfInBounds_toArray, List.set_cons_zero, List.set_cons_succ, i64_w, i32_w]
    rfl
  refine pure_ (i := 3) (N := some 8) (v := ?_) (a' := ?_) #[true, true, true, true, false, false, false, false, false, false, false, false, false] rfl rfl (by kernel_rfl) (fun _ _ _ h => h) (Or.inl ⟨by rfl, ?_⟩) ?_ ?_
  rotate_left
  · intro w'
    go_simp
    with_reducible rfl
  rotate_left
  · simp only [Act.put, List.setIfInBounds_toArray, List.set_cons_zero, List.set_cons_succ, i64_w, i32_w]
    rfl
  refine pure_ (i := 6) (N := some 11) (v := ?_) (a' := ?_) #[true, true, true, true, false, false, true, false, false, false, false, false, false] rfl rfl (by kernel_rfl) (fun _ _ _ h => h) (Or.inl ⟨by rfl, ?_⟩) ?_ ?_
  rotate_left
  · intro w'
    go_simp
    with_reducible rfl
  rotate_left
  · simp only [Act.put, List.setIfInBounds_toArray, List.set_cons_zero, List.set_cons_succ, i64_w, i32_w]
    rfl
  refine pure_ (i := 7) (N := some 12) (v := ?_) (a' := ?_) #[true, true, true, true, false, false, true, true, false, false, false, false, false] rfl rfl (by kernel_rfl) (fun _ _ _ h => h) (Or.inl ⟨by rfl, ?_⟩) ?_ ?_
  rotate_left
  · intro w'
    go_simp
    with_reducible rfl
  rotate_left
  · simp only [Act.put, List.setIfInBounds_toArray, List.set_cons_zero, List.set_cons_succ, i64_w, i32_w]
    rfl
  refine pure_ (i := 8) (N := some 13) (v := ?_) (a' := ?_) #[true, true, true, true, false, false, true, true, true, false, false, false, false] rfl rfl (by kernel_rfl) (fun _ _ _ h => h) (Or.inl ⟨by rfl, ?_⟩) ?_ ?_
  rotate_left
  · intro w'
    go_simp
    with_reducible rfl
  rotate_left
  · simp only [Act.put, List.setIfInBounds_toArray, List.set_cons_zero, List.set_cons_succ, i64_w, i32_w]
    rfl
  refine take_ (i := 4) (N := some 9) (v := ?_) (a' := ?_) #[true, true, true, true, true, false, true, true, true, false, false, false, false] rfl rfl (by kernel_rfl) (fun _ _ _ h => h) (Or.inl ⟨by rfl, ?_⟩) hHeld ?_ ?_
  rotate_left
  · rintro w' ⟨s0, s1⟩
    go_simp
    with_reducible rfl
  rotate_left
  · simp only [Act.put, List.setIfInBounds_toArray, List.set_cons_zero, List.set_cons_succ, i64_w, i32_w]
    rfl
  refine take_ (i := 9) (N := some 14) (v := ?_) (a' := ?_) #[true, true, true, true, true, false, true, true, true, true, false, false, false] rfl rfl (by kernel_rfl) (fun _ _ _ h => h) (Or.inl ⟨by rfl, ?_⟩) hHeld ?_ ?_
  rotate_left
  · rintro w' ⟨s0, s1⟩
    go_simp
    with_reducible rfl
  rotate_left
  · simp only [Act.put, List.setIfInBounds_toArray, List.set_cons_zero, List.set_cons_succ, i64_w, i32_w]
    rfl
  refine one_ (i := 5) (N := some 10) #[true, true, true, true, true, true, true, true, true, true, false, false, false] rfl rfl (by kernel_rfl) (by decide) (fun K hK => ?_)
  refine value_ (w1 := ?_) (v := ?_) (by rfl) rfl ?_ ?_
  rotate_left 2
  · go_simp
    constructor
    · rfl
    · rfl
  refine hK.out _ _ ⟨pw_cell_below (below_alloc (Below.refl _ _) _) hHeld.1, pw_cell_below (below_alloc (Below.refl _ _) _) hHeld.2⟩ (fun hHeld => ?_)
  clear hK K
  refine norm_ (a' := ?_) ?_ ?_
  rotate_left
  · show Act.put _ (some 10) _ = _
    simp only [Act.put, List.setIfInBounds_toArray, List.set_cons_zero, List.set_cons_succ, i64_w, i32_w]
    rfl
  refine one_ (i := 10) (N := some 15) #[true, true, true, true, true, true, true, true, true, true, true, false, false] rfl rfl (by kernel_rfl) (by decide) (fun K hK => ?_)
  have hne : ∀ q : World, x < q.heap.size → some x ≠ some q.heap.size := fun q hq h => absurd (Option.some.inj h) (Nat.ne_of_lt hq)
  have hxl : x < w0.heap.size := Nat.lt_of_lt_of_le hxw Dw0.out.size
  refine step_copy (by rfl) (.tmp 10) (.tmp 14) (by rfl) w0.heap.size _ xs (by rfl) (by rfl) (heap_alloc_new w0 _) ((HD.out.below Dw0.out).below (below_alloc (Below.refl _ _) _)) (by omega) ?_
  intro v1 w1 hd1 hg1
  refine hK.out _ _ ⟨hg1.cell hHeld.1 (hne _ hxl), hg1.cell hHeld.2 (hne _ hxl)⟩ (fun hHeld => ?_)
  clear hK K
  refine norm_ (a' := ?_) ?_ ?_
  rotate_left
  · show Act.put _ (some 15) _ = _
    simp only [Act.put, List.setIfInBounds_toArray, List.set_cons_zero, List.set_cons_succ, i64_w, i32_w]
    rfl
  refine last_ (i := 11) (N := some 16) #[true, true, true, true, true, true, true, true, true, true, true, true, false] rfl rfl (by kernel_rfl) (by decide) (fun K hK => ?_)
  refine goes_ Tryd.func90 (by kernel_rfl) rfl #[.pointer (some ⟨z, 0, none⟩), .bool neg, v1] (by rfl) rfl rfl (by simp only [List.map_toArray, List.map_cons, List.map_nil]; rfl) ?_
  with_reducible refine (put_big z neg v1 xs _ (((HZ.out.below Dw0.out).alloc _).grown hg1 (Nat.ne_of_lt (HZ.out.below Dw0.out).lt)) hd1 OK.out).mono ?_
  rintro e w' ⟨rfl, hb2, hg2⟩
  refine ⟨_, rfl, ?_⟩
  refine hK.out _ _ ?_
  clear hK K
  refine norm_ (a' := ?_) ?_ ?_
  rotate_left
  · show Act.put _ (some 16) _ = _
    simp only [Act.put, List.setIfInBounds_toArray, List.set_cons_zero, List.set_cons_succ, i64_w, i32_w]
    rfl
  refine pure_ (i := 12) (N := some 4) (v := ?_) (a' := ?_) #[true, true, true, true, true, true, true, true, true, true, true, true, true] rfl rfl (by kernel_rfl) (fun _ _ _ h => h) (Or.inl ⟨by rfl, ?_⟩) ?_ ?_
  rotate_left
  · intro w'
    go_simp
    with_reducible rfl
  rotate_left
  · simp only [Act.put, List.setIfInBounds_toArray, List.set_cons_zero, List.set_cons_succ, i64_w, i32_w]
    rfl
  refine done_ (by kernel_rfl) ?_

  have hb1 := below_of_grown (w := w) (Dw0.out.alloc Dw0.out.size _) hg1 Dw0.out.size
  have HG := Aside0.mk ((below_grownBy hb1 (some z)).trans hg2)
  have HB := Aside0.mk (hb2.more hlm)
  clear hb2 hg2 hg1 hb1 hd1
  try go_wp2
  go_ret
  exact ⟨rfl, HB.out, HG.out⟩
theorem bval_not (neg : Bool) (xs : List Int) : bval (!neg) xs = -bval neg xs := by
  cases neg <;> simp [bval]
set_option maxRecDepth 100000 in
set_option maxHeartbeats 1000000 in
theorem neg_calls (z x : Nat) (n : Int) (m : Nat) (w : World) (hz : IsBig w z) (hx : Big w x n m) (hm : m ≤ 1000000) :
    Calls Tryd.prog 93 #[.pointer (some ⟨z, 0, none⟩), .pointer (some ⟨x, 0, none⟩)] w fun e w' => e = .returned (.pointer (some ⟨z, 0, none⟩)) ∧ Big w' z (-n) m ∧ w.grownBy w' (some z) := by
  obtain ⟨neg, xs, ⟨v, hb, hd⟩, ok, ti, hne, hlm, rfl⟩ := hx
  obtain ⟨A, c, rfl⟩ := hd.shape
  obtain ⟨c0, c1, f0, f1⟩ := big_cells hb
  have HZ := Aside0.mk hz
  have HD := Aside0.mk hd
  have OK := Aside0.mk ok
  have hxw : x < w.heap.size := blk_lt hb
  clear hz hd hb ti hne ok f0 f1
  go_enter Tryd.func93, Tryd.ntmps93
  go_wp2_with fail
  refine start_ (n := 14) (S := fun w' => w'.cell? ⟨x, 0, none⟩ = some (.bool neg) ∧ w'.cell? ⟨x, 1, none⟩ = some (.slice A xs.length c)) (ds := [12]) #[false, false, false, false, false, false, false, false, false, false, false, false, false, false] (by kernel_rfl) rfl rfl ⟨c0, c1⟩ (fun hHeld => ?_)
  have Dw0 := Aside0.mk ((Below.refl w.heap.size w).drew)
  generalize w.drew = w0 at hHeld Dw0 ⊢
  refine pure_ (i := 0) (N := some 5) (v := ?_) (a' := ?_) #[true, false, false, false, false, false, false, false, false, false, false, false, false, false] rfl rfl (by kernel_rfl) (fun _ _ _ h => h) (Or.inl ⟨by rfl, ?_⟩) ?_ ?_
  rotate_left
  · intro w'
    go_simp
    with_reducible rfl
  rotate_left
  · simp only [Act.put, List.setIfInBounds_toArray, List.set_cons_zero, List.set_cons_succ, i64_w, i32_w]
    rfl
  refine pure_ (i := 1) (N := some 6) (v := ?_) (a' := ?_) #[true, true, false, false, false, false, false, false, false, false, false, false, false, false] rfl rfl (by kernel_rfl) (fun _ _ _ h => h) (Or.inl ⟨by rfl, ?_⟩) ?_ ?_
  rotate_left
  · intro w'
    go_simp
    with_reducible rfl
  rotate_left
  · simp only [Act.put, List.setIfInBounds_toArray, List.set_cons_zero, List.set_cons_succ, i64_w, i32_w]
    rfl
  refine pure_ (i := 2) (N := some 7) (v := ?_) (a' := ?_) #[true, true, true, false, false, false, false, false, false, false, false, false, false, false] rfl rfl (by kernel_rfl) (fun _ _ _ h => h) (Or.inl ⟨by rfl, ?_⟩) ?_ ?_
  rotate_left
  · intro w'
    go_simp
    with_reducible rfl
  rotate_left
  · simp only [Act.put, List.setIfInBounds_toArray, List.set_cons_zero, List.set_cons_succ, i64_w, i32_w]
    rfl
  refine pure_ (i := 3) (N := some 8) (v := ?_) (a' := ?_) #[true, true, true, true, false, false, false, false, false, false, false, false, false, false] rfl rfl (by kernel_rfl) (fun _ _ _ h => h) (Or.inl ⟨by rfl, ?_⟩) ?_ ?_
  rotate_left
  · intro w'
    go_simp
    with_reducible rfl
  rotate_left
  · simp only [Act.put, List.setIfInBounds_toArray, List.set_cons_zero, List.set_cons_succ, i64_w, i32_w]
    rfl
  refine pure_ (i := 7) (N := some 12) (v := ?_) (a' := ?_) #[true, true, true, true, false, false, false, true, false, false, false, false, false, false] rfl rfl (by kernel_rfl) (fun _ _ _ h => h) (Or.inl ⟨by rfl, ?_⟩) ?_ ?_
  rotate_left
  · intro w'
    go_simp
    with_reducible rfl
  rotate_left
  · simp only [Act.put, List.setIfInBounds_toArray, List.set_cons_zero, List.set_cons_succ, i64_w, i32_w]
    rfl
  refine pure_ (i := 8) (N := some 13) (v := ?_) (a' := ?_) #[true, true, true, true, false, false, false, true, true, false, false, false, false, false] rfl rfl (by kernel_rfl) (fun _ _ _ h => h) (Or.inl ⟨by rfl, ?_⟩) ?_ ?_
  rotate_left
  · intro w'
    go_simp
    with_reducible rfl
  rotate_left
  · simp only [Act.put, List.setIfInBounds_toArray, List.set_cons_zero, List.set_cons_succ, i64_w, i32_w]
    rfl
  refine pure_ (i := 9) (N := some 14) (v := ?_) (a' := ?_) #[true, true, true, true, false, false, false, true, true, true, false, false, false, false] rfl rfl (by kernel_rfl) (fun _ _ _ h => h) (Or.inl ⟨by rfl, ?_⟩) ?_ ?_
  rotate_left
  · intro w'
    go_simp
    with_reducible rfl
  rotate_left
  · simp only [Act.put, List.setIfInBounds_toArray, List.set_cons_zero, List.set_cons_succ, i64_w, i32_w]
    rfl
  refine take_ (i := 4) (N := some 9) (v := ?_) (a' := ?_) #[true, true, true, true, true, false, false, true, true, true, false, false, false, false] rfl rfl (by kernel_rfl) (fun _ _ _ h => h) (Or.inl ⟨by rfl, ?_⟩) hHeld ?_ ?_
  rotate_left
  · rintro w' ⟨s0, s1⟩
    go_simp
    with_reducible rfl
  rotate_left
  · simp only [Act.put, List.setIfInBounds_toArray, List.set_cons_zero, List.set_cons_succ, i64_w, i32_w]
    rfl
  refine pure_ (i := 5) (N := some 10) (v := ?_) (a' := ?_) #[true, true, true, true, true, true, false, true, true, true, false, false, false, false] rfl rfl (by kernel_rfl) (fun _ _ _ h => h) (Or.inl ⟨by rfl, ?_⟩) ?_ ?_
  rotate_left
  · intro w'
    go_simp
    with_reducible rfl
  rotate_left
  · simp only [Act.put, List.setIfInBounds_toArray, List.set_cons_zero, List.set_cons_succ, i64_w, i32_w]
    rfl
  refine take_ (i := 10) (N := some 15) (v := ?_) (a' := ?_) #[true, true, true, true, true, true, false, true, true, true, true, false, false, false] rfl rfl (by kernel_rfl) (fun _ _ _ h => h) (Or.inl ⟨by rfl, ?_⟩) hHeld ?_ ?_
  rotate_left
  · rintro w' ⟨s0, s1⟩
    go_simp
    with_reducible rfl
  rotate_left
  · simp only [Act.put, List.setIfInBounds_toArray, List.set_cons_zero, List.set_cons_succ, i64_w, i32_w]
    rfl
  refine one_ (i := 6) (N := some 11) #[true, true, true, true, true, true, true, true, true, true, true, false, false, false] rfl rfl (by kernel_rfl) (by decide) (fun K hK => ?_)
  refine value_ (w1 := ?_) (v := ?_) (by rfl) rfl ?_ ?_
  rotate_left 2
  · go_simp
    constructor
    · rfl
    · rfl
  refine hK.out _ _ ⟨pw_cell_below (below_alloc (Below.refl _ _) _) hHeld.1, pw_cell_below (below_alloc (Below.refl _ _) _) hHeld.2⟩ (fun hHeld => ?_)
  clear hK K
  refine norm_ (a' := ?_) ?_ ?_
  rotate_left
  · show Act.put _ (some 11) _ = _
    simp only [Act.put, List.setIfInBounds_toArray, List.set_cons_zero, List.set_cons_succ, i64_w, i32_w]
    rfl
  refine one_ (i := 11) (N := some 16) #[true, true, true, true, true, true, true, true, true, true, true, true, false, false] rfl rfl (by kernel_rfl) (by decide) (fun K hK => ?_)
  have hne : ∀ q : World, x < q.heap.size → some x ≠ some q.heap.size := fun q hq h => absurd (Option.some.inj h) (Nat.ne_of_lt hq)
  have hxl : x < w0.heap.size := Nat.lt_of_lt_of_le hxw Dw0.out.size
  refine step_copy (by rfl) (.tmp 11) (.tmp 15) (by rfl) w0.heap.size _ xs (by rfl) (by rfl) (heap_alloc_new w0 _) ((HD.out.below Dw0.out).below (below_alloc (Below.refl _ _) _)) (by omega) ?_
  intro v1 w1 hd1 hg1
  refine hK.out _ _ ⟨hg1.cell hHeld.1 (hne _ hxl), hg1.cell hHeld.2 (hne _ hxl)⟩ (fun hHeld => ?_)
  clear hK K
  refine norm_ (a' := ?_) ?_ ?_
  rotate_left
  · show Act.put _ (some 16) _ = _
    simp only [Act.put, List.setIfInBounds_toArray, List.set_cons_zero, List.set_cons_succ, i64_w, i32_w]
    rfl
  refine last_ (i := 12) (N := some 17) #[true, true, true, true, true, true, true, true, true, true, true, true, true, false] rfl rfl (by kernel_rfl) (by decide) (fun K hK => ?_)
  refine goes_ Tryd.func90 (by kernel_rfl) rfl #[.pointer (some ⟨z, 0, none⟩), .bool (!neg), v1] (by rfl) rfl rfl (by simp only [List.map_toArray, List.map_cons, List.map_nil]; rfl) ?_
  with_reducible refine (put_big z (!neg) v1 xs _ (((HZ.out.below Dw0.out).alloc _).grown hg1 (Nat.ne_of_lt (HZ.out.below Dw0.out).lt)) hd1 OK.out).mono ?_
  rintro e w' ⟨rfl, hb2, hg2⟩
  refine ⟨_, rfl, ?_⟩
  refine hK.out _ _ ?_
  clear hK K
  refine norm_ (a' := ?_) ?_ ?_
  rotate_left
  · show Act.put _ (some 17) _ = _
    simp only [Act.put, List.setIfInBounds_toArray, List.set_cons_zero, List.set_cons_succ, i64_w, i32_w]
    rfl
  refine pure_ (i := 13) (N := some 4) (v := ?_) (a' := ?_) #[true, true, true, true, true, true, true, true, true, true, true, true, true, true] rfl rfl (by kernel_rfl) (fun _ _ _ h => h) (Or.inl ⟨by rfl, ?_⟩) ?_ ?_
  rotate_left
  · intro w'
    go_simp
    with_reducible rfl
  rotate_left
  · simp only [Act.put, List.setIfInBounds_toArray, List.set_cons_zero, List.set_cons_succ, i64_w, i32_w]
    rfl
  refine done_ (by kernel_rfl) ?_

  have hb1 := below_of_grown (w := w) (Dw0.out.alloc Dw0.out.size _) hg1 Dw0.out.size
  have HG := Aside0.mk ((below_grownBy hb1 (some z)).trans hg2)
  have HB := Aside0.mk (hb2.more hlm)
  clear hb2 hg2 hg1 hb1 hd1
  try go_wp2
  go_ret
  refine ⟨rfl, ?_, HG.out⟩
  have hb := HB.out
  rwa [bval_not] at hb
end Go.Proofs.YtghhphndbbefjaaDoor.Big
