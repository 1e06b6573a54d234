/- The contracts of impl.IsDyadic, impl.dyadicCode and impl.ScaleDyadic in plain words. Conditions: at most 1000000000 limbs; the library's table holds its numbers. -/
/- The contracts of (impl.Dyadic).value, (impl.number).floor and impl.FloorDyadic in plain words. Conditions: at most 1000000000 limbs; the library's table holds its numbers. -/
import Derived.Test.YthddlechoibdkaaDoorDyM
import Derived.Test.YthddlechoibdkaaDoorA2
namespace Go.Proofs.YthddlechoibdkaaDoor
open Go.RowKit Go.Proofs.YthddlechoibdkaaDoorW.PrintWords Go.Proofs.YthddlechoibdkaaDoorW.PrintLast Go.Proofs.YthddlechoibdkaaDoorW.PrintMore Go.Proofs.YthddlechoibdkaaDoor.Math Go.Proofs.YthddlechoibdkaaDoor.Big
set_option linter.unusedVariables false
set_option linter.unusedSimpArgs false

theorem A_between5 (x : Int) : A.impl_between.f x (-5000) 5000 = some (decide (-5000 ≤ x) && decide (x ≤ 5000)) := by
  unfold A.impl_between.f
  by_cases h : -5000 ≤ x
  · rw [if_pos h]
    simp [h]
  · rw [if_neg h]
    simp [h]
theorem A_isDyadic (s : Int) (l : List Int) (e : Int) (hl : l.length ≤ 1000000000) : A.impl_IsDyadic.f (l.length + 2) s l e = some (isD s l e) := by
  have hw : A.impl_IsWhole.f (l.length + 2) s l = some (isW s l) := by
    have := A_isWhole s l hl l.length (l.length + 2) 0 (Nat.zero_le _) (Nat.sub_zero _) (by omega)
    simpa [A.impl_IsWhole.f, isW] using this
  unfold A.impl_IsDyadic.f
  rw [hw]
  simp only [Option.bind_some, A_between5]
  unfold isD
  cases h : isW s l
  · simp only [Bool.false_eq_true, if_false, Bool.false_and, A.impl_IsDyadic.j0, if_true]
  · simp only [if_true, Bool.true_and]
    cases h2 : (decide (-5000 ≤ e) && decide (e ≤ 5000))
    · simp [A.impl_IsDyadic.j0]
    · simp only [A.impl_IsDyadic.j0, Bool.not_true, Bool.false_eq_true, if_false, Bool.true_and]
      by_cases hs : s = 0
      · rw [if_pos hs, if_pos hs]
      · have hne := isW_ne h hs
        have hp : 0 < l.length := List.length_pos_iff.2 hne
        rw [if_neg hs, if_neg hs, if_pos (by omega)]
        rfl
theorem isDyadic_of {w : World} (s : Int) (A : Option Addr) (c : Nat) (l : List Int) (e : Int) (hr : Kd.C (Kd.int .i64) w A l.length l) (hc : l.length ≤ c) (hl : l.length ≤ 1000000000) :
    Calls Tryd.prog 49 #[.agg #[.int .i64 s, .slice A l.length c, .int .i64 e]] w fun x w' => x = .returned (.bool (isD s l e)) ∧ Below w.heap.size w w' :=
  Go.Proofs.YthddlechoibdkaaDoor.A.impl_IsDyadic.calls (l.length + 2) s A c l e (isD s l e) w hr hc (A_isDyadic s l e hl)
theorem isD_isW {s : Int} {l : List Int} {e : Int} (h : isD s l e = true) : isW s l = true := by
  unfold isD at h
  rw [Bool.and_eq_true] at h
  exact h.1
theorem isD_exp {s : Int} {l : List Int} {e : Int} (h : isD s l e = true) : -5000 ≤ e ∧ e ≤ 5000 := by
  unfold isD at h
  simp only [Bool.and_eq_true, decide_eq_true_eq] at h
  exact h.2.1
/-- The boxed exact number. -/
structure DyBox (w wr : World) (s : Int) (A : Option Addr) (c : Nat) (l : List Int) (e : Int) : Prop where
  lo : Below w.heap.size w wr
  x : wr.heap[w.heap.size]? = some (.cells #[.int .i64 s, .slice A l.length c, .int .i64 e] 30 (0, 0))
theorem DyBox.start (w : World) (s : Int) (A : Option Addr) (c : Nat) (l : List Int) (e : Int) : DyBox w (w.alloc (.cells #[.int .i64 s, .slice A l.length c, .int .i64 e] 30)) s A c l e := ⟨(Below.refl _ _).alloc (Nat.le_refl _) _, heap_alloc_new w _⟩
theorem DyBox.below {w wr w1 : World} {s : Int} {A : Option Addr} {c : Nat} {l : List Int} {e : Int} (h : DyBox w wr s A c l e) (hb : Below wr.heap.size wr w1) : DyBox w w1 s A c l e := ⟨h.lo.trans (hb.mono h.lo.size), blk_below h.x hb⟩
theorem DyBox.cells {w wr : World} {s : Int} {A : Option Addr} {c : Nat} {l : List Int} {e : Int} (h : DyBox w wr s A c l e) : wr.cell? ⟨w.heap.size, 0, none⟩ = some (.int .i64 s) ∧ wr.cell? ⟨w.heap.size, 1, none⟩ = some (.slice A l.length c) ∧ wr.cell? ⟨w.heap.size, 2, none⟩ = some (.int .i64 e) :=
  ⟨(blk_cell h.x 0).trans rfl, (blk_cell h.x 1).trans rfl, (blk_cell h.x 2).trans rfl⟩
def rcode (s : Int) (l : List Int) (e k lo hi : Int) : Int := if isD s l e then (if lo ≤ k ∧ k ≤ hi then 0 else 2) else 1
theorem rcode_ok {s : Int} {l : List Int} {e k lo hi : Int} (h : rcode s l e k lo hi = 0) : isD s l e = true ∧ (lo ≤ k ∧ k ≤ hi) := by
  unfold rcode at h
  split at h
  · split at h
    · constructor <;> assumption
    · cases h
  · cases h
set_option maxHeartbeats 1000000 in
theorem code_calls (s : Int) (A : Option Addr) (c : Nat) (l : List Int) (e k lo hi : Int) (w : World) (hr : Kd.C (Kd.int .i64) w A l.length l) (hc : l.length ≤ c) (hl : l.length ≤ 1000000000) (r : Int) (hrc : rcode s l e k lo hi = r) :
    Calls Tryd.prog 44 #[.agg #[.int .i64 s, .slice A l.length c, .int .i64 e], .int .i64 k, .int .i64 lo, .int .i64 hi] w fun x w' => x = .returned (.int .i64 r) ∧ Below w.heap.size w w' := by
  have HR := Aside0.mk hr
  have D0 := Aside0.mk (DyBox.start w s A c l e)
  clear hr
  unfold rcode at hrc
  cases hd : isD s l e
  · rw [hd, if_neg (by decide)] at hrc
    subst hrc
    have HD := Aside0.mk hd
    clear hd
    go_enter Tryd.func44, Tryd.ntmps44
    go_wp2_with fail
    refine (isDyadic_of _ _ _ _ _ (Kd.C_below HR.out D0.out.lo) hc hl).mono ?_
    rintro x w1 ⟨rfl, hb⟩
    rw [HD.out]
    have D1 := Aside0.mk (D0.out.below hb)
    clear hb
    go_wp2
    go_ret
    exact ⟨rfl, D1.out.lo⟩
  · rw [hd, if_pos rfl] at hrc
    have HRC := Aside0.mk hrc
    have HD := Aside0.mk hd
    clear hd hrc
    go_enter Tryd.func44, Tryd.ntmps44
    go_wp2_with fail
    refine (isDyadic_of _ _ _ _ _ (Kd.C_below HR.out D0.out.lo) hc hl).mono ?_
    rintro x w1 ⟨rfl, hb⟩
    rw [HD.out]
    have D1 := Aside0.mk (D0.out.below hb)
    have hrc := HRC.out
    clear hb
    by_cases hk : lo ≤ k ∧ k ≤ hi
    · rw [if_pos hk] at hrc
      subst hrc
      have HK := Aside0.mk hk
      clear hk
      go_wp2_with fail
      refine (between_of k lo hi _ true (by simp [HK.out])).mono ?_
      rintro x w2 ⟨rfl, hb⟩
      have D2 := Aside0.mk (D1.out.below hb)
      clear hb
      go_wp2
      go_ret
      exact ⟨rfl, D2.out.lo⟩
    · rw [if_neg hk] at hrc
      subst hrc
      have HK := Aside0.mk hk
      have hkb : (decide (lo ≤ k) && decide (k ≤ hi)) = false := by
        rw [Bool.eq_false_iff]
        intro g
        simp only [Bool.and_eq_true, decide_eq_true_eq] at g
        exact hk g
      have HKB := Aside0.mk hkb
      clear hk hkb
      go_wp2_with fail
      refine (between_of k lo hi _ false HKB.out.symm).mono ?_
      rintro x w2 ⟨rfl, hb⟩
      have D2 := Aside0.mk (D1.out.below hb)
      clear hb
      go_wp2
      go_ret
      exact ⟨rfl, D2.out.lo⟩
def scres (s : Int) (l : List Int) (e k : Int) : Int × List Int × Int × Int := if rcode s l e k (-10000) 10000 = 0 then dyfit (wv s l) (e + k) else (0, [], 0, rcode s l e k (-10000) 10000)
def impl_ScaleDyadic.f (a0_0 : Int) (l0_1 : List Int) (a0_2 : Int) (a1 : Int) : Option (Int × List Int × Int × Int) := if l0_1.length ≤ 1000000000 then some (scres a0_0 l0_1 a0_2 a1) else none
set_option maxRecDepth 100000 in
set_option maxHeartbeats 2000000 in
theorem impl_ScaleDyadic.calls (a0_0 : Int) (A0_1 : Option Addr) (c0_1 : Nat) (l0_1 : List Int) (a0_2 : Int) (a1 : Int) (r1 : Int) (r2 : List Int) (r3 r4 : Int) (w : World) (hr0_1 : Kd.C (Kd.int .i64) w A0_1 l0_1.length l0_1) (hc0_1 : l0_1.length ≤ c0_1) (hT : Tab w) (h : impl_ScaleDyadic.f a0_0 l0_1 a0_2 a1 = some (r1, r2, r3, r4)) :
    Calls Tryd.prog 33 #[.agg #[.int .i64 a0_0, .slice A0_1 l0_1.length c0_1, .int .i64 a0_2], .int .i64 a1] w fun e w' => ∃ v1_ : Value, e = .returned (.tuple #[.agg #[.int .i64 r1, v1_, .int .i64 r3], .int .i64 r4]) ∧ Kd.R (Kd.int .i64) 2 w' w.heap.size (fun _ => True) v1_ r2 ∧ Below w.heap.size w w' := by
  unfold impl_ScaleDyadic.f at h
  split at h
  case isFalse => cases h
  rename_i hl
  injection h with h
  have HR := Aside0.mk hr0_1
  have R0 := Aside0.mk (ResD.next (DyBox.start w a0_0 A0_1 c0_1 l0_1 a0_2).lo)
  have D0 := Aside0.mk ((DyBox.start w a0_0 A0_1 c0_1 l0_1 a0_2).below (below_alloc (Below.refl _ _) (.cells #[.int .i64 0, .slice none 0 0, .int .i64 0] 30)))
  have HT := Aside0.mk hT
  have HL := Aside0.mk hl
  clear hr0_1 hT hl
  rw [alloc_size] at R0
  unfold scres at h
  by_cases hc : rcode a0_0 l0_1 a0_2 a1 (-10000) 10000 = 0
  · rw [if_pos hc] at h
    obtain ⟨hd, hk⟩ := rcode_ok hc
    have hx := isD_exp hd
    have HH := Aside0.mk h
    have HW := Aside0.mk (isD_isW hd)
    have HC := Aside0.mk hc
    have hwk : wrap64 (a0_2 + a1) = a0_2 + a1 := w64s (by omega) (by omega)
    have HB := Aside0.mk (show -1000000 ≤ a0_2 + a1 ∧ a0_2 + a1 ≤ 1000000 from by omega)
    clear h hd hc hk hx
    go_enter Tryd.func33, Tryd.ntmps33
    go_wp2_with fail
    refine (code_calls _ _ _ _ _ _ _ _ _ (Kd.C_below HR.out D0.out.lo) hc0_1 HL.out _ HC.out).mono ?_
    rintro e w1 ⟨rfl, hb⟩
    have R1 := Aside0.mk (R0.out.below hb)
    have D1 := Aside0.mk (D0.out.below hb)
    obtain ⟨p0, p1, p2⟩ := D1.out.cells
    clear hb
    go_wp2
    refine start_ (n := 13) (S := fun w' => w'.cell? ⟨w.heap.size, 0, none⟩ = some (.int .i64 a0_0) ∧ w'.cell? ⟨w.heap.size, 1, none⟩ = some (.slice A0_1 l0_1.length c0_1) ∧ w'.cell? ⟨w.heap.size, 2, none⟩ = some (.int .i64 a0_2)) (ds := [8, 11]) #[false, false, false, false, false, false, false, false, false, false, false, false, false] (by kernel_rfl) rfl rfl ⟨p0, p1, p2⟩ (fun hHeld => ?_)
    have Dw3 := Aside0.mk ((Below.refl w1.heap.size w1).drew)
    generalize w1.drew = w3 at hHeld Dw3 ⊢
    refine pure_ (i := 0) (N := some 14) (v := ?_) (a' := ?_) #[true, false, false, false, false, false, false, false, false, false, false, false, false] rfl rfl (by kernel_rfl) (fun _ _ _ h => h) (Or.inl ⟨by rfl, ?_⟩) ?_ ?_
    rotate_left
    · intro w'
      go_simp
      with_reducible rfl
    rotate_left
    · simp only [Act.put, List.setIfInBounds_toArray, List.set_cons_zero, List.set_cons_succ, i64_w, i32_w]
      rfl
    refine pure_ (i := 3) (N := some 17) (v := ?_) (a' := ?_) #[true, false, false, true, false, false, false, false, false, false, false, false, false] rfl rfl (by kernel_rfl) (fun _ _ _ h => h) (Or.inl ⟨by rfl, ?_⟩) ?_ ?_
    rotate_left
    · intro w'
      go_simp
      with_reducible rfl
    rotate_left
    · simp only [Act.put, List.setIfInBounds_toArray, List.set_cons_zero, List.set_cons_succ, i64_w, i32_w]
      rfl
    refine pure_ (i := 5) (N := some 19) (v := ?_) (a' := ?_) #[true, false, false, true, false, true, false, false, false, false, false, false, false] rfl rfl (by kernel_rfl) (fun _ _ _ h => h) (Or.inl ⟨by rfl, ?_⟩) ?_ ?_
    rotate_left
    · intro w'
      go_simp
      with_reducible rfl
    rotate_left
    · simp only [Act.put, List.setIfInBounds_toArray, List.set_cons_zero, List.set_cons_succ, i64_w, i32_w]
      rfl
    refine take_ (i := 1) (N := some 15) (v := ?_) (a' := ?_) #[true, true, false, true, false, true, false, false, false, false, false, false, false] rfl rfl (by kernel_rfl) (fun _ _ _ h => h) (Or.inl ⟨by rfl, ?_⟩) hHeld ?_ ?_
    rotate_left
    · rintro w' ⟨s0, s1, s2⟩
      go_simp
      with_reducible rfl
    rotate_left
    · simp only [Act.put, List.setIfInBounds_toArray, List.set_cons_zero, List.set_cons_succ, i64_w, i32_w]
      rfl
    refine take_ (i := 4) (N := some 18) (v := ?_) (a' := ?_) #[true, true, false, true, true, true, false, false, false, false, false, false, false] rfl rfl (by kernel_rfl) (fun _ _ _ h => h) (Or.inl ⟨by rfl, ?_⟩) hHeld ?_ ?_
    rotate_left
    · rintro w' ⟨s0, s1, s2⟩
      go_simp
      with_reducible rfl
    rotate_left
    · simp only [Act.put, List.setIfInBounds_toArray, List.set_cons_zero, List.set_cons_succ, i64_w, i32_w]
      rfl
    refine pure_ (i := 6) (N := some 20) (v := ?_) (a' := ?_) #[true, true, false, true, true, true, true, false, false, false, false, false, false] rfl rfl (by kernel_rfl) (fun _ _ _ h => h) (Or.inl ⟨by rfl, ?_⟩) ?_ ?_
    rotate_left
    · intro w'
      go_simp
      with_reducible rfl
    rotate_left
    · simp only [Act.put, List.setIfInBounds_toArray, List.set_cons_zero, List.set_cons_succ, i64_w, i32_w]
      rfl
    refine one_ (i := 2) (N := some 16) #[true, true, true, true, true, true, true, false, false, false, false, false, false] rfl rfl (by kernel_rfl) (by decide) (fun K hK => ?_)
    have R3 := Aside0.mk (R1.out.below Dw3.out)
    have D3 := Aside0.mk (D1.out.below Dw3.out)
    refine goes_ Tryd.func60 (by kernel_rfl) rfl #[.agg #[.int .i64 a0_0, .slice A0_1 l0_1.length c0_1]] (by rfl) rfl rfl (by simp only [List.map_toArray, List.map_cons, List.map_nil]; rfl) ?_
    with_reducible refine (value_calls _ _ _ _ _ (lims_of (Kd.C_below HR.out D3.out.lo) HW.out)).mono ?_
    rintro e w4 ⟨b, rfl, hge, hbig, hb⟩
    refine ⟨_, rfl, ?_⟩
    have R4 := Aside0.mk (R3.out.below hb)
    have D4 := Aside0.mk (D3.out.below hb)
    have BB := Aside0.mk (hbig.more (isW_len HW.out))
    clear hb hge hbig
    refine hK.out _ _ ⟨D4.out.cells.1, D4.out.cells.2.1, D4.out.cells.2.2⟩ (fun hHeld => ?_)
    clear hK K
    refine norm_ (a' := ?_) ?_ ?_
    rotate_left
    · show Act.put _ (some 16) _ = _
      simp only [Act.put, List.setIfInBounds_toArray, List.set_cons_zero, List.set_cons_succ, i64_w, i32_w]
      rfl
    refine pure_ (i := 7) (N := some 21) (v := ?_) (a' := ?_) #[true, true, true, true, true, true, true, true, false, false, false, false, false] rfl rfl (by kernel_rfl) (fun _ _ _ h => h) (Or.inl ⟨by rfl, ?_⟩) ?_ ?_
    rotate_left
    · intro w'
      go_simp
      with_reducible rfl
    rotate_left
    · simp only [Act.put, List.setIfInBounds_toArray, List.set_cons_zero, List.set_cons_succ, i64_w, i32_w]
      rfl
    refine last_ (i := 8) (N := some 22) #[true, true, true, true, true, true, true, true, true, false, false, false, false] rfl rfl (by kernel_rfl) (by decide) (fun K hK => ?_)
    refine goes_ Tryd.func47 (by kernel_rfl) rfl #[.agg #[.pointer (some ⟨b, 0, none⟩), .int .i64 (a0_2 + a1)]] (by rfl) rfl rfl (by simp only [List.map_toArray, List.map_cons, List.map_nil]; rfl) ?_
    with_reducible refine (dyadic_calls b _ (a0_2 + a1) 200 _ BB.out (by omega) HB.out.1 HB.out.2 (HT.out.below R4.out.lo) r1 r2 r3 r4 HH.out).mono ?_
    rintro e w5 ⟨v, rfl, hr, hb5⟩
    refine ⟨_, rfl, ?_⟩
    obtain ⟨A1, c1, rfl⟩ := own_slice hr
    have R5 := Aside0.mk (R4.out.below hb5)
    have HRW := Aside0.mk hr
    obtain ⟨q0, q1, q2, q3, q4, q5⟩ := R5.out.cells
    clear hr hb5
    refine hK.out _ _ ?_
    clear hK K
    refine norm_ (a' := ?_) ?_ ?_
    rotate_left
    · show Act.put _ (some 22) _ = _
      simp only [Act.put, List.setIfInBounds_toArray, List.set_cons_zero, List.set_cons_succ, i64_w, i32_w]
      rfl
    refine pure_ (i := 9) (N := some 23) (v := ?_) (a' := ?_) #[true, true, true, true, true, true, true, true, true, true, false, false, false] rfl rfl (by kernel_rfl) (fun _ _ _ h => h) (Or.inl ⟨by rfl, ?_⟩) ?_ ?_
    rotate_left
    · intro w'
      go_simp
      with_reducible rfl
    rotate_left
    · simp only [Act.put, List.setIfInBounds_toArray, List.set_cons_zero, List.set_cons_succ, i64_w, i32_w]
      rfl
    refine pure_ (i := 10) (N := some 24) (v := ?_) (a' := ?_) #[true, true, true, true, true, true, true, true, true, true, true, false, false] rfl rfl (by kernel_rfl) (fun _ _ _ h => h) (Or.inl ⟨by rfl, ?_⟩) ?_ ?_
    rotate_left
    · intro w'
      go_simp
      with_reducible rfl
    rotate_left
    · simp only [Act.put, List.setIfInBounds_toArray, List.set_cons_zero, List.set_cons_succ, i64_w, i32_w]
      rfl
    refine last_ (i := 11) (N := none) #[true, true, true, true, true, true, true, true, true, true, true, true, false] rfl rfl (by kernel_rfl) (by decide) (fun K hK => ?_)
    refine skip_ (w1 := ?_) (by rfl) rfl ?_ ?_
    rotate_left
    · go_simp
      rfl
    refine hK.out _ _ ?_
    clear hK K
    refine pure_ (i := 12) (N := some 5) (v := ?_) (a' := ?_) #[true, true, true, true, true, true, true, true, true, true, true, true, true] rfl rfl (by kernel_rfl) (fun _ _ _ h => h) (Or.inl ⟨by rfl, ?_⟩) ?_ ?_
    rotate_left
    · intro w'
      go_simp
      with_reducible rfl
    rotate_left
    · simp only [Act.put, List.setIfInBounds_toArray, List.set_cons_zero, List.set_cons_succ, i64_w, i32_w]
      rfl
    refine done_ (by kernel_rfl) ?_

    try go_wp2
    refine bodyPost_ret (results_ct rfl _ _ (w.heap.size + 1) 30 #[.int .i64 r1, .slice A1 r2.length c1, .int .i64 r3] (0, 0) _ rfl (R5.out.put _ _ _) Tryd.underlying30 rfl (by kernel_rfl)) rfl ?_
    exact ⟨_, rfl, R5.out.row HRW.out R4.out.lo.size _ _ _, R5.out.low _ _ _⟩
  · rw [if_neg hc] at h
    simp only [Prod.mk.injEq] at h
    obtain ⟨rfl, rfl, rfl, hcode⟩ := h
    have HC := Aside0.mk hcode
    have hcb : (r4 == 0) = false := by rw [← hcode]; simpa using hc
    have hcb2 : (r4 != 0) = true := by rw [← hcode]; simpa using hc
    clear hc hcode
    go_enter Tryd.func33, Tryd.ntmps33
    go_wp2_with fail
    refine (code_calls _ _ _ _ _ _ _ _ _ (Kd.C_below HR.out D0.out.lo) hc0_1 HL.out _ HC.out).mono ?_
    rintro e w1 ⟨rfl, hb⟩
    have R1 := Aside0.mk (R0.out.below hb)
    obtain ⟨q0, q1, q2, q3, q4, q5⟩ := R1.out.cells
    clear hb
    go_wp2_with fail
    refine bodyPost_ret (results_ct rfl _ _ (w.heap.size + 1) 30 #[.int .i64 0, .slice none 0 0, .int .i64 0] (0, 0) _ rfl (R1.out.put _ _ _) Tryd.underlying30 rfl (by kernel_rfl)) rfl ?_
    exact ⟨_, rfl, R1.out.row (own_zero w1 (w.heap.size + 3)) (by omega) _ _ _, R1.out.low _ _ _⟩
end Go.Proofs.YthddlechoibdkaaDoor

namespace Go.Proofs.YthddlechoibdkaaDoor
open Go.RowKit Go.Proofs.YthddlechoibdkaaDoorW.PrintWords Go.Proofs.YthddlechoibdkaaDoorW.PrintLast Go.Proofs.YthddlechoibdkaaDoorW.PrintMore Go.Proofs.YthddlechoibdkaaDoor.Math Go.Proofs.YthddlechoibdkaaDoor.Big
set_option linter.unusedVariables false
set_option linter.unusedSimpArgs false

theorem results_c1 {P : Program} {fn : Func} {p : Tmp} {ty : TypeId} (h : fn.results = #[.cell p ty]) (tmps : Array Value) (w : World) (g : Nat) (t : TypeId) (cs : Array Value) (fr : Nat × Nat) (d : TypeDesc)
    (hp : tmps.getD p undef = .pointer (some ⟨g, 0, none⟩)) (hg : w.heap[g]? = some (.cells cs t fr))
    (hu : P.underlying ty = some d) (hd : (match d with | .struct _ | .array _ _ => true | _ => false) = true) (hi : (P.info? ty).map (·.size) = some cs.size) :
    (results fn tmps).run P w = .ok (.agg cs) w := by
  have hp' : tmps[p]?.getD undef = .pointer (some ⟨g, 0, none⟩) := by simpa using hp
  simp [results, h, hp', asAddr, run_loadVar_row w g t ty cs fr d hg hu hd hi]
/-- The result's variable, a value not yet written. -/
structure ResN (w wr : World) (b : Nat) : Prop where
  lo : Below w.heap.size w wr
  box : wr.heap[b]? = some (.cells #[.pointer none, .int .i64 0] 55 (0, 0))
  ge : w.heap.size ≤ b
theorem ResN.below {w wr w1 : World} {b : Nat} (h : ResN w wr b) (hb : Below wr.heap.size wr w1) : ResN w w1 b := ⟨h.lo.trans (hb.mono h.lo.size), blk_below h.box hb, h.ge⟩
theorem ResN.next {w wr : World} (h : Below w.heap.size w wr) : ResN w (wr.alloc (.cells #[.pointer none, .int .i64 0] 55)) wr.heap.size := ⟨h.alloc h.size _, heap_alloc_new wr _, h.size⟩
theorem ResN.cells {w wr : World} {b : Nat} (h : ResN w wr b) : wr.cell? ⟨b, 0, none⟩ = some (.pointer none) ∧ wr.cell? ⟨b, 1, none⟩ = some (.int .i64 0) ∧ wr.frozen? ⟨b, 0, none⟩ = false ∧ wr.frozen? ⟨b, 1, none⟩ = false :=
  ⟨(blk_cell h.box 0).trans rfl, (blk_cell h.box 1).trans rfl, blk_frozen h.box 0, blk_frozen h.box 1⟩
theorem ResN.put {w wr : World} {b : Nat} (h : ResN w wr b) (a v : Value) : ((wr.setCell ⟨b, 0, none⟩ a).setCell ⟨b, 1, none⟩ v).heap[b]? = some (.cells #[a, v] 55 (0, 0)) :=
  blk_put (cs := #[a, .int .i64 0]) (blk_put (cs := #[.pointer none, .int .i64 0]) h.box 0 _ rfl) 1 _ rfl
theorem ResN.low {w wr : World} {b : Nat} (h : ResN w wr b) (a v : Value) : Below w.heap.size w ((wr.setCell ⟨b, 0, none⟩ a).setCell ⟨b, 1, none⟩ v) :=
  (h.lo.setCell (show w.heap.size ≤ (⟨b, 0, none⟩ : Addr).block from h.ge) _).setCell (show w.heap.size ≤ (⟨b, 1, none⟩ : Addr).block from h.ge) _
theorem grownBy_number {w : World} {b : Nat} {cs : Array Value} (h : w.heap[b]? = some (.cells cs 55 (0, 0))) {x : Nat} (hx : IsBig w x) : x ≠ b := by
  rintro rfl
  obtain ⟨n, u, hz⟩ := hx
  rw [hz] at h
  injection h with h
  injection h with _ h
  exact absurd h (by decide)
theorem digs_storeN {w : World} {b i : Nat} {u v : Value} {xs : List Int} {cs : Array Value} (h : Digs w v xs) (hb : w.heap[b]? = some (.cells cs 55 (0, 0))) : Digs (w.setCell ⟨b, i, none⟩ u) v xs := by
  refine own_move h (fun k hk => ?_)
  obtain ⟨cells, hc⟩ := own_typed h k hk
  refine Below.heap_setCell w ⟨b, i, none⟩ u k ?_
  rintro rfl
  rw [hc] at hb
  injection hb with hb
  injection hb with _ hb
  exact absurd hb (by decide)
theorem big_storeN {w : World} {b i x : Nat} {u : Value} {n : Int} {m : Nat} {cs : Array Value} (h : Big w x n m) (hb : w.heap[b]? = some (.cells cs 55 (0, 0))) : Big (w.setCell ⟨b, i, none⟩ u) x n m := by
  have hne := grownBy_number hb h.is
  obtain ⟨ng, xs, ⟨v, hv, hd⟩, rest⟩ := h
  exact ⟨ng, xs, ⟨v, (Below.heap_setCell w ⟨b, i, none⟩ u x hne).trans hv, digs_storeN hd hb⟩, rest⟩
theorem ResN.big {w wr : World} {b x : Nat} {n : Int} {m : Nat} (h : ResN w wr b) (hx : Big wr x n m) (a v : Value) : Big ((wr.setCell ⟨b, 0, none⟩ a).setCell ⟨b, 1, none⟩ v) x n m :=
  big_storeN (big_storeN hx h.box) (blk_put (cs := #[.pointer none, .int .i64 0]) h.box 0 a rfl)
set_option maxRecDepth 100000 in
set_option maxHeartbeats 2000000 in
theorem dvalue_calls (s : Int) (A : Option Addr) (c : Nat) (l : List Int) (e : Int) (w : World) (hr : Kd.C (Kd.int .i64) w A l.length l) (hw : isW s l = true) :
    Calls Tryd.prog 45 #[.agg #[.int .i64 s, .slice A l.length c, .int .i64 e]] w fun x w' => ∃ b, x = .returned (.agg #[.pointer (some ⟨b, 0, none⟩), .int .i64 e]) ∧ w.heap.size ≤ b ∧ Big w' b (wv s l) 200 ∧ Below w.heap.size w w' := by
  have HR := Aside0.mk hr
  have HW := Aside0.mk hw
  have R0 := Aside0.mk (ResN.next (DyBox.start w s A c l e).lo)
  have D0 := Aside0.mk ((DyBox.start w s A c l e).below (below_alloc (Below.refl _ _) (.cells #[.pointer none, .int .i64 0] 55)))
  clear hr hw
  rw [alloc_size] at R0
  obtain ⟨p0, p1, p2⟩ := D0.out.cells
  go_enter Tryd.func45, Tryd.ntmps45
  go_wp2
  generalize hw0 : (w.alloc (.cells #[.int .i64 s, .slice A l.length c, .int .i64 e] 30)).alloc (.cells #[.pointer none, .int .i64 0] 55) = w1 at R0 D0 p0 p1 p2 ⊢
  clear hw0
  refine start_ (n := 7) (S := fun w' => w'.cell? ⟨w.heap.size, 0, none⟩ = some (.int .i64 s) ∧ w'.cell? ⟨w.heap.size, 1, none⟩ = some (.slice A l.length c) ∧ w'.cell? ⟨w.heap.size, 2, none⟩ = some (.int .i64 e)) (ds := [6]) #[false, false, false, false, false, false, false] (by kernel_rfl) rfl rfl ⟨p0, p1, p2⟩ (fun hHeld => ?_)
  have Dw3 := Aside0.mk ((Below.refl w1.heap.size w1).drew)
  generalize w1.drew = w3 at hHeld Dw3 ⊢
  refine pure_ (i := 0) (N := some 3) (v := ?_) (a' := ?_) #[true, false, false, false, false, false, false] rfl rfl (by kernel_rfl) (fun _ _ _ h => h) (Or.inl ⟨by rfl, ?_⟩) ?_ ?_
  rotate_left
  · intro w'
    go_simp
    with_reducible rfl
  rotate_left
  · simp only [Act.put, List.setIfInBounds_toArray, List.set_cons_zero, List.set_cons_succ, i64_w, i32_w]
    rfl
  refine pure_ (i := 3) (N := some 6) (v := ?_) (a' := ?_) #[true, false, false, true, false, false, false] rfl rfl (by kernel_rfl) (fun _ _ _ h => h) (Or.inl ⟨by rfl, ?_⟩) ?_ ?_
  rotate_left
  · intro w'
    go_simp
    with_reducible rfl
  rotate_left
  · simp only [Act.put, List.setIfInBounds_toArray, List.set_cons_zero, List.set_cons_succ, i64_w, i32_w]
    rfl
  refine take_ (i := 1) (N := some 4) (v := ?_) (a' := ?_) #[true, true, false, true, false, false, false] rfl rfl (by kernel_rfl) (fun _ _ _ h => h) (Or.inl ⟨by rfl, ?_⟩) hHeld ?_ ?_
  rotate_left
  · rintro w' ⟨s0, s1, s2⟩
    go_simp
    with_reducible rfl
  rotate_left
  · simp only [Act.put, List.setIfInBounds_toArray, List.set_cons_zero, List.set_cons_succ, i64_w, i32_w]
    rfl
  refine take_ (i := 4) (N := some 7) (v := ?_) (a' := ?_) #[true, true, false, true, true, false, false] rfl rfl (by kernel_rfl) (fun _ _ _ h => h) (Or.inl ⟨by rfl, ?_⟩) hHeld ?_ ?_
  rotate_left
  · rintro w' ⟨s0, s1, s2⟩
    go_simp
    with_reducible rfl
  rotate_left
  · simp only [Act.put, List.setIfInBounds_toArray, List.set_cons_zero, List.set_cons_succ, i64_w, i32_w]
    rfl
  refine one_ (i := 2) (N := some 5) #[true, true, true, true, true, false, false] rfl rfl (by kernel_rfl) (by decide) (fun K hK => ?_)
  have R3 := Aside0.mk (R0.out.below Dw3.out)
  have D3 := Aside0.mk (D0.out.below Dw3.out)
  refine goes_ Tryd.func60 (by kernel_rfl) rfl #[.agg #[.int .i64 s, .slice A l.length c]] (by rfl) rfl rfl (by simp only [List.map_toArray, List.map_cons, List.map_nil]; rfl) ?_
  with_reducible refine (value_calls _ _ _ _ _ (lims_of (Kd.C_below HR.out D3.out.lo) HW.out)).mono ?_
  rintro x w4 ⟨b, rfl, hge, hbig, hb⟩
  refine ⟨_, rfl, ?_⟩
  have R4 := Aside0.mk (R3.out.below hb)
  have D4 := Aside0.mk (D3.out.below hb)
  have BB := Aside0.mk (hbig.more (isW_len HW.out))
  have GE := Aside0.mk (Nat.le_trans R3.out.lo.size hge)
  obtain ⟨q0, q1, q2, q3⟩ := R4.out.cells
  clear hb hge hbig
  refine hK.out _ _ ⟨D4.out.cells.1, D4.out.cells.2.1, D4.out.cells.2.2⟩ (fun hHeld => ?_)
  clear hK K
  refine norm_ (a' := ?_) ?_ ?_
  rotate_left
  · show Act.put _ (some 5) _ = _
    simp only [Act.put, List.setIfInBounds_toArray, List.set_cons_zero, List.set_cons_succ, i64_w, i32_w]
    rfl
  refine pure_ (i := 5) (N := some 8) (v := ?_) (a' := ?_) #[true, true, true, true, true, true, false] rfl rfl (by kernel_rfl) (fun _ _ _ h => h) (Or.inl ⟨by rfl, ?_⟩) ?_ ?_
  rotate_left
  · intro w'
    go_simp
    with_reducible rfl
  rotate_left
  · simp only [Act.put, List.setIfInBounds_toArray, List.set_cons_zero, List.set_cons_succ, i64_w, i32_w]
    rfl
  refine last_ (i := 6) (N := none) #[true, true, true, true, true, true, true] rfl rfl (by kernel_rfl) (by decide) (fun K hK => ?_)
  refine skip_ (w1 := ?_) (by rfl) rfl ?_ ?_
  rotate_left
  · go_simp
    rfl
  refine hK.out _ _ ?_
  clear hK K
  refine done_ (by kernel_rfl) ?_

  try go_wp2
  refine bodyPost_ret (results_c1 rfl _ _ (w.heap.size + 1) 55 #[.pointer (some ⟨b, 0, none⟩), .int .i64 e] (0, 0) _ rfl (R4.out.put _ _) Tryd.underlying55 rfl (by kernel_rfl)) rfl ?_
  exact ⟨b, rfl, GE.out, R4.out.big BB.out _ _, R4.out.low _ _⟩
set_option maxHeartbeats 1000000 in
theorem floor_calls (x : Nat) (n p k : Int) (m : Nat) (w : World) (hx : Big w x n m) (hm : m ≤ 100000) (hp : -50000 ≤ p ∧ p ≤ 50000) (hk : -50000 ≤ k ∧ k ≤ 50000) (hT : Tab w) :
    Calls Tryd.prog 52 #[.agg #[.pointer (some ⟨x, 0, none⟩), .int .i64 p], .int .i64 k] w fun e w' => ∃ z, e = .returned (.pointer (some ⟨z, 0, none⟩)) ∧ w.heap.size ≤ z ∧ Big w' z (shv n (p + k)) (m + 4000) ∧ Below w.heap.size w w' := by
  have N0 := Aside0.mk (NumBox.start w x p)
  have HX := Aside0.mk (hx.below N0.out.lo)
  have HT := Aside0.mk (hT.below N0.out.lo)
  have hwk : wrap64 (p + k) = p + k := w64s (by omega) (by omega)
  have HB := Aside0.mk (show -100000 ≤ p + k ∧ p + k ≤ 100000 from by omega)
  obtain ⟨p0, p1⟩ := N0.out.cells
  clear hx hT hp hk
  go_enter Tryd.func52, Tryd.ntmps52
  go_wp2_with fail
  refine (shifted_calls x n (p + k) m _ HX.out hm HB.out.1 HB.out.2 HT.out).mono ?_
  rintro e w1 ⟨z, rfl, hge, hbig, hb⟩
  have N1 := Aside0.mk (N0.out.below hb)
  have BZ := Aside0.mk hbig
  have GE := Aside0.mk (Nat.le_trans N0.out.lo.size hge)
  clear hb hge hbig
  go_wp2
  go_ret
  exact ⟨z, rfl, GE.out, BZ.out, N1.out.lo⟩
def flres (s : Int) (l : List Int) (e k : Int) : Int × List Int × Int × Int := if rcode s l e k (-1000) 1000 = 0 then dyfit (shv (wv s l) (e + k)) (-k) else (0, [], 0, rcode s l e k (-1000) 1000)
def impl_FloorDyadic.f (a0_0 : Int) (l0_1 : List Int) (a0_2 : Int) (a1 : Int) : Option (Int × List Int × Int × Int) := if l0_1.length ≤ 1000000000 then some (flres a0_0 l0_1 a0_2 a1) else none
set_option maxRecDepth 100000 in
set_option maxHeartbeats 2000000 in
theorem impl_FloorDyadic.calls (a0_0 : Int) (A0_1 : Option Addr) (c0_1 : Nat) (l0_1 : List Int) (a0_2 : Int) (a1 : Int) (r1 : Int) (r2 : List Int) (r3 r4 : Int) (w : World) (hr0_1 : Kd.C (Kd.int .i64) w A0_1 l0_1.length l0_1) (hc0_1 : l0_1.length ≤ c0_1) (hT : Tab w) (h : impl_FloorDyadic.f a0_0 l0_1 a0_2 a1 = some (r1, r2, r3, r4)) :
    Calls Tryd.prog 23 #[.agg #[.int .i64 a0_0, .slice A0_1 l0_1.length c0_1, .int .i64 a0_2], .int .i64 a1] w fun e w' => ∃ v1_ : Value, e = .returned (.tuple #[.agg #[.int .i64 r1, v1_, .int .i64 r3], .int .i64 r4]) ∧ Kd.R (Kd.int .i64) 2 w' w.heap.size (fun _ => True) v1_ r2 ∧ Below w.heap.size w w' := by
  unfold impl_FloorDyadic.f at h
  split at h
  case isFalse => cases h
  rename_i hl
  injection h with h
  have HR := Aside0.mk hr0_1
  have R0 := Aside0.mk (ResD.next (DyBox.start w a0_0 A0_1 c0_1 l0_1 a0_2).lo)
  have D0 := Aside0.mk ((DyBox.start w a0_0 A0_1 c0_1 l0_1 a0_2).below (below_alloc (Below.refl _ _) (.cells #[.int .i64 0, .slice none 0 0, .int .i64 0] 30)))
  have HT := Aside0.mk hT
  have HL := Aside0.mk hl
  clear hr0_1 hT hl
  rw [alloc_size] at R0
  unfold flres at h
  by_cases hc : rcode a0_0 l0_1 a0_2 a1 (-1000) 1000 = 0
  · rw [if_pos hc] at h
    obtain ⟨hd, hk⟩ := rcode_ok hc
    have hx := isD_exp hd
    have HH := Aside0.mk h
    have HW := Aside0.mk (isD_isW hd)
    have HC := Aside0.mk hc
    have hwk : wrap64 (-a1) = -a1 := w64s (by omega) (by omega)
    have HB := Aside0.mk (show (-50000 ≤ a0_2 ∧ a0_2 ≤ 50000) ∧ (-50000 ≤ a1 ∧ a1 ≤ 50000) from by omega)
    have HB2 := Aside0.mk (show -1000000 ≤ -a1 ∧ -a1 ≤ 1000000 from by omega)
    clear h hd hc hk hx
    go_enter Tryd.func23, Tryd.ntmps23
    go_wp2_with fail
    refine (code_calls _ _ _ _ _ _ _ _ _ (Kd.C_below HR.out D0.out.lo) hc0_1 HL.out _ HC.out).mono ?_
    rintro e w1 ⟨rfl, hb⟩
    have R1 := Aside0.mk (R0.out.below hb)
    have D1 := Aside0.mk (D0.out.below hb)
    obtain ⟨p0, p1, p2⟩ := D1.out.cells
    clear hb
    go_wp2_with fail
    refine (dvalue_calls a0_0 A0_1 c0_1 l0_1 a0_2 _ (Kd.C_below HR.out D1.out.lo) HW.out).mono ?_
    rintro e w2 ⟨b, rfl, hge, hbig, hb⟩
    have R2 := Aside0.mk (R1.out.below hb)
    have BB := Aside0.mk hbig
    clear hb hge hbig p0 p1 p2
    go_wp2_with fail
    refine (floor_calls b _ a0_2 a1 200 _ BB.out (by omega) HB.out.1 HB.out.2 (HT.out.below R2.out.lo)).mono ?_
    rintro e w3 ⟨z, rfl, hge, hbig, hb⟩
    have R3 := Aside0.mk (R2.out.below hb)
    have BZ := Aside0.mk hbig
    clear hb hge hbig
    go_wp2_with fail
    refine (dyadic_calls z _ (-a1) 4200 _ BZ.out (by omega) HB2.out.1 HB2.out.2 (HT.out.below R3.out.lo) r1 r2 r3 r4 HH.out).mono ?_
    rintro e w5 ⟨v, rfl, hr, hb5⟩
    obtain ⟨A1, c1, rfl⟩ := own_slice hr
    have R5 := Aside0.mk (R3.out.below hb5)
    have HRW := Aside0.mk hr
    obtain ⟨q0, q1, q2, q3, q4, q5⟩ := R5.out.cells
    clear hr hb5
    go_wp2_with fail
    refine bodyPost_ret (results_ct rfl _ _ (w.heap.size + 1) 30 #[.int .i64 r1, .slice A1 r2.length c1, .int .i64 r3] (0, 0) _ rfl (R5.out.put _ _ _) Tryd.underlying30 rfl (by kernel_rfl)) rfl ?_
    exact ⟨_, rfl, R5.out.row HRW.out R3.out.lo.size _ _ _, R5.out.low _ _ _⟩
  · rw [if_neg hc] at h
    simp only [Prod.mk.injEq] at h
    obtain ⟨rfl, rfl, rfl, hcode⟩ := h
    have HC := Aside0.mk hcode
    have hcb : (r4 == 0) = false := by rw [← hcode]; simpa using hc
    have hcb2 : (r4 != 0) = true := by rw [← hcode]; simpa using hc
    clear hc hcode
    go_enter Tryd.func23, Tryd.ntmps23
    go_wp2_with fail
    refine (code_calls _ _ _ _ _ _ _ _ _ (Kd.C_below HR.out D0.out.lo) hc0_1 HL.out _ HC.out).mono ?_
    rintro e w1 ⟨rfl, hb⟩
    have R1 := Aside0.mk (R0.out.below hb)
    obtain ⟨q0, q1, q2, q3, q4, q5⟩ := R1.out.cells
    clear hb
    go_wp2_with fail
    refine bodyPost_ret (results_ct rfl _ _ (w.heap.size + 1) 30 #[.int .i64 0, .slice none 0 0, .int .i64 0] (0, 0) _ rfl (R1.out.put _ _ _) Tryd.underlying30 rfl (by kernel_rfl)) rfl ?_
    exact ⟨_, rfl, R1.out.row (own_zero w1 (w.heap.size + 3)) (by omega) _ _ _, R1.out.low _ _ _⟩
end Go.Proofs.YthddlechoibdkaaDoor
