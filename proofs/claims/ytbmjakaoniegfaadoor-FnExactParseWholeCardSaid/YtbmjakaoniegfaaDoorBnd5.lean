/- The contract of impl.PowerOfWhole in plain words. Condition: at most 1000000000 limbs. -/
import Derived.Test.YtbmjakaoniegfaaDoorBnd6
namespace Go.Proofs.YtbmjakaoniegfaaDoor
open Go.RowKit Go.Proofs.YtbmjakaoniegfaaDoorW.PrintWords Go.Proofs.YtbmjakaoniegfaaDoorW.PrintLast Go.Proofs.YtbmjakaoniegfaaDoorW.PrintMore Go.Proofs.YtbmjakaoniegfaaDoor.Math Go.Proofs.YtbmjakaoniegfaaDoor.Big
set_option linter.unusedVariables false
set_option linter.unusedSimpArgs false

theorem fit_of {n : Int} {j : Nat} (h : blen n ≤ 32 * j) : -4294967296 ^ j < n ∧ n < 4294967296 ^ j := by
  have h1 := blen_le.1 h
  have h2 := cast_pow32 j
  generalize (2 : Nat) ^ (32 * j) = p at h1 h2
  generalize (4294967296 : Int) ^ j = q at h2 ⊢
  omega
theorem big_short {w : World} {b : Nat} {n : Int} {m : Nat} (h : Big w b n m) (hb : blen n ≤ 4800) : Big w b n 150 := h.fit (fit_of (j := 150) (by omega)).1 (fit_of (j := 150) (by omega)).2
/-- A power, made step by step as long as it is not too large. -/
def powf (n : Int) : Nat → Int → Int × List Int × Int
  | 0, c => wfit c
  | j + 1, c => if blen (c * n) ≤ 4800 then powf n j (c * n) else (0, [], 3)
theorem wfit_big {n : Int} (h : ¬ blen n ≤ 4800) : wfit n = (0, [], 3) := by rw [wfit, if_neg h]
/-- The two numbers ahead of the loop. -/
structure Two (w3 : World) (n : Int) (m : Nat) (b x : Nat) (w' : World) : Prop where
  lo : Below w3.heap.size w3 w'
  vb : Big w' b 1 150
  vx : Big w' x n m
  hb : w3.heap.size ≤ b
  ne : x ≠ b
def powres (s : Int) (l : List Int) (k : Int) : Int × List Int × Int := if isW s l then (if 0 ≤ k ∧ k ≤ 200 then powf (wv s l) k.toNat 1 else (0, [], 2)) else (0, [], 1)
def impl_PowerOfWhole.f (a0_0 : Int) (l0_1 : List Int) (a1 : Int) : Option (Int × List Int × Int) := if l0_1.length ≤ 1000000000 then some (powres a0_0 l0_1 a1) else none
set_option maxRecDepth 100000 in
set_option maxHeartbeats 4000000 in
theorem impl_PowerOfWhole.calls (a0_0 : Int) (A0_1 : Option Addr) (c0_1 : Nat) (l0_1 : List Int) (a1 : Int) (r1 : Int) (r2 : List Int) (r3 : Int) (w : World) (hr0_1 : Kd.C (Kd.int .i64) w A0_1 l0_1.length l0_1) (hc0_1 : l0_1.length ≤ c0_1) (h : impl_PowerOfWhole.f a0_0 l0_1 a1 = some (r1, r2, r3)) :
    Calls Tryd.prog 34 #[.agg #[.int .i64 a0_0, .slice A0_1 l0_1.length c0_1], .int .i64 a1] w fun e w' => ∃ v1_ : Value, e = .returned (.tuple #[.agg #[.int .i64 r1, v1_], .int .i64 r3]) ∧ Kd.R (Kd.int .i64) 2 w' w.heap.size (fun _ => True) v1_ r2 ∧ Below w.heap.size w w' := by
  unfold impl_PowerOfWhole.f at h
  split at h
  case isFalse => cases h
  rename_i hl
  injection h with h
  have HR := Aside0.mk hr0_1
  have R0 := Aside0.mk (ResAt.next (OneBox.start w a0_0 A0_1 c0_1 l0_1).lo)
  have O0 := Aside0.mk ((OneBox.start w a0_0 A0_1 c0_1 l0_1).below (below_alloc (Below.refl _ _) (.cells #[.int .i64 0, .slice none 0 0] 28)))
  have HL := Aside0.mk hl
  clear hr0_1 hl
  rw [alloc_size] at R0
  unfold powres at h
  cases hw : isW a0_0 l0_1
  · rw [hw] at h
    simp only [Bool.false_eq_true, if_false, Prod.mk.injEq] at h
    obtain ⟨rfl, rfl, rfl⟩ := h
    have HW := Aside0.mk hw
    clear hw
    go_enter Tryd.func34, Tryd.ntmps34
    go_wp2_with fail
    refine (isWhole_of _ _ _ _ (Kd.C_below HR.out O0.out.lo) hc0_1 HL.out).mono ?_
    rintro e w1 ⟨rfl, hb⟩
    rw [HW.out]
    have R1 := Aside0.mk (R0.out.below hb)
    obtain ⟨q0, q1, q2, q3⟩ := R1.out.cells
    clear hb
    go_wp2_with fail
    refine bodyPost_ret (results_ct rfl _ _ (w.heap.size + 1) 28 #[.int .i64 0, .slice none 0 0] (0, 0) _ rfl (R1.out.put _ _) Tryd.underlying28 rfl (by kernel_rfl)) rfl ?_
    exact ⟨_, rfl, R1.out.row (own_zero w1 (w.heap.size + 3)) (by omega) _ _, R1.out.low _ _⟩
  · rw [hw] at h
    simp only [if_true] at h
    have HW := Aside0.mk hw
    clear hw
    by_cases hk : 0 ≤ a1 ∧ a1 ≤ 200
    · rw [if_pos hk] at h
      obtain ⟨K, rfl⟩ := Int.eq_ofNat_of_zero_le hk.1
      rw [Int.toNat_natCast] at h
      have HH := Aside0.mk h
      have hK : K ≤ 200 := by omega
      have hlw := isW_len HW.out
      clear h hk
      go_enter Tryd.func34, Tryd.ntmps34
      go_wp2_with fail
      refine (isWhole_of _ _ _ _ (Kd.C_below HR.out O0.out.lo) hc0_1 HL.out).mono ?_
      rintro e w1 ⟨rfl, hb⟩
      rw [HW.out]
      have R1 := Aside0.mk (R0.out.below hb)
      have O1 := Aside0.mk (O0.out.below hb)
      clear hb
      go_wp2_with fail
      refine (between_of K 0 200 _ true (by simp; omega)).mono ?_
      rintro e w2 ⟨rfl, hb⟩
      have R2 := Aside0.mk (R1.out.below hb)
      have O2 := Aside0.mk (O1.out.below hb)
      obtain ⟨p0, p1⟩ := O2.out.cells
      clear hb
      go_wp2
      refine start_ (n := 5) (S := fun w' => w'.cell? ⟨w.heap.size, 0, none⟩ = some (.int .i64 a0_0) ∧ w'.cell? ⟨w.heap.size, 1, none⟩ = some (.slice A0_1 l0_1.length c0_1) ∧ Below w2.heap.size w2 w') (ds := []) #[false, false, false, false, false] (by kernel_rfl) rfl rfl ⟨p0, p1, (Below.refl _ _).drew⟩ (fun hHeld => ?_)
      have Dw3 := Aside0.mk ((Below.refl w2.heap.size w2).drew)
      generalize w2.drew = w3 at hHeld Dw3 ⊢
      refine take_ (i := 1) (N := some 19) (v := ?_) (a' := ?_) #[false, true, false, false, false] rfl rfl (by kernel_rfl) (fun _ _ _ h => h) (Or.inl ⟨by rfl, ?_⟩) hHeld ?_ ?_
      rotate_left
      · rintro w' ⟨s0, s1, s2⟩
        go_simp
        with_reducible rfl
      rotate_left
      · simp only [Act.put, List.setIfInBounds_toArray, List.set_cons_zero, List.set_cons_succ, i64_w, i32_w]
        rfl
      refine one_ (i := 0) (N := some 18) #[true, true, false, false, false] rfl rfl (by kernel_rfl) (by decide) (fun K hK => ?_)
      refine goes_ Tryd.func75 (by kernel_rfl) rfl #[.int .i64 1] (by rfl) rfl rfl (by simp only [List.map_toArray, List.map_cons, List.map_nil]; rfl) ?_
      with_reducible refine (newBig_calls 1 _ (by omega) (by omega)).mono ?_
      rintro e w4 ⟨rfl, hb4, hg4⟩
      refine ⟨_, rfl, ?_⟩
      have N4 := Aside0.mk hb4
      have L4 := Aside0.mk hg4
      refine hK.out _ _ ⟨pw_cell_below hg4 hHeld.1, pw_cell_below hg4 hHeld.2.1, hHeld.2.2.trans (hg4.mono hHeld.2.2.size)⟩ (fun hHeld => ?_)
      clear hK K
      refine norm_ (a' := ?_) ?_ ?_
      rotate_left
      · show Act.put _ (some 18) _ = _
        simp only [Act.put, List.setIfInBounds_toArray, List.set_cons_zero, List.set_cons_succ, i64_w, i32_w]
        rfl
      refine one_ (i := 2) (N := some 20) #[true, true, true, false, false] rfl rfl (by kernel_rfl) (by decide) (fun K hK => ?_)
      clear hb4 hg4
      refine goes_ Tryd.func70 (by kernel_rfl) rfl #[.agg #[.int .i64 a0_0, .slice A0_1 l0_1.length c0_1]] (by rfl) rfl rfl (by simp only [List.map_toArray, List.map_cons, List.map_nil]; rfl) ?_
      with_reducible refine (value_calls _ _ _ _ _ (lims_of (Kd.C_below HR.out (O2.out.lo.trans (hHeld.2.2.mono O2.out.lo.size))) HW.out)).mono ?_
      rintro e w5 ⟨x, rfl, hge5, hbig5, hv5⟩
      refine ⟨_, rfl, ?_⟩
      have H6A : Aside0 (Two w3 (wv a0_0 l0_1) 200 w3.heap.size x w5) := Aside0.mk ⟨L4.out.trans (hv5.mono L4.out.size), (N4.out.below hv5).more (by omega), hbig5.more hlw, Nat.le_refl _, Nat.ne_of_gt (Nat.lt_of_lt_of_le N4.out.lt hge5)⟩
      refine hK.out _ _ ⟨pw_cell_below hv5 hHeld.1, pw_cell_below hv5 hHeld.2.1, hHeld.2.2.trans (hv5.mono hHeld.2.2.size)⟩ (fun hHeld => ?_)
      clear hK K
      refine norm_ (a' := ?_) ?_ ?_
      rotate_left
      · show Act.put _ (some 20) _ = _
        simp only [Act.put, List.setIfInBounds_toArray, List.set_cons_zero, List.set_cons_succ, i64_w, i32_w]
        rfl
      refine pure_ (i := 3) (N := some 6) (v := ?_) (a' := ?_) #[true, true, true, true, false] rfl rfl (by kernel_rfl) (fun _ _ _ h => h) (Or.inl ⟨by rfl, ?_⟩) ?_ ?_
      rotate_left
      · intro w'
        go_simp
        with_reducible rfl
      rotate_left
      · simp only [Act.put, List.setIfInBounds_toArray, List.set_cons_zero, List.set_cons_succ, i64_w, i32_w]
        rfl
      refine pure_ (i := 4) (N := some 7) (v := ?_) (a' := ?_) #[true, true, true, true, true] rfl rfl (by kernel_rfl) (fun _ _ _ h => h) (Or.inl ⟨by rfl, ?_⟩) ?_ ?_
      rotate_left
      · intro w'
        go_simp
        with_reducible rfl
      rotate_left
      · simp only [Act.put, List.setIfInBounds_toArray, List.set_cons_zero, List.set_cons_succ, i64_w, i32_w]
        rfl
      refine done_ (by kernel_rfl) ?_

      clear hge5 hbig5 hv5 hHeld
      generalize w3.heap.size = b at H6A ⊢
      have RD := Aside0.mk (R2.out.below Dw3.out)
      clear p0 p1
      have hST : powf (wv a0_0 l0_1) (K - 0) 1 = (r1, r2, r3) := HH.out
      have HST := Aside0.mk hST
      clear hST
      have hne := H6A.out.ne
      go_wp2
      go_loopw [22] (fun i wr => ∃ j : Nat, j ≤ K ∧ i = .int .i64 j ∧ Aside0 (∃ cur, Big wr b cur 150 ∧ Big wr x (wv a0_0 l0_1) 200 ∧ Below w3.heap.size w3 wr ∧ powf (wv a0_0 l0_1) (K - j) cur = (r1, r2, r3))) (fun i _ => K - (intOf i).toNat)
      case atStart => exact ⟨0, Nat.zero_le _, rfl, ⟨1, H6A.out.vb, H6A.out.vx, H6A.out.lo, HST.out⟩⟩
      case round =>
        obtain ⟨j, hj, rfl, ⟨cur, hcb, hcx, hlo, hp⟩⟩ := hrel
        have CB := Aside0.mk hcb
        have CX := Aside0.mk hcx
        have LO := Aside0.mk hlo
        have HP := Aside0.mk hp
        clear hcb hcx hlo hp
        by_cases hlt : j < K
        · go_wp2_with fail
          refine (mul_calls b b x cur (wv a0_0 l0_1) 150 200 _ CB.out.is CB.out (by omega) CX.out (by omega)).mono ?_
          rintro e w7 ⟨rfl, hb7, hg7⟩
          have CB7 := Aside0.mk hb7
          have CX7 := Aside0.mk (CX.out.grown hg7 CB.out.is hne)
          have LO7 := Aside0.mk (below_of_grown LO.out hg7 H6A.out.hb)
          clear hb7 hg7
          go_wp2_with fail
          refine (bitLen_calls b _ _ _ CB7.out (by omega)).mono ?_
          rintro e w8 ⟨rfl, hw8⟩
          subst w8
          have hp := HP.out
          rw [show K - j = (K - (j + 1)) + 1 from by omega, powf] at hp
          by_cases hbl : blen (cur * wv a0_0 l0_1) ≤ 4800
          · rw [if_pos hbl] at hp
            have HP2 := Aside0.mk hp
            have CB8 := Aside0.mk (big_short CB7.out hbl)
            have hb2 : ((blen (cur * wv a0_0 l0_1) : Nat) : Int) ≤ 4800 := by omega
            clear hp hbl
            go_wp2
            go_roundw
            case rel => exact ⟨j + 1, by omega, by go_num, ⟨_, CB8.out, CX7.out, LO7.out, HP2.out⟩⟩
            case measure => simp [intOf]; omega
          · rw [if_neg hbl, ← wfit_big hbl] at hp
            have HP2 := Aside0.mk hp
            have hb2 : 4800 < ((blen (cur * wv a0_0 l0_1) : Nat) : Int) := by omega
            have R7 := Aside0.mk (RD.out.below LO7.out)
            clear hp hbl
            go_wp2_with fail
            refine (whole_calls b _ _ _ CB7.out (by omega) r1 r2 r3 HP2.out).mono ?_
            rintro e w9 ⟨v, rfl, hr, hb5⟩
            obtain ⟨A1, c1, rfl⟩ := own_slice hr
            have R8 := Aside0.mk (R7.out.below hb5)
            have HRW := Aside0.mk hr
            obtain ⟨q0, q1, q2, q3⟩ := R8.out.cells
            clear hr hb5
            go_wp2_with fail
            refine bodyPost_ret (results_ct rfl _ _ (w.heap.size + 1) 28 #[.int .i64 r1, .slice A1 r2.length c1] (0, 0) _ rfl (R8.out.put _ _) Tryd.underlying28 rfl (by kernel_rfl)) rfl ?_
            exact ⟨_, rfl, R8.out.row HRW.out R7.out.lo.size _ _, R8.out.low _ _⟩
        · have hp := HP.out
          rw [show K - j = 0 from by omega, powf] at hp
          have HP2 := Aside0.mk hp
          have R7 := Aside0.mk (RD.out.below LO.out)
          clear hp
          go_wp2_with fail
          refine (whole_calls b _ _ _ CB.out (by omega) r1 r2 r3 HP2.out).mono ?_
          rintro e w9 ⟨v, rfl, hr, hb5⟩
          obtain ⟨A1, c1, rfl⟩ := own_slice hr
          have R8 := Aside0.mk (R7.out.below hb5)
          have HRW := Aside0.mk hr
          obtain ⟨q0, q1, q2, q3⟩ := R8.out.cells
          clear hr hb5
          go_wp2_with fail
          refine bodyPost_ret (results_ct rfl _ _ (w.heap.size + 1) 28 #[.int .i64 r1, .slice A1 r2.length c1] (0, 0) _ rfl (R8.out.put _ _) Tryd.underlying28 rfl (by kernel_rfl)) rfl ?_
          exact ⟨_, rfl, R8.out.row HRW.out R7.out.lo.size _ _, R8.out.low _ _⟩
    · rw [if_neg hk] at h
      simp only [Prod.mk.injEq] at h
      obtain ⟨rfl, rfl, rfl⟩ := h
      have HK := Aside0.mk hk
      clear hk
      go_enter Tryd.func34, Tryd.ntmps34
      go_wp2_with fail
      refine (isWhole_of _ _ _ _ (Kd.C_below HR.out O0.out.lo) hc0_1 HL.out).mono ?_
      rintro e w1 ⟨rfl, hb⟩
      rw [HW.out]
      have R1 := Aside0.mk (R0.out.below hb)
      clear hb
      go_wp2_with fail
      refine (between_of a1 0 200 _ false (by have := HK.out; simp; omega)).mono ?_
      rintro e w2 ⟨rfl, hb⟩
      have R2 := Aside0.mk (R1.out.below hb)
      obtain ⟨q0, q1, q2, q3⟩ := R2.out.cells
      clear hb
      go_wp2_with fail
      refine bodyPost_ret (results_ct rfl _ _ (w.heap.size + 1) 28 #[.int .i64 0, .slice none 0 0] (0, 0) _ rfl (R2.out.put _ _) Tryd.underlying28 rfl (by kernel_rfl)) rfl ?_
      exact ⟨_, rfl, R2.out.row (own_zero w2 (w.heap.size + 3)) (by omega) _ _, R2.out.low _ _⟩
end Go.Proofs.YtbmjakaoniegfaaDoor
