/- The contracts of impl.shifted, impl.TwosIn and impl.ShiftWhole in plain words. Conditions: at most 1000000000 limbs; the library's table holds its numbers. -/
import Derived.Test.YtbmjakaoniegfaaDoorBnd4
import Derived.Test.YtbmjakaoniegfaaDoorBigE
namespace Go.Proofs.YtbmjakaoniegfaaDoor
open Go.RowKit Go.Proofs.YtbmjakaoniegfaaDoorW.PrintWords Go.Proofs.YtbmjakaoniegfaaDoorW.PrintLast Go.Proofs.YtbmjakaoniegfaaDoorW.PrintMore Go.Proofs.YtbmjakaoniegfaaDoor.Math Go.Proofs.YtbmjakaoniegfaaDoor.Big
set_option linter.unusedVariables false
set_option linter.unusedSimpArgs false

structure OneBox (w wr : World) (a : Int) (A : Option Addr) (c : Nat) (l : List Int) : Prop where
  lo : Below w.heap.size w wr
  x : wr.heap[w.heap.size]? = some (.cells #[.int .i64 a, .slice A l.length c] 28 (0, 0))
theorem OneBox.start (w : World) (a : Int) (A : Option Addr) (c : Nat) (l : List Int) : OneBox w (w.alloc (.cells #[.int .i64 a, .slice A l.length c] 28)) a A c l := ⟨(Below.refl _ _).alloc (Nat.le_refl _) _, heap_alloc_new w _⟩
theorem OneBox.below {w wr w1 : World} {a : Int} {A : Option Addr} {c : Nat} {l : List Int} (h : OneBox w wr a A c l) (hb : Below wr.heap.size wr w1) : OneBox w w1 a A c l := ⟨h.lo.trans (hb.mono h.lo.size), blk_below h.x hb⟩
theorem OneBox.cells {w wr : World} {a : Int} {A : Option Addr} {c : Nat} {l : List Int} (h : OneBox w wr a A c l) : wr.cell? ⟨w.heap.size, 0, none⟩ = some (.int .i64 a) ∧ wr.cell? ⟨w.heap.size, 1, none⟩ = some (.slice A l.length c) :=
  ⟨(blk_cell h.x 0).trans rfl, (blk_cell h.x 1).trans rfl⟩
theorem below_drawn {w w1 : World} (h : Drawn0 w w1) : Below w.heap.size w w1 := h.below
/-- Whether k lies between two numbers. -/
theorem between_of (k lo hi : Int) (w : World) (b : Bool) (h : b = (decide (lo ≤ k) && decide (k ≤ hi))) :
    Calls Tryd.prog 89 #[.int .i64 k, .int .i64 lo, .int .i64 hi] w fun e w' => e = .returned (.bool b) ∧ Below w.heap.size w w' := by
  refine (A.impl_between.calls k lo hi b w ?_).mono ?_
  · unfold A.impl_between.f
    subst h
    by_cases g : k ≥ lo
    · rw [if_pos g, decide_eq_true (show lo ≤ k from g), Bool.true_and]
    · rw [if_neg g, decide_eq_false (show ¬ lo ≤ k from g), Bool.false_and]
  · rintro e w' ⟨rfl, hd⟩
    exact ⟨rfl, below_drawn hd⟩

/-- A number moved by k bits. -/
def shv (n k : Int) : Int := if 0 ≤ k then n * 2 ^ k.toNat else n / 2 ^ (-k).toNat
set_option maxHeartbeats 1000000 in
theorem shifted_calls (x : Nat) (n k : Int) (m : Nat) (w : World) (hx : Big w x n m) (hm : m ≤ 100000) (h0 : -100000 ≤ k) (h1 : k ≤ 100000) (hT : Tab w) :
    Calls Tryd.prog 100 #[.pointer (some ⟨x, 0, none⟩), .int .i64 k] w fun e w' => ∃ z, e = .returned (.pointer (some ⟨z, 0, none⟩)) ∧ w.heap.size ≤ z ∧ Big w' z (shv n k) (m + 100000) ∧ Below w.heap.size w w' := by
  have HX := Aside0.mk (hx.below (below_alloc (Below.refl _ _) (.cells #[.bool false, .slice none 0 0] 84)))
  have HT := Aside0.mk (hT.below (below_alloc (Below.refl _ _) (.cells #[.bool false, .slice none 0 0] 84)))
  have HN := Aside0.mk (is_new w)
  have HL := Aside0.mk ((Below.refl w.heap.size w).alloc (Nat.le_refl _) (.cells #[.bool false, .slice none 0 0] 84))
  clear hx hT
  unfold shv
  by_cases hk : 0 ≤ k
  · obtain ⟨j, rfl⟩ := Int.eq_ofNat_of_zero_le hk
    rw [if_pos hk, Int.toNat_natCast]
    go_enter Tryd.func100, Tryd.ntmps100
    go_wp2_with fail
    refine (lsh_calls w.heap.size x j n m _ HN.out HX.out (by omega) (by omega)).mono ?_
    rintro e w1 ⟨rfl, hb, hg⟩
    have HB := Aside0.mk hb
    have HG := Aside0.mk (below_of_grown HL.out hg (Nat.le_refl _))
    clear hb hg
    go_wp2
    go_ret
    exact ⟨_, rfl, Nat.le_refl _, HB.out.more (by omega), HG.out⟩
  · obtain ⟨j, hj⟩ : ∃ j : Nat, -k = j := ⟨(-k).toNat, by omega⟩
    rw [if_neg hk, hj, Int.toNat_natCast]
    have hw : wrap64 (-k) = (j : Int) := by rw [w64s (by omega) (by omega)]; exact hj
    go_enter Tryd.func100, Tryd.ntmps100
    go_wp2_with fail
    refine (rsh_any w.heap.size x j n m _ HN.out HX.out (by omega) (by omega) HT.out).mono ?_
    rintro e w1 ⟨rfl, hb, hg⟩
    have HB := Aside0.mk hb
    have HG := Aside0.mk (below_of_grown HL.out hg (Nat.le_refl _))
    clear hb hg
    go_wp2
    go_ret
    exact ⟨_, rfl, Nat.le_refl _, HB.out.more (by omega), HG.out⟩

theorem tz_lt {n : Int} (hn : n ≠ 0) {j : Nat} (h : n.natAbs < 2 ^ j) : tz n < j := by
  have h1 := ctz_spec (show n.natAbs ≠ 0 from by omega)
  have h2 := Nat.le_of_dvd (by omega) (Nat.dvd_of_mod_eq_zero h1.z)
  exact (Nat.pow_lt_pow_iff_right (by omega)).1 (Nat.lt_of_le_of_lt h2 h)
theorem tz_isW {s : Int} {l : List Int} (h : isW s l = true) (hs : s ≠ 0) : tz (wv s l) < 4800 := by
  have hc := isW_cw h
  have hne : wv s l ≠ 0 := by
    have hp := lv_pos hc.ok hc.ti (isW_ne h hs)
    rcases hc.nz (isW_ne h hs) with rfl | rfl <;> simp [wv] <;> omega
  have h1 := lv_lt hc.ok
  have h0 := lv_nonneg hc.ok
  have h2 := lpow_mono (isW_len h)
  have h3 := lpow_cast 200
  obtain ⟨j, hj⟩ : ∃ j, j = 200 := ⟨_, rfl⟩
  rw [← hj] at h2 h3
  refine Nat.lt_of_lt_of_le (tz_lt hne (j := 24 * j) ?_) (by omega)
  rw [← lpow_two, hc.natAbs]
  clear hne hc
  generalize (16777216 : Nat) ^ j = p at h3 ⊢
  generalize (16777216 : Int) ^ j = q at h2 h3
  generalize (16777216 : Int) ^ l.length = r at h1 h2
  generalize lv l = v at h0 h1 ⊢
  omega
def impl_TwosIn.f (a0_0 : Int) (l0_1 : List Int) : Option (Int × Int) := if l0_1.length ≤ 1000000000 then some (if isW a0_0 l0_1 then (if a0_0 = 0 then (0, 5) else ((tz (wv a0_0 l0_1) : Int), 0)) else (0, 1)) else none
set_option maxHeartbeats 2000000 in
theorem impl_TwosIn.calls (a0_0 : Int) (A0_1 : Option Addr) (c0_1 : Nat) (l0_1 : List Int) (r1 r2 : Int) (w : World) (hr0_1 : Kd.C (Kd.int .i64) w A0_1 l0_1.length l0_1) (hc0_1 : l0_1.length ≤ c0_1) (hT : Tab w) (h : impl_TwosIn.f a0_0 l0_1 = some (r1, r2)) :
    Calls Tryd.prog 21 #[.agg #[.int .i64 a0_0, .slice A0_1 l0_1.length c0_1]] w fun e w' => e = .returned (.tuple #[.int .i64 r1, .int .i64 r2]) ∧ Below w.heap.size w w' := by
  unfold impl_TwosIn.f at h
  split at h
  case isFalse => cases h
  rename_i hl
  have HR := Aside0.mk hr0_1
  have O0 := Aside0.mk (OneBox.start w a0_0 A0_1 c0_1 l0_1)
  have HT := Aside0.mk hT
  have HL := Aside0.mk hl
  clear hr0_1 hT hl
  cases hw : isW a0_0 l0_1
  · rw [hw] at h
    simp only [Bool.false_eq_true, if_false, Option.some.injEq, Prod.mk.injEq] at h
    obtain ⟨rfl, rfl⟩ := h
    have HW := Aside0.mk hw
    clear hw
    go_enter Tryd.func21, Tryd.ntmps21
    go_wp2_with fail
    refine (isWhole_of _ _ _ _ (Kd.C_below HR.out O0.out.lo) hc0_1 HL.out).mono ?_
    rintro e w1 ⟨rfl, hb⟩
    rw [HW.out]
    have O1 := Aside0.mk (O0.out.below hb)
    clear hb
    go_wp2
    go_ret2
    exact ⟨rfl, O1.out.lo⟩
  · rw [hw] at h
    simp only [if_true] at h
    have HW := Aside0.mk hw
    clear hw
    by_cases hs : a0_0 = 0
    · subst hs
      simp only [if_true, Option.some.injEq, Prod.mk.injEq] at h
      obtain ⟨rfl, rfl⟩ := h
      go_enter Tryd.func21, Tryd.ntmps21
      go_wp2_with fail
      refine (isWhole_of _ _ _ _ (Kd.C_below HR.out O0.out.lo) hc0_1 HL.out).mono ?_
      rintro e w1 ⟨rfl, hb⟩
      rw [HW.out]
      have O1 := Aside0.mk (O0.out.below hb)
      obtain ⟨p0, p1⟩ := O1.out.cells
      clear hb
      go_wp2
      go_ret2
      exact ⟨rfl, O1.out.lo⟩
    · rw [if_neg hs] at h
      simp only [Option.some.injEq, Prod.mk.injEq] at h
      obtain ⟨rfl, rfl⟩ := h
      have hs2 : (a0_0 == 0) = false := by simpa using hs
      have hz := tz_isW HW.out hs
      go_enter Tryd.func21, Tryd.ntmps21
      go_wp2_with fail
      refine (isWhole_of _ _ _ _ (Kd.C_below HR.out O0.out.lo) hc0_1 HL.out).mono ?_
      rintro e w1 ⟨rfl, hb⟩
      rw [HW.out]
      have O1 := Aside0.mk (O0.out.below hb)
      obtain ⟨p0, p1⟩ := O1.out.cells
      clear hb
      go_wp2_with fail
      refine (value_calls _ _ _ _ _ (lims_of (Kd.C_below HR.out O1.out.lo) HW.out)).mono ?_
      rintro e w2 ⟨b, rfl, hge, hbig, hb⟩
      have BB := Aside0.mk hbig
      have O2 := Aside0.mk (O1.out.below hb)
      have T2 := Aside0.mk (HT.out.below O2.out.lo)
      clear hb hge hbig
      go_wp2_with fail
      refine (tz_calls b _ _ _ BB.out (Nat.le_trans (isW_len HW.out) (by omega)) T2.out).mono ?_
      rintro e w3 ⟨rfl, hw3⟩
      subst w3
      generalize hqe : tz (wv a0_0 l0_1) = q at hz ⊢
      have HQ := Aside0.mk hqe
      clear hqe
      have hq : wrap64 (q : Int) = q := w64s (by omega) (by omega)
      go_wp2
      go_ret2
      exact ⟨by rw [HQ.out]; rfl, O2.out.lo⟩
def shiftres (s : Int) (l : List Int) (k : Int) : Int × List Int × Int := if isW s l then (if -5000 ≤ k ∧ k ≤ 5000 then wfit (shv (wv s l) k) else (0, [], 2)) else (0, [], 1)
def impl_ShiftWhole.f (a0_0 : Int) (l0_1 : List Int) (a1 : Int) : Option (Int × List Int × Int) := if l0_1.length ≤ 1000000000 then some (shiftres a0_0 l0_1 a1) else none
set_option maxRecDepth 100000 in
set_option maxHeartbeats 2000000 in
theorem impl_ShiftWhole.calls (a0_0 : Int) (A0_1 : Option Addr) (c0_1 : Nat) (l0_1 : List Int) (a1 : Int) (r1 : Int) (r2 : List Int) (r3 : Int) (w : World) (hr0_1 : Kd.C (Kd.int .i64) w A0_1 l0_1.length l0_1) (hc0_1 : l0_1.length ≤ c0_1) (hT : Tab w) (h : impl_ShiftWhole.f a0_0 l0_1 a1 = some (r1, r2, r3)) :
    Calls Tryd.prog 42 #[.agg #[.int .i64 a0_0, .slice A0_1 l0_1.length c0_1], .int .i64 a1] w fun e w' => ∃ v1_ : Value, e = .returned (.tuple #[.agg #[.int .i64 r1, v1_], .int .i64 r3]) ∧ Kd.R (Kd.int .i64) 2 w' w.heap.size (fun _ => True) v1_ r2 ∧ Below w.heap.size w w' := by
  unfold impl_ShiftWhole.f at h
  split at h
  case isFalse => cases h
  rename_i hl
  injection h with h
  have HR := Aside0.mk hr0_1
  have R0 := Aside0.mk (ResAt.next (OneBox.start w a0_0 A0_1 c0_1 l0_1).lo)
  have O0 := Aside0.mk ((OneBox.start w a0_0 A0_1 c0_1 l0_1).below (below_alloc (Below.refl _ _) (.cells #[.int .i64 0, .slice none 0 0] 28)))
  have HT := Aside0.mk hT
  have HL := Aside0.mk hl
  clear hr0_1 hT hl
  rw [alloc_size] at R0
  unfold shiftres at h
  cases hw : isW a0_0 l0_1
  · rw [hw] at h
    simp only [Bool.false_eq_true, if_false, Prod.mk.injEq] at h
    obtain ⟨rfl, rfl, rfl⟩ := h
    have HW := Aside0.mk hw
    clear hw
    go_enter Tryd.func42, Tryd.ntmps42
    go_wp2_with fail
    refine (isWhole_of _ _ _ _ (Kd.C_below HR.out O0.out.lo) hc0_1 HL.out).mono ?_
    rintro e w1 ⟨rfl, hb⟩
    rw [HW.out]
    have R1 := Aside0.mk (R0.out.below hb)
    obtain ⟨q0, q1, q2, q3⟩ := R1.out.cells
    clear hb
    go_wp2_with fail
    refine bodyPost_ret (results_ct rfl _ _ (w.heap.size + 1) 28 #[.int .i64 0, .slice none 0 0] (0, 0) _ rfl (R1.out.put _ _) Tryd.underlying28 rfl (by kernel_rfl)) rfl ?_
    exact ⟨_, rfl, R1.out.row (own_zero w1 (w.heap.size + 3)) (by omega) _ _, R1.out.low _ _⟩
  · rw [hw] at h
    simp only [if_true] at h
    have HW := Aside0.mk hw
    clear hw
    by_cases hk : -5000 ≤ a1 ∧ a1 ≤ 5000
    · rw [if_pos hk] at h
      have HH := Aside0.mk h
      have HK := Aside0.mk hk
      clear h hk
      go_enter Tryd.func42, Tryd.ntmps42
      go_wp2_with fail
      refine (isWhole_of _ _ _ _ (Kd.C_below HR.out O0.out.lo) hc0_1 HL.out).mono ?_
      rintro e w1 ⟨rfl, hb⟩
      rw [HW.out]
      have R1 := Aside0.mk (R0.out.below hb)
      have O1 := Aside0.mk (O0.out.below hb)
      clear hb
      go_wp2_with fail
      refine (between_of a1 (-5000) 5000 _ true (by simp [HK.out])).mono ?_
      rintro e w2 ⟨rfl, hb⟩
      have R2 := Aside0.mk (R1.out.below hb)
      have O2 := Aside0.mk (O1.out.below hb)
      obtain ⟨p0, p1⟩ := O2.out.cells
      clear hb
      go_wp2_with fail
      refine (value_calls _ _ _ _ _ (lims_of (Kd.C_below HR.out O2.out.lo) HW.out)).mono ?_
      rintro e w3 ⟨b, rfl, hge, hbig, hb⟩
      have BB := Aside0.mk (hbig.more (isW_len HW.out))
      have R3 := Aside0.mk (R2.out.below hb)
      have T3 := Aside0.mk (HT.out.below R3.out.lo)
      clear hb hge hbig p0 p1
      go_wp2_with fail
      refine (shifted_calls b _ a1 200 _ BB.out (by omega) (by have := HK.out; omega) (by have := HK.out; omega) T3.out).mono ?_
      rintro e w4 ⟨z, rfl, hge, hbig, hb⟩
      have BZ := Aside0.mk hbig
      have R4 := Aside0.mk (R3.out.below hb)
      clear hb hge hbig
      go_wp2_with fail
      refine (whole_calls z _ _ _ BZ.out (by omega) r1 r2 r3 HH.out).mono ?_
      rintro e w5 ⟨v, rfl, hr, hb5⟩
      obtain ⟨A1, c1, rfl⟩ := own_slice hr
      have R5 := Aside0.mk (R4.out.below hb5)
      have HRW := Aside0.mk hr
      obtain ⟨q0, q1, q2, q3⟩ := R5.out.cells
      clear hr hb5
      go_wp2_with fail
      refine bodyPost_ret (results_ct rfl _ _ (w.heap.size + 1) 28 #[.int .i64 r1, .slice A1 r2.length c1] (0, 0) _ rfl (R5.out.put _ _) Tryd.underlying28 rfl (by kernel_rfl)) rfl ?_
      exact ⟨_, rfl, R5.out.row HRW.out R4.out.lo.size _ _, R5.out.low _ _⟩
    · rw [if_neg hk] at h
      simp only [Prod.mk.injEq] at h
      obtain ⟨rfl, rfl, rfl⟩ := h
      have HK := Aside0.mk hk
      clear hk
      go_enter Tryd.func42, Tryd.ntmps42
      go_wp2_with fail
      refine (isWhole_of _ _ _ _ (Kd.C_below HR.out O0.out.lo) hc0_1 HL.out).mono ?_
      rintro e w1 ⟨rfl, hb⟩
      rw [HW.out]
      have R1 := Aside0.mk (R0.out.below hb)
      clear hb
      go_wp2_with fail
      refine (between_of a1 (-5000) 5000 _ false (by have := HK.out; simp; omega)).mono ?_
      rintro e w2 ⟨rfl, hb⟩
      have R2 := Aside0.mk (R1.out.below hb)
      obtain ⟨q0, q1, q2, q3⟩ := R2.out.cells
      clear hb
      go_wp2_with fail
      refine bodyPost_ret (results_ct rfl _ _ (w.heap.size + 1) 28 #[.int .i64 0, .slice none 0 0] (0, 0) _ rfl (R2.out.put _ _) Tryd.underlying28 rfl (by kernel_rfl)) rfl ?_
      exact ⟨_, rfl, R2.out.row (own_zero w2 (w.heap.size + 3)) (by omega) _ _, R2.out.low _ _⟩
end Go.Proofs.YtbmjakaoniegfaaDoor
