/- The contracts of impl.shifted, impl.TwosIn and impl.ShiftWhole in plain words. Conditions: at most 1000000000 limbs; the library's table holds its numbers. -/
import Derived.Test.YthddlechoibdkaaDoorBnd4
import Derived.Test.YthddlechoibdkaaDoorBigE
namespace Go.Proofs.YthddlechoibdkaaDoor
open Go.RowKit Go.Proofs.YthddlechoibdkaaDoorW.PrintWords Go.Proofs.YthddlechoibdkaaDoorW.PrintLast Go.Proofs.YthddlechoibdkaaDoorW.PrintMore Go.Proofs.YthddlechoibdkaaDoor.Math Go.Proofs.YthddlechoibdkaaDoor.Big
set_option linter.unusedVariables false
set_option linter.unusedSimpArgs false

structure OneBox (w wr : World) (a : Int) (A : Option Addr) (c : Nat) (l : List Int) : Prop where
  lo : Below w.heap.size w wr
  x : wr.heap[w.heap.size]? = some (.cells #[.int .i64 a, .slice A l.length c] 28 (0, 0))
theorem OneBox.start (w : World) (a : Int) (A : Option Addr) (c : Nat) (l : List Int) : OneBox w (w.alloc (.cells #[.int .i64 a, .slice A l.length c] 28)) a A c l := ⟨(Below.refl _ _).alloc (Nat.le_refl _) _, heap_alloc_new w _⟩
theorem OneBox.below {w wr w1 : World} {a : Int} {A : Option Addr} {c : Nat} {l : List Int} (h : OneBox w wr a A c l) (hb : Below wr.heap.size wr w1) : OneBox w w1 a A c l := ⟨h.lo.trans (hb.mono h.lo.size), blk_below h.x hb⟩
theorem OneBox.cells {w wr : World} {a : Int} {A : Option Addr} {c : Nat} {l : List Int} (h : OneBox w wr a A c l) : wr.cell? ⟨w.heap.size, 0, none⟩ = some (.int .i64 a) ∧ wr.cell? ⟨w.heap.size, 1, none⟩ = some (.slice A l.length c) :=
  ⟨(blk_cell h.x 0).trans rfl, (blk_cell h.x 1).trans rfl⟩
theorem below_drawn {w w1 : World} (h : Drawn0 w w1) : Below w.heap.size w w1 := h.below
/-- Whether k lies between two numbers. -/
theorem between_of (k lo hi : Int) (w : World) (b : Bool) (h : b = (decide (lo ≤ k) && decide (k ≤ hi))) :
    Calls Tryd.prog 59 #[.int .i64 k, .int .i64 lo, .int .i64 hi] w fun e w' => e = .returned (.bool b) ∧ Below w.heap.size w w' := by
  refine (A.impl_between.calls k lo hi b w ?_).mono ?_
  · unfold A.impl_between.f
    subst h
    by_cases g : k ≥ lo
    · rw [if_pos g, decide_eq_true (show lo ≤ k from g), Bool.true_and]
    · rw [if_neg g, decide_eq_false (show ¬ lo ≤ k from g), Bool.false_and]
  · rintro e w' ⟨rfl, hd⟩
    exact ⟨rfl, below_drawn hd⟩

/-- A number moved by k bits. -/
def shv (n k : Int) : Int := if 0 ≤ k then n * 2 ^ k.toNat else n / 2 ^ (-k).toNat
set_option maxHeartbeats 1000000 in
theorem shifted_calls (x : Nat) (n k : Int) (m : Nat) (w : World) (hx : Big w x n m) (hm : m ≤ 100000) (h0 : -100000 ≤ k) (h1 : k ≤ 100000) (hT : Tab w) :
    Calls Tryd.prog 81 #[.pointer (some ⟨x, 0, none⟩), .int .i64 k] w fun e w' => ∃ z, e = .returned (.pointer (some ⟨z, 0, none⟩)) ∧ w.heap.size ≤ z ∧ Big w' z (shv n k) (m + 4000) ∧ Below w.heap.size w w' := by
  have HX := Aside0.mk (hx.below (below_alloc (Below.refl _ _) (.cells #[.bool false, .slice none 0 0] 78)))
  have HT := Aside0.mk (hT.below (below_alloc (Below.refl _ _) (.cells #[.bool false, .slice none 0 0] 78)))
  have HN := Aside0.mk (is_new w)
  have HL := Aside0.mk ((Below.refl w.heap.size w).alloc (Nat.le_refl _) (.cells #[.bool false, .slice none 0 0] 78))
  clear hx hT
  unfold shv
  by_cases hk : 0 ≤ k
  · obtain ⟨j, rfl⟩ := Int.eq_ofNat_of_zero_le hk
    rw [if_pos hk, Int.toNat_natCast]
    go_enter Tryd.func81, Tryd.ntmps81
    go_wp2_with fail
    refine (lsh_calls w.heap.size x j n m _ HN.out HX.out (by omega) (by omega)).mono ?_
    rintro e w1 ⟨rfl, hb, hg⟩
    have HB := Aside0.mk hb
    have HG := Aside0.mk (below_of_grown HL.out hg (Nat.le_refl _))
    clear hb hg
    go_wp2
    go_ret
    exact ⟨_, rfl, Nat.le_refl _, HB.out.more (by omega), HG.out⟩
  · obtain ⟨j, hj⟩ : ∃ j : Nat, -k = j := ⟨(-k).toNat, by omega⟩
    rw [if_neg hk, hj, Int.toNat_natCast]
    have hw : wrap64 (-k) = (j : Int) := by rw [w64s (by omega) (by omega)]; exact hj
    go_enter Tryd.func81, Tryd.ntmps81
    go_wp2_with fail
    refine (rsh_any w.heap.size x j n m _ HN.out HX.out (by omega) (by omega) HT.out).mono ?_
    rintro e w1 ⟨rfl, hb, hg⟩
    have HB := Aside0.mk hb
    have HG := Aside0.mk (below_of_grown HL.out hg (Nat.le_refl _))
    clear hb hg
    go_wp2
    go_ret
    exact ⟨_, rfl, Nat.le_refl _, HB.out.more (by omega), HG.out⟩

theorem tz_lt {n : Int} (hn : n ≠ 0) {j : Nat} (h : n.natAbs < 2 ^ j) : tz n < j := by
  have h1 := ctz_spec (show n.natAbs ≠ 0 from by omega)
  have h2 := Nat.le_of_dvd (by omega) (Nat.dvd_of_mod_eq_zero h1.z)
  exact (Nat.pow_lt_pow_iff_right (by omega)).1 (Nat.lt_of_le_of_lt h2 h)
theorem tz_isW {s : Int} {l : List Int} (h : isW s l = true) (hs : s ≠ 0) : tz (wv s l) < 4800 := by
  have hc := isW_cw h
  have hne : wv s l ≠ 0 := by
    have hp := lv_pos hc.ok hc.ti (isW_ne h hs)
    rcases hc.nz (isW_ne h hs) with rfl | rfl <;> simp [wv] <;> omega
  have h1 := lv_lt hc.ok
  have h0 := lv_nonneg hc.ok
  have h2 := lpow_mono (isW_len h)
  have h3 := lpow_cast 200
  obtain ⟨j, hj⟩ : ∃ j, j = 200 := ⟨_, rfl⟩
  rw [← hj] at h2 h3
  refine Nat.lt_of_lt_of_le (tz_lt hne (j := 24 * j) ?_) (by omega)
  rw [← lpow_two, hc.natAbs]
  clear hne hc
  generalize (16777216 : Nat) ^ j = p at h3 ⊢
  generalize (16777216 : Int) ^ j = q at h2 h3
  generalize (16777216 : Int) ^ l.length = r at h1 h2
  generalize lv l = v at h0 h1 ⊢
  omega
end Go.Proofs.YthddlechoibdkaaDoor
