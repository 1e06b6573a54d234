/- Numbers by their values; the walks of SetInt64, newBig, Sign, Abs, Set and Neg. Conditions: the pointers lead to bigInts, of at most 1000000 digits. -/
import Derived.Test.YtbmjakaoniegfaaBig3
import Derived.Deep.RegionHeld3
import Derived.Deep.AppendLies
namespace Go.Proofs.Ytbmjakaoniegfaa.Big
open Go.RowKit Go.Proofs.YtbmjakaoniegfaaW.PrintWords Go.Proofs.Ytbmjakaoniegfaa.Math
set_option linter.unusedVariables false
set_option linter.unusedSimpArgs false

/-- The value of a sign and digits. -/
def bval (neg : Bool) (xs : List Int) : Int := if neg then -val xs else val xs
/-- Block b is the number n, of at most so many digits. -/
def Big (w : World) (b : Nat) (n : Int) (m : Nat) : Prop :=
  ∃ neg xs, BigAt w b neg xs ∧ Okd xs ∧ Tight xs ∧ (neg = true → xs ≠ []) ∧ xs.length ≤ m ∧ n = bval neg xs

theorem Big.is {w : World} {b : Nat} {n : Int} {m : Nat} (h : Big w b n m) : IsBig w b := by
  obtain ⟨_, _, h, _⟩ := h
  exact h.is
theorem Big.lt {w : World} {b : Nat} {n : Int} {m : Nat} (h : Big w b n m) : b < w.heap.size := h.is.lt
theorem Big.below {w w1 : World} {b : Nat} {n : Int} {m : Nat} (h : Big w b n m) (hb : Below w.heap.size w w1) : Big w1 b n m := by
  obtain ⟨neg, xs, h, r⟩ := h
  exact ⟨neg, xs, h.below hb, r⟩
theorem Big.grown {w w1 : World} {b z : Nat} {n : Int} {m : Nat} (h : Big w b n m) (hg : w.grownBy w1 (some z)) (hz : IsBig w z) (hne : b ≠ z) : Big w1 b n m := by
  obtain ⟨neg, xs, h, r⟩ := h
  exact ⟨neg, xs, h.grown hg hz hne, r⟩
theorem Big.more {w : World} {b : Nat} {n : Int} {m m' : Nat} (h : Big w b n m) (hm : m ≤ m') : Big w b n m' := by
  obtain ⟨neg, xs, h1, h2, h3, h4, h5, h6⟩ := h
  exact ⟨neg, xs, h1, h2, h3, h4, by omega, h6⟩

theorem put_big (z : Nat) (neg : Bool) (v : Value) (xs : List Int) (w : World) (hz : IsBig w z) (hv : Digs w v xs) (ok : Okd xs) :
    Calls Try.prog 48 #[.pointer (some ⟨z, 0, none⟩), .bool neg, v] w fun e w' => e = .returned (.pointer (some ⟨z, 0, none⟩)) ∧ Big w' z (bval neg xs) xs.length ∧ w.grownBy w' (some z) := by
  obtain ⟨n0, v0, hz⟩ := hz
  refine (put_calls z neg n0 v v0 xs w hz hv).mono ?_
  rintro e w' ⟨h1, h2, h3⟩
  refine ⟨h1, ⟨_, _, h2, okd_trim ok, trim_tight xs, ?_, trim_length xs, ?_⟩, h3⟩
  · intro h
    simpa using (Bool.and_eq_true_iff.1 h).2
  · by_cases e : trim xs = []
    · have : val xs = 0 := by rw [← val_trim, e]; rfl
      cases neg <;> simp [bval, e, this, val]
    · cases neg <;> simp [bval, e, val_trim]

theorem wrap32U (t : Int) : IntKind.u32.wrap t = t % 4294967296 := by
  simp [IntKind.wrap, IntKind.bits, IntKind.signed]

theorem negU {n : Int} (h1 : -9223372036854775808 ≤ n) (h2 : n < 0) : IntKind.u64.wrap (-IntKind.u64.wrap n) = -n := by
  rw [wrapU, wrapU]
  omega
theorem Digs.two (w : World) (a b : Int) : Digs (w.alloc (.cells #[.int .u32 a, .int .u32 b] 66)) (.slice (some ⟨w.heap.size, 0, none⟩) 2 2) [a, b] :=
  own_lit w 0 66 .u32 [a, b] (Nat.zero_le _) (by simp)
theorem IsBig.alloc {w : World} {b : Nat} (h : IsBig w b) (o : Obj) : IsBig (w.alloc o) b := h.below ((Below.refl _ _).alloc (Nat.le_refl _) o)
theorem grown_alloc {w w1 : World} {o : Obj} {z : Nat} (h : (w.alloc o).grownBy w1 (some z)) : w.grownBy w1 (some z) := (World.grownBy_alloc w o _).trans h
theorem val_two (a : Int) (h1 : 0 ≤ a) : val [a % 4294967296, a / 4294967296] = a := by
  simp only [val]
  omega

set_option maxHeartbeats 400000 in
theorem setInt64_calls (z : Nat) (n : Int) (w : World) (hz : IsBig w z) (h1 : -9223372036854775808 ≤ n) (h2 : n ≤ 9223372036854775807) :
    Calls Try.prog 50 #[.pointer (some ⟨z, 0, none⟩), .int .i64 n] w fun e w' => e = .returned (.pointer (some ⟨z, 0, none⟩)) ∧ Big w' z n 2 ∧ w.grownBy w' (some z) := by
  have HZ := Aside0.mk hz
  clear hz
  by_cases hn : n < 0
  · have hu := negU h1 hn
    have HU := Aside0.mk hu
    clear hu
    go_enter Try.func50, Try.ntmps50
    go_wp2_with fail
    rw [HU.out]
    rw [Int.emod_eq_of_lt (a := -n / 4294967296) (by omega) (by omega)]
    refine (put_big z true _ [-n % 4294967296, -n / 4294967296] _ (HZ.out.alloc _) (Digs.two _ _ _) (Okd.cons (by omega) (okd_single (by omega)))).mono ?_
    rintro e w' ⟨rfl, hb, hg⟩
    have HB := Aside0.mk hb
    have HG := Aside0.mk hg
    clear hb hg
    go_wp2
    go_ret
    refine ⟨rfl, ?_, grown_alloc HG.out⟩
    have := HB.out
    rw [bval, if_pos rfl, val_two _ (by omega), Int.neg_neg] at this
    exact this
  · go_enter Try.func50, Try.ntmps50
    go_wp2_with fail
    refine (put_big z false _ [n % 4294967296, n / 4294967296] _ (HZ.out.alloc _) (Digs.two _ _ _) (Okd.cons (by omega) (okd_single (by omega)))).mono ?_
    rintro e w' ⟨rfl, hb, hg⟩
    have HB := Aside0.mk hb
    have HG := Aside0.mk hg
    clear hb hg
    go_wp2
    go_ret
    refine ⟨rfl, ?_, grown_alloc HG.out⟩
    have := HB.out
    rw [bval, if_neg (by decide), val_two _ (by omega)] at this
    exact this

set_option maxHeartbeats 400000 in
theorem newBig_calls (n : Int) (w : World) (h1 : -9223372036854775808 ≤ n) (h2 : n ≤ 9223372036854775807) :
    Calls Try.prog 42 #[.int .i64 n] w fun e w' => e = .returned (.pointer (some ⟨w.heap.size, 0, none⟩)) ∧ Big w' w.heap.size n 2 ∧ Below w.heap.size w w' := by
  go_enter Try.func42, Try.ntmps42
  go_wp2_with fail
  refine (setInt64_calls _ n _ ⟨_, _, heap_alloc_new w _⟩ h1 h2).mono ?_
  rintro e w' ⟨rfl, hb, hg⟩
  have HB := Aside0.mk hb
  have HG := Aside0.mk hg
  clear hb hg
  go_wp2
  go_ret
  exact ⟨rfl, HB.out, below_of_grown ((Below.refl _ _).alloc (Nat.le_refl _) _) HG.out (Nat.le_refl _)⟩

end Go.Proofs.Ytbmjakaoniegfaa.Big
