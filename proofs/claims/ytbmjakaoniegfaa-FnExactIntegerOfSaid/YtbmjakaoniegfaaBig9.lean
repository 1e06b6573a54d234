/- The walks of Int64 and IsInt64. Conditions: the pointer leads to a bigInt of at most 1000000 digits. -/
import Derived.Test.YtbmjakaoniegfaaBig8
import Derived.Test.YtbmjakaoniegfaaMath3
namespace Go.Proofs.Ytbmjakaoniegfaa.Big
open Go.RowKit Go.Proofs.YtbmjakaoniegfaaW.PrintWords Go.Proofs.YtbmjakaoniegfaaW.PrintLast Go.Proofs.YtbmjakaoniegfaaW.PrintMore Go.Proofs.Ytbmjakaoniegfaa.Math
set_option linter.unusedVariables false
set_option linter.unusedSimpArgs false

theorem or_zero (x : Int) (h : 0 ≤ x ∧ x < 4294967296) : bits BinOp.or IntKind.u64 0 x = x := by
  obtain ⟨a, rfl⟩ := Int.eq_ofNat_of_zero_le h.1
  have := u64_or_nat 0 a (by omega) (by omega)
  simpa using this
theorem or_two (a b : Int) (h : 0 ≤ a ∧ a < 4294967296) (h' : 0 ≤ b ∧ b < 4294967296) : bits BinOp.or IntKind.u64 a (b * 4294967296) = a + 4294967296 * b := by
  obtain ⟨a, rfl⟩ := Int.eq_ofNat_of_zero_le h.1
  obtain ⟨b, rfl⟩ := Int.eq_ofNat_of_zero_le h'.1
  have := u64_or_nat a (b * 4294967296) (by omega) (by omega)
  rw [show ((b : Int) * 4294967296) = ((b * 4294967296 : Nat) : Int) from by omega, this, Nat.mul_comm, Nat.or_comm]
  have h2 := Nat.two_pow_add_eq_or_of_lt (b := a) (i := 32) (by omega) b
  rw [show (2 : Nat) ^ 32 = 4294967296 from by decide] at h2
  rw [← h2]
  omega
theorem wrap_neg (n : Int) : wrap64 (IntKind.u64.wrap (-n)) = wrap64 (-n) := by
  rw [wrapU]
  unfold wrap64
  omega
theorem val_take_one {xs : List Int} (h : 0 < xs.length) : val (xs.take 1) = xs.getD 0 0 := by
  have := val_take_succ (xs := xs) (k := 0) h
  simpa [val] using this
theorem val_take_two {xs : List Int} (h : 1 < xs.length) : val (xs.take 2) = xs.getD 0 0 + 4294967296 * xs.getD 1 0 := by
  have := val_take_succ (xs := xs) (k := 1) h
  rw [val_take_one (by omega)] at this
  simpa using this
set_option maxHeartbeats 2000000 in
theorem int64_walk (x : Nat) (nx : Bool) (xs : List Int) (A : Option Addr) (c : Nat) (w : World) (hx : Opd w x nx xs A c) :
    Calls Try.prog 37 #[.pointer (some ⟨x, 0, none⟩)] w fun e w' => e = .returned (.int .i64 (wrap64 (bval nx (xs.take 2)))) ∧ w' = w := by
  have HX := Aside0.mk hx
  obtain ⟨c0, c1, -, -, -, -, hlen⟩ := hx
  go_enter Try.func37, Try.ntmps37
  go_wp2
  go_loop [3, 11] (fun u i => ∃ (k : Nat) (n : Int), k ≤ xs.length ∧ i = .int .i64 k ∧ u = .int .u64 n ∧ Aside0 (n = val (xs.take (min k 2)))) (fun _ i => xs.length - (intOf i).toNat)
  case atStart => exact ⟨0, 0, Nat.zero_le _, rfl, rfl, ⟨rfl⟩⟩
  case round =>
    obtain ⟨k, n, hk, rfl, rfl, hR⟩ := hrel
    by_cases hlt : k < xs.length
    · obtain ⟨g, c', he, hg⟩ := HX.out.d.form (by omega)
      obtain ⟨he1, he3⟩ : A = some ⟨g, 0, none⟩ ∧ c = c' := ⟨(Value.slice.inj he).1, (Value.slice.inj he).2.2⟩
      subst he1 he3
      have hcx := (HX.out.d.at_ hlt).1
      have hbx := getD_ok HX.out.ok k
      obtain ⟨x0, hxe⟩ : ∃ x0, x0 = xs.getD k 0 := ⟨_, rfl⟩
      rw [← hxe] at hcx hbx
      have HXE := Aside0.mk hxe
      clear hxe he
      rcases (show k = 0 ∨ k = 1 ∨ 2 ≤ k from by omega) with rfl | rfl | h2
      · have hn : n = 0 := by
          have := hR.out
          simpa [val] using this
        have HN := Aside0.mk hn
        clear hn
        go_wp2
        go_round
        case rel => exact ⟨1, _, by omega, rfl, rfl, ⟨by rw [HN.out, or_zero _ hbx, show min 1 2 = 1 from rfl, val_take_one hlt, HXE.out]⟩⟩
        case measure => simp [intOf]; omega
      · have hn : n = xs.getD 0 0 := by
          have := hR.out
          rwa [show min 1 2 = 1 from rfl, val_take_one (by omega)] at this
        have HN := Aside0.mk hn
        clear hn
        go_wp2
        go_round
        case rel => exact ⟨2, _, by omega, rfl, rfl, ⟨by rw [HN.out, or_two _ _ (getD_ok HX.out.ok 0) hbx, show min 2 2 = 2 from rfl, val_take_two hlt, HXE.out]⟩⟩
        case measure => simp [intOf]; omega
      · go_wp2
        go_round
        case rel => exact ⟨k + 1, _, by omega, by go_num, rfl, ⟨by rw [hR.out, show min k 2 = 2 from by omega, show min (k + 1) 2 = 2 from by omega]⟩⟩
        case measure => simp [intOf]; omega
    · have hn : n = val (xs.take 2) := by
        rw [hR.out]
        obtain rfl : k = xs.length := by omega
        rcases Nat.lt_or_ge xs.length 2 with h | h
        · rw [show min xs.length 2 = xs.length from by omega, List.take_of_length_le (Nat.le_refl _), List.take_of_length_le (by omega)]
        · rw [show min xs.length 2 = 2 from by omega]
      have HN := Aside0.mk hn
      clear hn
      cases nx
      · go_wp2
        go_ret
        exact ⟨by rw [bval, if_neg (by decide), ← HN.out]; rfl, rfl⟩
      · go_wp2
        go_ret
        exact ⟨by rw [bval, if_pos rfl, ← HN.out, ← wrap_neg]; rfl, rfl⟩

/-- The low 64 bits of a number, as an int64; it is the number itself where this is one. -/
theorem int64_calls (x : Nat) (n : Int) (m : Nat) (w : World) (hx : Big w x n m) (hm : m ≤ 1000000) :
    ∃ t, (-9223372036854775808 ≤ t ∧ t ≤ 9223372036854775807) ∧ ((-9223372036854775808 ≤ n ∧ n ≤ 9223372036854775807) → t = n) ∧
      Calls Try.prog 37 #[.pointer (some ⟨x, 0, none⟩)] w fun e w' => e = .returned (.int .i64 t) ∧ w' = w := by
  obtain ⟨nx, xs, A, c, hxo, rfl, hlx⟩ := hx.opd hm
  refine ⟨_, ?_, ?_, int64_walk x nx xs A c w hxo⟩
  · unfold wrap64
    omega
  · intro h
    have h0 := val_nonneg hxo.ok
    have hv : val xs < 4294967296 ^ 2 := by
      have e : (4294967296 : Int) ^ 2 = 18446744073709551616 := by decide
      rw [e]
      cases nx <;> simp only [bval, Bool.false_eq_true, if_false, if_true] at h <;> omega
    rw [List.take_of_length_le (tight_length hxo.ok hxo.ti hv)]
    exact w64s h.1 h.2

def fits64 (n : Int) : Bool := decide (-9223372036854775808 ≤ n) && decide (n ≤ 9223372036854775807)
set_option maxHeartbeats 1000000 in
theorem isInt64_calls (x : Nat) (n : Int) (m : Nat) (w : World) (hx : Big w x n m) (hm : m ≤ 1000000) :
    Calls Try.prog 36 #[.pointer (some ⟨x, 0, none⟩)] w fun e w' => e = .returned (.bool (fits64 n)) ∧ Below w.heap.size w w' := by
  obtain ⟨t, ht, hf, hc⟩ := int64_calls x n m w hx hm
  have HX := Aside0.mk hx
  have HC := Aside0.mk hc
  have hb : (sgn (n - t) == 0) = fits64 n := by
    by_cases h : -9223372036854775808 ≤ n ∧ n ≤ 9223372036854775807
    · rw [hf h, Int.sub_self]
      simp [sgn, fits64, h]
    · have h1 : fits64 n = false := by
        simp only [fits64, Bool.and_eq_false_iff, decide_eq_false_iff_not]
        omega
      rw [h1]
      simp only [sgn]
      split
      · rfl
      · rw [if_neg (by omega)]
        rfl
  have HB := Aside0.mk hb
  have HT := Aside0.mk ht
  clear hx hc hb hf ht
  go_enter Try.func36, Try.ntmps36
  go_wp2_with fail
  refine HC.out.mono ?_
  rintro e w' ⟨rfl, rfl⟩
  go_wp2_with fail
  refine (newBig_calls t _ HT.out.1 HT.out.2).mono ?_
  rintro e w2 ⟨rfl, hb2, hl2⟩
  have B2 := Aside0.mk hb2
  have L2 := Aside0.mk hl2
  have X2 := Aside0.mk (HX.out.below hl2)
  clear hb2 hl2
  go_wp2_with fail
  refine (cmp_calls _ _ _ _ _ _ _ X2.out hm B2.out (by omega)).mono ?_
  rintro e w3 ⟨rfl, hl3⟩
  have L3 := Aside0.mk (L2.out.trans (hl3.mono L2.out.size))
  clear hl3
  go_wp2
  go_ret
  exact ⟨by rw [← HB.out]; rfl, L3.out⟩
end Go.Proofs.Ytbmjakaoniegfaa.Big
