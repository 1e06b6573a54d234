/- The reference's bits, trailing zeros and shifts of whole numbers, as plain mathematics. Conditions: limbs in range, lengths to 10^6, shifts to 10^5. -/
import Derived.Test.YtbmjakaoniegfaaDoorPur3
import Derived.Test.YtbmjakaoniegfaaDoorMathM
import Derived.Test.YtbmjakaoniegfaaDoorBnd6
import Derived.Laws.Bits128
import Derived.Test.YtbmjakaoniegfaaDoorX1
namespace Go.Proofs.YtbmjakaoniegfaaDoor.Pur
open Go.RowKit Go.Proofs.YtbmjakaoniegfaaDoor Go.Proofs.YtbmjakaoniegfaaDoor.Big Go.Proofs.YtbmjakaoniegfaaDoor.X Go.Proofs.YtbmjakaoniegfaaDoorW.PrintWords Go.Proofs.YtbmjakaoniegfaaDoorW.PrintLast Go.Proofs.YtbmjakaoniegfaaDoorW.PrintMore Go.Proofs.YtbmjakaoniegfaaDoor.Math
set_option linter.unusedVariables false
set_option linter.unusedSimpArgs false

theorem and_one (n : Int) : Go.bits .and .i64 n 1 = n % 2 := by
  have h127 : (BitVec.ofInt 64 1).toNat = 2 ^ 1 - 1 := by decide
  have key : (BitVec.ofInt 64 n &&& BitVec.ofInt 64 1).toNat = (n % ((2 ^ 64 : Nat) : Int)).toNat % 2 ^ 1 := by
    rw [BitVec.toNat_and, BitVec.toNat_ofInt, h127, Nat.and_two_pow_sub_one_eq_mod]
  show IntKind.i64.wrap ((BitVec.ofInt 64 n &&& BitVec.ofInt 64 1).toNat : Nat) = n % 2
  rw [key, IntKind.wrap_i64]
  omega
theorem shr_small (x : Int) {r : Nat} (hr : r < 64) : shr .i64 x (r : Int) = x / 2 ^ r := by
  unfold shr
  rw [Int.toNat_natCast, show min r (IntKind.bits .i64) = r from Nat.min_eq_left (Nat.le_of_lt hr)]
theorem shl_small {x : Int} {r : Nat} (hr : r ≤ 24) (h0 : 0 ≤ x) (h1 : x < 16777216) : shl .i64 x (r : Int) = x * 2 ^ r ∧ 0 ≤ x * 2 ^ r ∧ x * 2 ^ r ≤ 281474976710656 := by
  have hp := two_pow_pos r
  have hq : (2 : Int) ^ r ≤ 16777216 := two_pow_le (s := 24) hr
  have h2 : 0 ≤ x * 2 ^ r := Int.mul_nonneg h0 (Int.le_of_lt hp)
  have h3 : x * 2 ^ r ≤ 16777215 * 16777216 := Int.mul_le_mul (by omega) hq (Int.le_of_lt hp) (by omega)
  unfold shl
  rw [Int.toNat_natCast, show min r (IntKind.bits .i64) = r from Nat.min_eq_left (Nat.le_trans hr (by decide))]
  generalize x * 2 ^ r = p at h2 h3 ⊢
  refine ⟨?_, h2, by omega⟩
  rw [IntKind.wrap_i64]
  omega
theorem left_num {carry x : Int} {r : Nat} (hr : r < 24) (hc : 0 ≤ carry ∧ carry < 16777216) (hx : 0 ≤ x ∧ x < 16777216) :
    wrap64 (Int.tdiv (wrap64 (carry + shl .i64 x (r : Int))) 16777216) = (carry + x * 2 ^ r) / 16777216 ∧ Int.tmod (wrap64 (carry + shl .i64 x (r : Int))) 16777216 = (carry + x * 2 ^ r) % 16777216 := by
  obtain ⟨e1, e2, e3⟩ := shl_small (r := r) (Nat.le_of_lt hr) hx.1 hx.2
  rw [e1]
  clear e1 hx hr
  generalize x * 2 ^ r = p at e2 e3 ⊢
  have f1 : wrap64 (carry + p) = carry + p := w64s (by omega) (by omega)
  have f2 : wrap64 ((carry + p) / 16777216) = (carry + p) / 16777216 := w64s (by omega) (by omega)
  have f0 : 0 ≤ carry + p := by omega
  have f3 := tdm f0
  rw [f1, f3.1, f3.2, f2]
  exact ⟨rfl, rfl⟩
theorem cut_num {a b : Int} {r : Nat} (hr : r < 24) (ha : 0 ≤ a ∧ a < 16777216) (hb : 0 ≤ b ∧ b < 16777216) :
    Int.tmod (wrap64 (shr .i64 a (r : Int) + shl .i64 b ((24 - r : Nat) : Int))) 16777216 = (a / 2 ^ r + b * 2 ^ (24 - r)) % 16777216 := by
  obtain ⟨e1, e2, e3⟩ := shl_small (r := 24 - r) (Nat.sub_le _ _) hb.1 hb.2
  have hs := cut_last hr ha
  rw [e1, shr_small a (by omega)]
  clear e1 ha hb
  generalize b * 2 ^ (24 - r) = p at e2 e3 ⊢
  generalize a / 2 ^ r = o at hs ⊢
  have f1 : wrap64 (o + p) = o + p := w64s (by omega) (by omega)
  have f0 : 0 ≤ o + p := by omega
  rw [f1, (tdm f0).1]
theorem succ_i {i : Nat} (h : i ≤ 10000000) : wrap64 ((i : Int) + 1) = ((i + 1 : Nat) : Int) := by rw [w64s (by omega) (by omega)]; omega
theorem qr {k : Nat} (hk : k ≤ 1000000) : Int.tdiv (k : Int) 24 = ((k / 24 : Nat) : Int) ∧ Int.tmod (k : Int) 24 = ((k % 24 : Nat) : Int) ∧ wrap64 ((k / 24 : Nat) : Int) = ((k / 24 : Nat) : Int) ∧ IntKind.u64.wrap ((k % 24 : Nat) : Int) = ((k % 24 : Nat) : Int) := by
  refine ⟨?_, ?_, w64s (by omega) (by omega), ?_⟩
  · rw [Int.tdiv_eq_ediv_of_nonneg (by omega)]
    omega
  · rw [Int.tmod_eq_emod_of_nonneg (by omega)]
    omega
  · rw [wrapU]
    omega
theorem lpow_two_int (n : Nat) : (16777216 : Int) ^ n = 2 ^ (24 * n) := by
  rw [Int.pow_mul]
  rfl
theorem lv_small {l : List Int} (ol : Okl l) {k : Nat} (h : l.length ≤ k / 24) : lv l / 2 ^ k = 0 := by
  refine Int.ediv_eq_zero_of_lt (lv_nonneg ol) (Int.lt_of_lt_of_le (lv_lt ol) ?_)
  rw [lpow_two_int]
  exact two_pow_le (by omega)
theorem l02Bit (s : Int) {l : List Int} (ol : Okl l) (hl : l.length ≤ 1000000) {k : Nat} (hk : k ≤ 1000000) : spec_l02Bit.f s l (k : Int) = some ((lv l / 2 ^ k) % 2) := by
  obtain ⟨q1, q2, q3, q4⟩ := qr hk
  unfold spec_l02Bit.f
  rw [q1, q2, q3, q4]
  by_cases hq : k / 24 < l.length
  · have hlt : ((k / 24 : Nat) : Int) < (l.length : Int) := Int.ofNat_lt.2 hq
    rw [if_neg (Int.not_le.2 hlt), if_pos (Int.natCast_nonneg _), if_pos hlt, if_pos (Int.natCast_nonneg _), rd_cast, shr_small _ (by omega), and_one, limb_bit ol (k / 24) (r := k % 24) (by omega) hq, show 24 * (k / 24) + k % 24 = k from by omega]
  · rw [if_pos (show ((k / 24 : Nat) : Int) ≥ (l.length : Int) from Int.ofNat_le.2 (by omega)), lv_small ol (by omega)]
    rfl
theorem bit_nat {v : Int} (h : 0 ≤ v) (k : Nat) : (v / 2 ^ k) % 2 = ((v.toNat / 2 ^ k % 2 : Nat) : Int) := by
  obtain ⟨m, rfl⟩ := Int.eq_ofNat_of_zero_le h
  rw [Int.toNat_natCast, Int.natCast_emod, Int.natCast_ediv, Int.natCast_pow]
  rfl
theorem l02Twos_loop {s : Int} {l : List Int} (ol : Okl l) (hl : l.length ≤ 1000000) {t : Nat} (ht : IsTz (lv l).toNat t) (ht2 : t ≤ 100000) (d : Nat) : ∀ k, k + d = t → Ev (fun f => spec_l02Twos.l0 f (k : Int) s l) (t : Int) := by
  have h0 := lv_nonneg ol
  induction d with
  | zero =>
    intro k hk
    obtain rfl : k = t := by omega
    have hb := l02Bit s ol hl (k := k) (by omega)
    rw [bit_nat h0, ht.o] at hb
    exact Ev.step (g := fun _ => some (k : Int)) (fun f => by simp only [spec_l02Twos.l0, hb, Option.bind_some]; rw [if_neg (by decide)]) (Ev.now _)
  | succ d ih =>
    intro k hk
    have hb := l02Bit s ol hl (k := k) (by omega)
    have h1 := mod_pow_dvd ht.z (show k + 1 ≤ t from by omega)
    have h2 := mod_pow_dvd ht.z (show k ≤ t from by omega)
    rw [Nat.mod_pow_succ, h2, Nat.zero_add] at h1
    have h3 : (lv l).toNat / 2 ^ k % 2 = 0 := by
      rcases Nat.mul_eq_zero.1 h1 with g | g
      · have := Nat.two_pow_pos k
        rw [g] at this
        exact absurd this (Nat.lt_irrefl 0)
      · exact g
    rw [bit_nat h0, h3] at hb
    have hw : wrap64 ((k : Int) + 1) = ((k + 1 : Nat) : Int) := by rw [w64s (by omega) (by omega)]; omega
    exact Ev.step (fun f => by simp only [spec_l02Twos.l0, hb, Option.bind_some]; rw [if_pos (by rfl), hw]) (ih (k + 1) (by omega))
theorem l02Twos {s : Int} {l : List Int} (hw : isW s l = true) (hs : s ≠ 0) : Ev (fun k => spec_l02Twos.f k s l) (tz (wv s l) : Int) := by
  have hc := isW_cw hw
  have hlt := tz_isW hw hs
  have hlen := isW_len hw
  have hp := lv_pos hc.ok hc.ti (isW_ne hw hs)
  have e : tz (wv s l) = ctz (lv l).toNat := by rw [tz, hc.natAbs]
  rw [e] at hlt ⊢
  unfold spec_l02Twos.f
  exact l02Twos_loop hc.ok (by omega) (ctz_spec (by omega)) (by omega) (ctz (lv l).toNat) 0 (by omega)
end Go.Proofs.YtbmjakaoniegfaaDoor.Pur
