/- The reference's sums, differences and products of whole numbers, as plain mathematics. Conditions: limbs in range, lengths to 10^6. -/
import Derived.Test.YtdbdhgimokaooaaDoorPurA
import Derived.Test.YtdbdhgimokaooaaDoorMathM
import Derived.Test.YtdbdhgimokaooaaDoorG6
import Derived.Test.YtdbdhgimokaooaaDoorG17
import Derived.Laws.Bits128
import Derived.Test.YtdbdhgimokaooaaDoorG27
/- The reference's bits, trailing zeros and shifts of whole numbers, as plain mathematics. Conditions: limbs in range, lengths to 10^6, shifts to 10^5. -/
namespace Go.Proofs.YtdbdhgimokaooaaDoor.Pur
open Go.RowKit Go.Proofs.YtdbdhgimokaooaaDoor Go.Proofs.YtdbdhgimokaooaaDoor.Big Go.Proofs.YtdbdhgimokaooaaDoor.X Go.Proofs.YtdbdhgimokaooaaDoorW.PrintWords Go.Proofs.YtdbdhgimokaooaaDoorW.PrintLast Go.Proofs.YtdbdhgimokaooaaDoor.Math
set_option linter.unusedVariables false
set_option linter.unusedSimpArgs false
theorem cn_zero : cn 0 = (0, []) := by simp [cn, sgn, limbs_zero]
theorem lv_zero_getD {l : List Int} (ol : Okl l) (h : lv l = 0) : ∀ n, l.getD n 0 = 0 := by
 induction l with
 | nil => intro n; simp
 | cons x xs ih =>
  have h1 := ol.head
  have h2 := lv_nonneg ol.tail
  simp only [lv] at h
  intro n
  cases n with
  | zero => simp only [List.getD_cons_zero]; omega
  | succ n => rw [List.getD_cons_succ]; exact ih ol.tail (by omega) n
theorem l02Make_zero_loop {s : Int} {l : List Int} (hz : ∀ n, l.getD n 0 = 0) (hl : l.length ≤ 1000000000) (n : Nat) : ∀ k, n ≤ l.length → n < k → spec_l02Make.l0 k s l (n : Int) = some (0, []) := by
 induction n with
 | zero =>
  intro k h0 hk
  obtain ⟨k, rfl⟩ : ∃ m, k = m + 1 := ⟨k - 1, by omega⟩
  simp only [spec_l02Make.l0]
  rw [if_neg (by omega), if_pos (by omega)]
 | succ n ih =>
  intro k h0 hk
  obtain ⟨k, rfl⟩ : ∃ m, k = m + 1 := ⟨k - 1, by omega⟩
  simp only [spec_l02Make.l0]
  rw [if_pos (by omega), w64s (by omega) (by omega), show ((n + 1 : Nat) : Int) - 1 = (n : Int) from by omega, if_pos (by omega), if_pos (by omega), rd_cast, if_pos (hz n)]
  exact ih k (by omega) (by omega)
theorem l02Make_zero {s : Int} {l : List Int} (ol : Okl l) (h : lv l = 0) (hl : l.length ≤ 1000000000) : Ev (fun k => spec_l02Make.f k s l) (cn 0) := by
 rw [cn_zero]
 refine ⟨l.length + 1, fun k hk => ?_⟩
 show spec_l02Make.f k s l = _
 unfold spec_l02Make.f
 exact l02Make_zero_loop (lv_zero_getD ol h) hl l.length k (Nat.le_refl _) (by omega)
theorem tdm {t : Int} (h : 0 ≤ t) : Int.tmod t 16777216 = t % 16777216 ∧ Int.tdiv t 16777216 = t / 16777216 := ⟨Int.tmod_eq_emod_of_nonneg h, Int.tdiv_eq_ediv_of_nonneg h⟩
end Go.Proofs.YtdbdhgimokaooaaDoor.Pur
namespace Go.Proofs.YtdbdhgimokaooaaDoor.Pur
open Go.RowKit Go.Proofs.YtdbdhgimokaooaaDoor Go.Proofs.YtdbdhgimokaooaaDoor.Big Go.Proofs.YtdbdhgimokaooaaDoor.X Go.Proofs.YtdbdhgimokaooaaDoorW.PrintWords Go.Proofs.YtdbdhgimokaooaaDoorW.PrintLast Go.Proofs.YtdbdhgimokaooaaDoorW.PrintMore Go.Proofs.YtdbdhgimokaooaaDoor.Math
set_option linter.unusedVariables false
set_option linter.unusedSimpArgs false
theorem and_one (n : Int) : Go.bits .and .i64 n 1 = n % 2 := by
 have h127 : (BitVec.ofInt 64 1).toNat = 2 ^ 1 - 1 := by decide
 have key : (BitVec.ofInt 64 n &&& BitVec.ofInt 64 1).toNat = (n % ((2 ^ 64 : Nat) : Int)).toNat % 2 ^ 1 := by
  rw [BitVec.toNat_and, BitVec.toNat_ofInt, h127, Nat.and_two_pow_sub_one_eq_mod]
 show IntKind.i64.wrap ((BitVec.ofInt 64 n &&& BitVec.ofInt 64 1).toNat : Nat) = n % 2
 rw [key, IntKind.wrap_i64]
 omega
theorem shr_small (x : Int) {r : Nat} (hr : r < 64) : shr .i64 x (r : Int) = x / 2 ^ r := by
 unfold shr
 rw [Int.toNat_natCast, show min r (IntKind.bits .i64) = r from Nat.min_eq_left (Nat.le_of_lt hr)]
theorem shl_small {x : Int} {r : Nat} (hr : r ≤ 24) (h0 : 0 ≤ x) (h1 : x < 16777216) : shl .i64 x (r : Int) = x * 2 ^ r ∧ 0 ≤ x * 2 ^ r ∧ x * 2 ^ r ≤ 281474976710656 := by
 have hp := two_pow_pos r
 have hq : (2 : Int) ^ r ≤ 16777216 := two_pow_le (s := 24) hr
 have h2 : 0 ≤ x * 2 ^ r := Int.mul_nonneg h0 (Int.le_of_lt hp)
 have h3 : x * 2 ^ r ≤ 16777215 * 16777216 := Int.mul_le_mul (by omega) hq (Int.le_of_lt hp) (by omega)
 unfold shl
 rw [Int.toNat_natCast, show min r (IntKind.bits .i64) = r from Nat.min_eq_left (Nat.le_trans hr (by decide))]
 generalize x * 2 ^ r = p at h2 h3 ⊢
 refine ⟨?_, h2, by omega⟩
 rw [IntKind.wrap_i64]
 omega
theorem cut_num {a b : Int} {r : Nat} (hr : r < 24) (ha : 0 ≤ a ∧ a < 16777216) (hb : 0 ≤ b ∧ b < 16777216) :
  Int.tmod (wrap64 (shr .i64 a (r : Int) + shl .i64 b ((24 - r : Nat) : Int))) 16777216 = (a / 2 ^ r + b * 2 ^ (24 - r)) % 16777216 := by
 obtain ⟨e1, e2, e3⟩ := shl_small (r := 24 - r) (Nat.sub_le _ _) hb.1 hb.2
 have hs := cut_last hr ha
 rw [e1, shr_small a (by omega)]
 clear e1 ha hb
 generalize b * 2 ^ (24 - r) = p at e2 e3 ⊢
 generalize a / 2 ^ r = o at hs ⊢
 have f1 : wrap64 (o + p) = o + p := w64s (by omega) (by omega)
 have f0 : 0 ≤ o + p := by omega
 rw [f1, (tdm f0).1]
theorem succ_i {i : Nat} (h : i ≤ 10000000) : wrap64 ((i : Int) + 1) = ((i + 1 : Nat) : Int) := by rw [w64s (by omega) (by omega)]; omega
theorem qr {k : Nat} (hk : k ≤ 1000000) : Int.tdiv (k : Int) 24 = ((k / 24 : Nat) : Int) ∧ Int.tmod (k : Int) 24 = ((k % 24 : Nat) : Int) ∧ wrap64 ((k / 24 : Nat) : Int) = ((k / 24 : Nat) : Int) ∧ IntKind.u64.wrap ((k % 24 : Nat) : Int) = ((k % 24 : Nat) : Int) := by
 refine ⟨?_, ?_, w64s (by omega) (by omega), ?_⟩
 ·rw [Int.tdiv_eq_ediv_of_nonneg (by omega)]
  omega
 ·rw [Int.tmod_eq_emod_of_nonneg (by omega)]
  omega
 ·rw [wrapU]
  omega
theorem lpow_two_int (n : Nat) : (16777216 : Int) ^ n = 2 ^ (24 * n) := by
 rw [Int.pow_mul]
 rfl
theorem lv_small {l : List Int} (ol : Okl l) {k : Nat} (h : l.length ≤ k / 24) : lv l / 2 ^ k = 0 := by
 refine Int.ediv_eq_zero_of_lt (lv_nonneg ol) (Int.lt_of_lt_of_le (lv_lt ol) ?_)
 rw [lpow_two_int]
 exact two_pow_le (by omega)
theorem l02Bit (s : Int) {l : List Int} (ol : Okl l) (hl : l.length ≤ 1000000) {k : Nat} (hk : k ≤ 1000000) : spec_l02Bit.f s l (k : Int) = some ((lv l / 2 ^ k) % 2) := by
 obtain ⟨q1, q2, q3, q4⟩ := qr hk
 unfold spec_l02Bit.f
 rw [q1, q2, q3, q4]
 by_cases hq : k / 24 < l.length
 ·have hlt : ((k / 24 : Nat) : Int) < (l.length : Int) := Int.ofNat_lt.2 hq
  rw [if_neg (Int.not_le.2 hlt), if_pos (Int.natCast_nonneg _), if_pos hlt, if_pos (Int.natCast_nonneg _), rd_cast, shr_small _ (by omega), and_one, limb_bit ol (k / 24) (r := k % 24) (by omega) hq, show 24 * (k / 24) + k % 24 = k from by omega]
 ·rw [if_pos (show ((k / 24 : Nat) : Int) ≥ (l.length : Int) from Int.ofNat_le.2 (by omega)), lv_small ol (by omega)]
  rfl
theorem bit_nat {v : Int} (h : 0 ≤ v) (k : Nat) : (v / 2 ^ k) % 2 = ((v.toNat / 2 ^ k % 2 : Nat) : Int) := by
 obtain ⟨m, rfl⟩ := Int.eq_ofNat_of_zero_le h
 rw [Int.toNat_natCast, Int.natCast_emod, Int.natCast_ediv, Int.natCast_pow]
 rfl
theorem l02Twos_loop {s : Int} {l : List Int} (ol : Okl l) (hl : l.length ≤ 1000000) {t : Nat} (ht : IsTz (lv l).toNat t) (ht2 : t ≤ 100000) (d : Nat) : ∀ k, k + d = t → Ev (fun f => spec_l02Twos.l0 f (k : Int) s l) (t : Int) := by
 have h0 := lv_nonneg ol
 induction d with
 | zero =>
  intro k hk
  obtain rfl : k = t := by omega
  have hb := l02Bit s ol hl (k := k) (by omega)
  rw [bit_nat h0, ht.o] at hb
  exact Ev.step (g := fun _ => some (k : Int)) (fun f => by simp only [spec_l02Twos.l0, hb, Option.bind_some]; rw [if_neg (by decide)]) (Ev.now _)
 | succ d ih =>
  intro k hk
  have hb := l02Bit s ol hl (k := k) (by omega)
  have h1 := mod_pow_dvd ht.z (show k + 1 ≤ t from by omega)
  have h2 := mod_pow_dvd ht.z (show k ≤ t from by omega)
  rw [Nat.mod_pow_succ, h2, Nat.zero_add] at h1
  have h3 : (lv l).toNat / 2 ^ k % 2 = 0 := by
   rcases Nat.mul_eq_zero.1 h1 with g | g
   ·have := Nat.two_pow_pos k
    rw [g] at this
    exact absurd this (Nat.lt_irrefl 0)
   ·exact g
  rw [bit_nat h0, h3] at hb
  have hw : wrap64 ((k : Int) + 1) = ((k + 1 : Nat) : Int) := by rw [w64s (by omega) (by omega)]; omega
  exact Ev.step (fun f => by simp only [spec_l02Twos.l0, hb, Option.bind_some]; rw [if_pos (by rfl), hw]) (ih (k + 1) (by omega))
theorem l02Make_any {s : Int} {l : List Int} (hs : -1 ≤ s ∧ s ≤ 1) (hz : s = 0 → lv l = 0) (ol : Okl l) (hl : l.length ≤ 1000000000) : Ev (fun k => spec_l02Make.f k s l) (cn (s * lv l)) := by
 by_cases e : s = 0
 ·have := hz e
  rw [this, Int.mul_zero]
  exact l02Make_zero ol this hl
 ·exact l02Make (by omega) ol hl
theorem l02Cut_loop {s : Int} {l : List Int} (h : CW s l) (hl : l.length ≤ 1000000) {k : Nat} (hk : k ≤ 100000) (d : Nat) : ∀ (i : Nat) (ds : List Int), k / 24 ≤ i → i ≤ 10000000 → l.length - i = d → CutRel l (k % 24) (k / 24) i ds →
  Ev (fun f => spec_l02Cut.l0 f (k : Int) ds (i : Int) s l) (cn (s * (lv l / 2 ^ k))) := by
 obtain ⟨q1, q2, q3, q4⟩ := qr (show k ≤ 1000000 from by omega)
 have hr : k % 24 < 24 := by omega
 have hkk : 24 * (k / 24) + k % 24 = k := by omega
 have hq : k / 24 ≤ 100000 := by omega
 have hs := h.sign
 have hlenr : IntKind.u64.wrap (wrap64 (24 - ((k % 24 : Nat) : Int))) = ((24 - k % 24 : Nat) : Int) := by
  rw [w64s (by omega) (by omega), wrapU]
  omega
 have Q2 := Aside0.mk q2
 have Q4 := Aside0.mk q4
 have HLR := Aside0.mk hlenr
 clear q1 q2 q3 q4 hlenr
 generalize k % 24 = r at *
 generalize k / 24 = q at *
 induction d with
 | zero =>
  intro i ds hqi hi0 hd hrel
  have hlen : ds.length ≤ 1000000000 := by rw [hrel.len]; omega
  have hv := hrel.done h.ok (show l.length ≤ i from by omega)
  rw [hkk] at hv
  refine Ev.step (g := fun f => (spec_l02Make.f f s ds).bind fun bt285 => (some (bt285.1, bt285.2))) (fun f => by simp only [spec_l02Cut.l0]; rw [if_neg (Int.not_lt.2 (Int.ofNat_le.2 (by omega)))]) ?_
  rw [← hv]
  exact Ev.bind (f := fun _ bt => some (bt.1, bt.2)) (l02Make_any hs (fun e => by have := h.szero.1 e; rw [hv, this]; simp [lv]) hrel.ok hlen) (Ev.now _)
 | succ d ih =>
  intro i ds hqi hi0 hd hrel
  have hi : i < l.length := by omega
  have hlen : ds.length < 17592186044416 := by rw [hrel.len]; omega
  have hw := succ_i hi0
  have hd2 : l.length - (i + 1) = d := by omega
  have hi1 : i + 1 ≤ 10000000 := by omega
  have hq1 : q ≤ i + 1 := Nat.le_succ_of_le hqi
  have hx := okl_getD h.ok i
  have hy := okl_getD h.ok (i + 1)
  by_cases hi2 : i + 1 < l.length
  ·have hn := cut_num hr hx hy
   have := ih (i + 1) _ hq1 hi1 hd2 (hrel.step h.ok hr hqi hi2)
   refine Ev.step (fun f => ?_) this
   simp only [spec_l02Cut.l0]
   rw [if_pos (Int.ofNat_lt.2 hi), if_pos (Int.natCast_nonneg _), Q2.out, Q4.out, if_pos (Int.natCast_nonneg _), hw, if_pos (Int.ofNat_lt.2 hi2), if_pos (Int.natCast_nonneg _), HLR.out, if_pos (Int.natCast_nonneg _), if_pos hlen, rd_cast, rd_cast, hn]
  ·have hil : i + 1 = l.length := Nat.le_antisymm hi (Nat.le_of_not_lt hi2)
   have hr64 : r < 64 := Nat.lt_trans hr (by decide)
   have := ih (i + 1) _ hq1 hi1 hd2 (hrel.last h.ok hr hqi hil)
   refine Ev.step (fun f => ?_) this
   simp only [spec_l02Cut.l0]
   rw [if_pos (Int.ofNat_lt.2 hi), if_pos (Int.natCast_nonneg _), Q2.out, Q4.out, if_pos (Int.natCast_nonneg _), hw, if_neg (Int.not_lt.2 (Int.ofNat_le.2 (Nat.le_of_eq hil.symm))), if_pos hlen, rd_cast, shr_small _ hr64]
theorem l02Cut {s : Int} {l : List Int} (h : CW s l) (hl : l.length ≤ 1000000) {k : Nat} (hk : k ≤ 100000) : Ev (fun f => spec_l02Cut.f f s l (k : Int)) (cn (s * (lv l / 2 ^ k))) := by
 obtain ⟨q1, q2, q3, q4⟩ := qr (show k ≤ 1000000 from by omega)
 unfold spec_l02Cut.f
 simp only [q1, q3]
 exact l02Cut_loop h hl hk _ (k / 24) [] (Nat.le_refl _) (by omega) rfl (CutRel.start _ _ _)
end Go.Proofs.YtdbdhgimokaooaaDoor.Pur
