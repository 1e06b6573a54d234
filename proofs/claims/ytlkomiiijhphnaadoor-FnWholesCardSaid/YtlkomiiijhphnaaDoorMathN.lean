/- Division of numbers in digits of 2^32: by one digit, and by Knuth's algorithm D. No conditions. -/
import Derived.Test.YtlkomiiijhphnaaDoorMathM
/- The mathematics of the reference's long division, bit after bit. Plain Lean; no program. -/
/- Square roots and greatest common divisors as mathematics: Newton's way, bit after bit, Euclid's way and by halves. Plain Lean; no program. -/
/- The long division's beginning and end: divisor and dividend moved up. Plain Lean; no program. -/
namespace Go.Proofs.YtlkomiiijhphnaaDoor.Math
open Go.RowKit
set_option linter.unusedVariables false
set_option linter.unusedSimpArgs false
structure ShortRel (xs : List Int) (b : Int) (k : Nat) (rest : Int) (os : List Int) : Prop where
 len : os.length = xs.length
 ok : Okd os
 lo : 0 ≤ rest ∧ rest < b
 eq : val (xs.drop k) = b * val (os.drop k) + rest
theorem ShortRel.start (xs : List Int) {b : Int} (h : 0 < b) : ShortRel xs b xs.length 0 (List.replicate xs.length 0) :=
 ⟨by simp, okd_replicate _, ⟨by omega, h⟩, by rw [List.drop_length, List.drop_of_length_le (by simp)]; simp [val]⟩
theorem drop_set_self {xs : List Int} {k : Nat} (h : k < xs.length) (x : Int) : (xs.set k x).drop k = x :: xs.drop (k + 1) := by
 rw [List.drop_eq_getElem_cons (by simpa using h), List.drop_set_of_lt (by omega)]
 simp
theorem ShortRel.step {xs : List Int} {b : Int} {k : Nat} {rest : Int} {os : List Int} (h : ShortRel xs b (k + 1) rest os) (ox : Okd xs) (hk : k < xs.length) {t : Int} (ht : t = rest * 4294967296 + xs.getD k 0) :
  ShortRel xs b k (t % b) (os.set k (t / b)) ∧ (0 ≤ t ∧ t < b * 4294967296) ∧ (0 ≤ t / b ∧ t / b < 4294967296) := by
 have h0 := getD_ok ox k
 have hl := h.lo
 have t0 : 0 ≤ t := by omega
 have t1 : t < b * 4294967296 := by omega
 have q0 : 0 ≤ t / b := Int.ediv_nonneg t0 (by omega)
 have q1 : t / b < 4294967296 := Int.ediv_lt_of_lt_mul (by omega) (by rw [Int.mul_comm]; exact t1)
 have e := Int.mul_ediv_add_emod t b
 refine ⟨⟨by rw [List.length_set]; exact h.len, okd_set h.ok k ⟨q0, q1⟩, ⟨Int.emod_nonneg _ (by omega), Int.emod_lt_of_pos _ (by omega)⟩, ?_⟩, ⟨t0, t1⟩, q0, q1⟩
 rw [val_drop hk, drop_set_self (by rw [h.len]; exact hk), h.eq, val]
 generalize val (os.drop (k + 1)) = V
 generalize t / b = q at e ⊢
 generalize t % b = r at e ⊢
 grind
theorem ShortRel.done {xs : List Int} {b : Int} {rest : Int} {os : List Int} (h : ShortRel xs b 0 rest os) : val os = val xs / b ∧ rest = val xs % b := by
 have e := h.eq
 have hl := h.lo
 simp only [List.drop_zero] at e
 have := Int.ediv_emod_unique (a := val xs) (b := b) (r := rest) (q := val os) (by omega)
 exact ⟨(this.2 ⟨by omega, hl.1, hl.2⟩).1.symm, (this.2 ⟨by omega, hl.1, hl.2⟩).2.symm⟩
structure Est (W B top v1 q r : Int) : Prop where
 eq : top = q * v1 + r
 r0 : 0 ≤ r
 ge : W / B ≤ q
structure Tops (W B P top u2 v1 v2 : Int) : Prop where
 p : 0 < P
 w0 : (top * 4294967296 + u2) * P ≤ W
 w1 : W < (top * 4294967296 + u2 + 1) * P
 b0 : (v1 * 4294967296 + v2) * P ≤ B
 b1 : B < (v1 * 4294967296 + v2 + 1) * P
 u2 : 0 ≤ u2 ∧ u2 < 4294967296
 v2 : 0 ≤ v2 ∧ v2 < 4294967296
 v1 : 1 ≤ v1 ∧ v1 < 4294967296
 top : 0 ≤ top
 lt : W < B * 4294967296
theorem Tops.bpos {W B P top u2 v1 v2 : Int} (h : Tops W B P top u2 v1 v2) : 4294967296 * P ≤ B := by
 have h1 : 4294967296 * P ≤ (v1 * 4294967296 + v2) * P := Int.mul_le_mul_of_nonneg_right (by have := h.v1; have := h.v2; omega) (Int.le_of_lt h.p)
 exact Int.le_trans h1 h.b0
theorem Tops.w {W B P top u2 v1 v2 : Int} (h : Tops W B P top u2 v1 v2) : 0 ≤ W ∧ 0 < B := by
 have h1 := h.bpos
 have h2 := h.p
 have h3 : 0 ≤ (top * 4294967296 + u2) * P := Int.mul_nonneg (by have := h.top; have := h.u2; omega) (by omega)
 have h4 := h.w0
 omega
theorem Tops.start {W B P top u2 v1 v2 : Int} (h : Tops W B P top u2 v1 v2) : Est W B top v1 (top / v1) (top % v1) := by
 have hv := h.v1
 have e := Int.mul_ediv_add_emod top v1
 refine ⟨by rw [Int.mul_comm]; exact e.symm, Int.emod_nonneg _ (by omega), ?_⟩
 apply Int.le_ediv_of_mul_le (by omega)
 have hw := h.w
 have hq0 : 0 ≤ W / B := Int.ediv_nonneg hw.1 (by omega)
 have hq := Int.mul_ediv_self_le (x := W) (k := B) (by omega)
 generalize W / B = Q at hq hq0 ⊢
 have h1 : Q * (v1 * 4294967296 * P) ≤ Q * B := Int.mul_le_mul_of_nonneg_left (Int.le_trans (Int.mul_le_mul_of_nonneg_right (by have := h.v2; omega) (Int.le_of_lt h.p)) h.b0) hq0
 have h2 : W < (top + 1) * (4294967296 * P) := by
  refine Int.lt_of_lt_of_le h.w1 ?_
  have : (top * 4294967296 + u2 + 1) * P ≤ ((top + 1) * 4294967296) * P := Int.mul_le_mul_of_nonneg_right (by have := h.u2; omega) (Int.le_of_lt h.p)
  rwa [Int.mul_assoc] at this
 have h3 : (Q * v1) * (4294967296 * P) < (top + 1) * (4294967296 * P) := by
  have : (Q * v1) * (4294967296 * P) = Q * (v1 * 4294967296 * P) := by grind
  rw [this]
  have : Q * B = B * Q := Int.mul_comm _ _
  omega
 have h4 := Int.lt_of_mul_lt_mul_right h3 (by have := h.p; omega)
 omega
theorem Tops.small {W B P top u2 v1 v2 : Int} (h : Tops W B P top u2 v1 v2) : W / B < 4294967296 ∧ top < (v1 + 1) * 4294967296 := by
 have hw := h.w
 refine ⟨Int.ediv_lt_of_lt_mul hw.2 (by rw [Int.mul_comm]; exact h.lt), ?_⟩
 have h1 : top * 4294967296 * P ≤ W := Int.le_trans (Int.mul_le_mul_of_nonneg_right (by have := h.u2; omega) (Int.le_of_lt h.p)) h.w0
 have h2 : B ≤ (v1 + 1) * 4294967296 * P := by
  refine Int.le_trans (Int.le_of_lt h.b1) (Int.mul_le_mul_of_nonneg_right (by have := h.v2; omega) (Int.le_of_lt h.p))
 have h3 : top * (4294967296 * P) < ((v1 + 1) * 4294967296) * (4294967296 * P) := by
  have e1 : top * (4294967296 * P) = top * 4294967296 * P := by grind
  have e2 : ((v1 + 1) * 4294967296) * (4294967296 * P) = (v1 + 1) * 4294967296 * P * 4294967296 := by grind
  have := h.lt
  rw [e1, e2]
  omega
 exact Int.lt_of_mul_lt_mul_right h3 (by have := h.p; omega)
theorem Est.down {W B P top u2 v1 v2 q r : Int} (h : Est W B top v1 q r) (t : Tops W B P top u2 v1 v2) (hc : 4294967296 ≤ q ∨ r * 4294967296 + u2 < q * v2) : Est W B top v1 (q - 1) (r + v1) := by
 refine ⟨by have := h.eq; grind, by have := h.r0; have := t.v1; omega, ?_⟩
 have hg := h.ge
 rcases hc with hc | hc
 ·have := t.small.1
  omega
 ·have hw := t.w
  have hq0 : 0 ≤ W / B := Int.ediv_nonneg hw.1 (by omega)
  have h1 : top * 4294967296 + u2 + 1 ≤ q * (v1 * 4294967296 + v2) := by
   have e := h.eq
   have : q * (v1 * 4294967296 + v2) = q * v1 * 4294967296 + q * v2 := by grind
   omega
  have h2 : W < q * B := by
   refine Int.lt_of_lt_of_le t.w1 ?_
   refine Int.le_trans (Int.mul_le_mul_of_nonneg_right h1 (Int.le_of_lt t.p)) ?_
   rw [Int.mul_assoc]
   exact Int.mul_le_mul_of_nonneg_left t.b0 (by omega)
  have := Int.ediv_lt_of_lt_mul hw.2 h2
  omega
theorem Est.stop {W B P top u2 v1 v2 q r : Int} (h : Est W B top v1 q r) (t : Tops W B P top u2 v1 v2) (hc : 4294967296 ≤ r ∨ q < 4294967296 ∧ q * v2 ≤ r * 4294967296 + u2) : (0 ≤ q ∧ q < 4294967296) ∧ (q = W / B ∨ q = W / B + 1) := by
 have hw := t.w
 have hq0 : 0 ≤ W / B := Int.ediv_nonneg hw.1 (by omega)
 have hg := h.ge
 have hc2 : q < 4294967296 ∧ q * v2 ≤ r * 4294967296 + u2 := by
  rcases hc with hc | hc
  ·have h1 := t.small.2
   have e := h.eq
   have h2 : q * v1 < 4294967296 * v1 := by omega
   have h3 := Int.lt_of_mul_lt_mul_right h2 (by have := t.v1; omega)
   refine ⟨h3, ?_⟩
   have h4 : q * v2 ≤ 4294967296 * v2 := Int.mul_le_mul_of_nonneg_right (by omega) t.v2.1
   have := t.v2
   have := t.u2
   omega
  ·exact hc
 obtain ⟨c1, c2⟩ := hc2
 refine ⟨⟨by omega, c1⟩, ?_⟩
 have h1 : q * (v1 * 4294967296 + v2) ≤ top * 4294967296 + u2 := by
  have e := h.eq
  have : q * (v1 * 4294967296 + v2) = q * v1 * 4294967296 + q * v2 := by grind
  omega
 have h2 : q * ((v1 * 4294967296 + v2) * P) ≤ W := by
  rw [← Int.mul_assoc]
  exact Int.le_trans (Int.mul_le_mul_of_nonneg_right h1 (Int.le_of_lt t.p)) t.w0
 have h3 : q * B ≤ q * ((v1 * 4294967296 + v2) * P) + q * P := by
  rw [← Int.mul_add]
  refine Int.mul_le_mul_of_nonneg_left ?_ (by omega)
  have := t.b1
  have : (v1 * 4294967296 + v2 + 1) * P = (v1 * 4294967296 + v2) * P + P := by grind
  omega
 have h4 : q * P ≤ 4294967296 * P := Int.mul_le_mul_of_nonneg_right (by omega) (Int.le_of_lt t.p)
 have h5 := t.bpos
 have h6 : (q - 1) * B ≤ W := by
  have : (q - 1) * B = q * B - B := by grind
  omega
 have h7 := Int.le_ediv_of_mul_le hw.2 h6
 omega
theorem take_set_ge {xs : List Int} {j k : Nat} (h : j ≤ k) (x : Int) : (xs.set k x).take j = xs.take j := List.take_set_of_le h
structure KSub (us vs : List Int) (q : Int) (j i : Nat) (carry lent : Int) (ws : List Int) : Prop where
 len : ws.length = us.length
 ok : Okd ws
 lo : ws.take j = us.take j
 hi : ws.drop (j + i) = us.drop (j + i)
 c : 0 ≤ carry ∧ carry < 4294967296
 l : 0 ≤ lent ∧ lent ≤ 1
 eq : val ws = val us - 4294967296 ^ j * (q * val (vs.take i)) + 4294967296 ^ (j + i) * (carry + lent)
theorem KSub.start {us : List Int} (ou : Okd us) (vs : List Int) (q : Int) (j : Nat) : KSub us vs q j 0 0 0 us :=
 ⟨rfl, ou, rfl, rfl, by omega, by omega, by simp [val]⟩
theorem drop_succ_eq {us ws : List Int} {m k : Nat} (h : ws.drop m = us.drop m) (hk : m ≤ k) : ws.drop k = us.drop k := by
 have h1 : (ws.drop m).drop (k - m) = (us.drop m).drop (k - m) := by rw [h]
 rwa [List.drop_drop, List.drop_drop, show m + (k - m) = k from by omega] at h1
theorem KSub.step {us vs : List Int} {q : Int} {j i : Nat} {carry lent : Int} {ws : List Int} (h : KSub us vs q j i carry lent ws) (ov : Okd vs) (hq : 0 ≤ q ∧ q < 4294967296) (hi : i < vs.length) (hj : j + i < us.length)
  {t x b : Int} (ht : t = carry + q * vs.getD i 0) (hx : x = ws.getD (j + i) 0 - t % 4294967296 - lent) (hb : b = if x < 0 then 1 else 0) :
  KSub us vs q j (i + 1) (t / 4294967296) b (ws.set (j + i) (x % 4294967296)) := by
 have hv := getD_ok ov i
 have hw := getD_ok h.ok (j + i)
 have hc := h.c
 have hl := h.l
 have hm := mul_bound hq hv
 have hlen := h.len
 have e : x % 4294967296 = x + 4294967296 * b := by
  subst hb
  split <;> omega
 have hb2 : 0 ≤ b ∧ b ≤ 1 := by subst hb; split <;> omega
 refine ⟨by rw [List.length_set]; exact hlen, okd_set h.ok _ ⟨by omega, by omega⟩, by rw [take_set_ge (by omega)]; exact h.lo, ?_, ⟨by omega, by omega⟩, hb2, ?_⟩
 ·rw [show j + (i + 1) = j + i + 1 from rfl, List.drop_set_of_lt (by omega)]
  exact drop_succ_eq h.hi (by omega)
 ·rw [val_set (by omega), h.eq, val_take_succ hi, e, hx]
  have e2 : (4294967296 : Int) ^ (j + (i + 1)) = 4294967296 ^ (j + i) * 4294967296 := Int.pow_succ ..
  have e3 : (4294967296 : Int) ^ (j + i) = 4294967296 ^ j * 4294967296 ^ i := Int.pow_add ..
  have e4 : t % 4294967296 = t - 4294967296 * (t / 4294967296) := by omega
  rw [e2, e4, e3]
  generalize t / 4294967296 = c
  generalize (4294967296 : Int) ^ j = P
  generalize (4294967296 : Int) ^ i = Q
  generalize val (vs.take i) = V
  generalize vs.getD i 0 = y at ht
  generalize ws.getD (j + i) 0 = z
  subst ht
  grind
theorem KSub.top {us vs : List Int} {q : Int} {j : Nat} {carry lent : Int} {ws : List Int} (h : KSub us vs q j vs.length carry lent ws) (hj : j + vs.length < us.length)
  {x b : Int} (hx : x = ws.getD (j + vs.length) 0 - carry - lent) (hb : b = if x < 0 then 1 else 0) :
  Okd (ws.set (j + vs.length) (x % 4294967296)) ∧ (ws.set (j + vs.length) (x % 4294967296)).take j = us.take j ∧ (ws.set (j + vs.length) (x % 4294967296)).drop (j + vs.length + 1) = us.drop (j + vs.length + 1) ∧
  val (ws.set (j + vs.length) (x % 4294967296)) = val us - 4294967296 ^ j * (q * val vs) + 4294967296 ^ (j + vs.length + 1) * b := by
 have hw := getD_ok h.ok (j + vs.length)
 have hc := h.c
 have hl := h.l
 have hlen := h.len
 have e : x % 4294967296 = x + 4294967296 * b := by
  subst hb
  split <;> omega
 have hb2 : 0 ≤ b ∧ b ≤ 1 := by subst hb; split <;> omega
 refine ⟨okd_set h.ok _ ⟨by omega, by omega⟩, by rw [take_set_ge (by omega)]; exact h.lo, ?_, ?_⟩
 ·rw [List.drop_set_of_lt (by omega)]
  exact drop_succ_eq h.hi (by omega)
 ·rw [val_set (by omega), h.eq, e, hx, List.take_length]
  have e2 : (4294967296 : Int) ^ (j + vs.length + 1) = 4294967296 ^ (j + vs.length) * 4294967296 := Int.pow_succ ..
  rw [e2]
  generalize (4294967296 : Int) ^ j = P
  generalize (4294967296 : Int) ^ (j + vs.length) = Q
  generalize val vs = V
  generalize ws.getD (j + vs.length) 0 = z
  grind
structure KAdd (us vs : List Int) (j i : Nat) (carry : Int) (ws : List Int) : Prop where
 len : ws.length = us.length
 ok : Okd ws
 lo : ws.take j = us.take j
 hi : ws.drop (j + i) = us.drop (j + i)
 c : 0 ≤ carry ∧ carry ≤ 1
 eq : val ws = val us + 4294967296 ^ j * val (vs.take i) - 4294967296 ^ (j + i) * carry
theorem KAdd.start {us : List Int} (ou : Okd us) (vs : List Int) (j : Nat) : KAdd us vs j 0 0 us := ⟨rfl, ou, rfl, rfl, by omega, by simp [val]⟩
theorem KAdd.step {us vs : List Int} {j i : Nat} {carry : Int} {ws : List Int} (h : KAdd us vs j i carry ws) (ov : Okd vs) (hi : i < vs.length) (hj : j + i < us.length)
  {t : Int} (ht : t = carry + (ws.getD (j + i) 0 + vs.getD i 0)) : KAdd us vs j (i + 1) (t / 4294967296) (ws.set (j + i) (t % 4294967296)) := by
 have hv := getD_ok ov i
 have hw := getD_ok h.ok (j + i)
 have hc := h.c
 have hlen := h.len
 refine ⟨by rw [List.length_set]; exact hlen, okd_set h.ok _ ⟨by omega, by omega⟩, by rw [take_set_ge (by omega)]; exact h.lo, ?_, ⟨by omega, by omega⟩, ?_⟩
 ·rw [show j + (i + 1) = j + i + 1 from rfl, List.drop_set_of_lt (by omega)]
  exact drop_succ_eq h.hi (by omega)
 ·rw [val_set (by omega), h.eq, val_take_succ hi]
  have e2 : (4294967296 : Int) ^ (j + (i + 1)) = 4294967296 ^ (j + i) * 4294967296 := Int.pow_succ ..
  have e3 : (4294967296 : Int) ^ (j + i) = 4294967296 ^ j * 4294967296 ^ i := Int.pow_add ..
  have e4 : t % 4294967296 = t - 4294967296 * (t / 4294967296) := by omega
  rw [e2, e4, e3]
  generalize t / 4294967296 = c
  generalize (4294967296 : Int) ^ j = P
  generalize (4294967296 : Int) ^ i = Q
  generalize val (vs.take i) = V
  generalize vs.getD i 0 = y at ht
  generalize ws.getD (j + i) 0 = z at ht ⊢
  subst ht
  grind
theorem KAdd.top {us vs : List Int} {j : Nat} {carry : Int} {ws : List Int} (h : KAdd us vs j vs.length carry ws) (hj : j + vs.length < us.length)
  {x o : Int} (hx : x = ws.getD (j + vs.length) 0 + carry) (ho : o = x / 4294967296) :
  Okd (ws.set (j + vs.length) (x % 4294967296)) ∧ (ws.set (j + vs.length) (x % 4294967296)).take j = us.take j ∧ (ws.set (j + vs.length) (x % 4294967296)).drop (j + vs.length + 1) = us.drop (j + vs.length + 1) ∧
  val (ws.set (j + vs.length) (x % 4294967296)) = val us + 4294967296 ^ j * val vs - 4294967296 ^ (j + vs.length + 1) * o ∧ (0 ≤ o ∧ o ≤ 1) := by
 have hw := getD_ok h.ok (j + vs.length)
 have hc := h.c
 have hlen := h.len
 refine ⟨okd_set h.ok _ ⟨by omega, by omega⟩, by rw [take_set_ge (by omega)]; exact h.lo, ?_, ?_, by omega⟩
 ·rw [List.drop_set_of_lt (by omega)]
  exact drop_succ_eq h.hi (by omega)
 ·rw [val_set (by omega), h.eq, List.take_length]
  have e2 : (4294967296 : Int) ^ (j + vs.length + 1) = 4294967296 ^ (j + vs.length) * 4294967296 := Int.pow_succ ..
  have e4 : x % 4294967296 = x - 4294967296 * o := by omega
  rw [e2, e4, hx]
  generalize (4294967296 : Int) ^ j = P
  generalize (4294967296 : Int) ^ (j + vs.length) = Q
  generalize val vs = V
  generalize ws.getD (j + vs.length) 0 = z
  grind
structure KRel (U : Int) (vs us os : List Int) (j : Nat) : Prop where
 ok : Okd us
 oo : Okd os
 eq : U = val vs * (4294967296 ^ j * val (os.drop j)) + val us
 lt : val (us.drop j) < val vs
theorem val_take_drop (xs : List Int) {j : Nat} (h : j ≤ xs.length) : val xs = val (xs.take j) + 4294967296 ^ j * val (xs.drop j) := by
 have h1 := val_append (xs.take j) (xs.drop j)
 rwa [List.take_append_drop, List.length_take, Nat.min_eq_left h] at h1
theorem KRel.high {U : Int} {vs us os : List Int} {j : Nat} (h : KRel U vs us os (j + 1)) (ov : Okd vs) (hj : j < us.length) :
  val (us.drop (j + vs.length + 1)) = 0 ∧ 0 ≤ val (us.drop j) ∧ val (us.drop j) < val vs * 4294967296 := by
 have h0 := getD_ok h.ok j
 have h1 := h.lt
 have h2 := val_nonneg (okd_drop h.ok (j + 1))
 have h3 := val_lt ov
 have e := val_drop hj
 refine ⟨?_, by omega, by omega⟩
 have e2 : us.drop (j + vs.length + 1) = (us.drop (j + 1)).drop vs.length := by rw [List.drop_drop]; congr 1; omega
 rw [e2, val_split _ _ (okd_drop h.ok (j + 1))]
 exact Int.ediv_eq_zero_of_lt h2 (by omega)
theorem window {us ws : List Int} {j : Nat} {d : Int} (hj : j ≤ us.length) (hl : ws.length = us.length) (ht : ws.take j = us.take j) (he : val ws = val us + 4294967296 ^ j * d) : val (ws.drop j) = val (us.drop j) + d := by
 have h1 := val_take_drop us hj
 have h2 := val_take_drop ws (by omega : j ≤ ws.length)
 rw [ht] at h2
 have hp := pow_pos' j
 have : (4294967296 : Int) ^ j * val (ws.drop j) = 4294967296 ^ j * (val (us.drop j) + d) := by
  rw [Int.mul_add]
  omega
 exact Int.eq_of_mul_eq_mul_left (by omega) this
theorem window_lt {ws : List Int} {j n : Nat} (ok : Okd ws) (h : val (ws.drop (j + n + 1)) = 0) : 0 ≤ val (ws.drop j) ∧ val (ws.drop j) < 4294967296 ^ (n + 1) := by
 have h0 := val_nonneg (okd_drop ok j)
 refine ⟨h0, ?_⟩
 have e2 : ws.drop (j + n + 1) = (ws.drop j).drop (n + 1) := by rw [List.drop_drop]; congr 1
 rw [e2, val_split _ _ (okd_drop ok j)] at h
 have hp := pow_pos' (n + 1)
 have e3 := Int.mul_ediv_add_emod (val (ws.drop j)) (4294967296 ^ (n + 1))
 rw [h, Int.mul_zero, Int.zero_add] at e3
 rw [← e3]
 exact Int.emod_lt_of_pos _ hp
theorem div_of {W B Q R : Int} (hB : 0 < B) (e : W = B * Q + R) (h0 : 0 ≤ R) (h1 : R < B) : Q = W / B ∧ R = W % B := by
 have := Int.ediv_emod_unique (a := W) (b := B) (r := R) (q := Q) hB
 have h2 := this.2 ⟨by omega, h0, h1⟩
 exact ⟨h2.1.symm, h2.2.symm⟩
theorem KRel.right {U : Int} {vs us os ws : List Int} {j : Nat} {q : Int} (h : KRel U vs us os (j + 1)) (ov : Okd vs) (hj : j + vs.length < us.length) (hjo : j < os.length) (hq : 0 ≤ q ∧ q < 4294967296) (hv : 0 < val vs)
  (hq2 : q = val (us.drop j) / val vs ∨ q = val (us.drop j) / val vs + 1) (hl : ws.length = us.length) (ow : Okd ws) (ht : ws.take j = us.take j) (hd : ws.drop (j + vs.length + 1) = us.drop (j + vs.length + 1))
  (he : val ws = val us - 4294967296 ^ j * (q * val vs)) : KRel U vs ws (os.set j q) j := by
 obtain ⟨z, w0, w1⟩ := h.high ov (by omega)
 have hw := window (d := -(q * val vs)) (by omega) hl ht (by rw [he]; grind)
 have hn := window_lt (j := j) (n := vs.length) ow (by rw [hd]; exact z)
 have hqq : q = val (us.drop j) / val vs := by
  rcases hq2 with e | e
  ·exact e
  ·exfalso
   have h1 : q * val vs ≤ val (us.drop j) := by omega
   have := Int.le_ediv_of_mul_le hv h1
   omega
 have em := Int.mul_ediv_add_emod (val (us.drop j)) (val vs)
 have el := Int.emod_lt_of_pos (val (us.drop j)) hv
 rw [← hqq] at em
 have hmul : val vs * q = q * val vs := Int.mul_comm _ _
 refine ⟨ow, okd_set h.oo _ hq, ?_, by omega⟩
 rw [h.eq, drop_set_self hjo, val, he, Int.pow_succ]
 generalize (4294967296 : Int) ^ j = P
 generalize val (os.drop (j + 1)) = V
 generalize val vs = B
 generalize val us = X
 grind
theorem KRel.back {U : Int} {vs us os ws xs : List Int} {j : Nat} {q o : Int} (h : KRel U vs us os (j + 1)) (ov : Okd vs) (hj : j + vs.length < us.length) (hjo : j < os.length) (hq : 0 ≤ q ∧ q < 4294967296) (hv : 0 < val vs)
  (hq2 : q = val (us.drop j) / val vs ∨ q = val (us.drop j) / val vs + 1) (hl : ws.length = us.length) (ow : Okd ws) (ht : ws.take j = us.take j) (hd : ws.drop (j + vs.length + 1) = us.drop (j + vs.length + 1))
  (he : val ws = val us - 4294967296 ^ j * (q * val vs) + 4294967296 ^ (j + vs.length + 1))
  (hlx : xs.length = us.length) (ox : Okd xs) (htx : xs.take j = us.take j) (hdx : xs.drop (j + vs.length + 1) = us.drop (j + vs.length + 1))
  (hex : val xs = val ws + 4294967296 ^ j * val vs - 4294967296 ^ (j + vs.length + 1) * o) (ho : 0 ≤ o ∧ o ≤ 1) : 1 ≤ q ∧ KRel U vs xs (os.set j (q - 1)) j := by
 obtain ⟨z, w0, w1⟩ := h.high ov (by omega)
 have ep : (4294967296 : Int) ^ (j + vs.length + 1) = 4294967296 ^ j * 4294967296 ^ (vs.length + 1) := by rw [Nat.add_assoc]; exact Int.pow_add ..
 have hw := window (d := -(q * val vs) + 4294967296 ^ (vs.length + 1)) (by omega) hl ht (by rw [he, ep]; grind)
 have hn := window_lt (j := j) (n := vs.length) ow (by rw [hd]; exact z)
 have hwx := window (d := -(q * val vs) + 4294967296 ^ (vs.length + 1) + val vs - 4294967296 ^ (vs.length + 1) * o) (by omega) hlx htx (by rw [hex, he, ep]; grind)
 have hnx := window_lt (j := j) (n := vs.length) ox (by rw [hdx]; exact z)
 have hp := pow_pos' (vs.length + 1)
 have hq1 : q = val (us.drop j) / val vs + 1 := by
  rcases hq2 with e | e
  ·exfalso
   have h1 := Int.mul_ediv_self_le (x := val (us.drop j)) (k := val vs) (by omega)
   rw [← e, Int.mul_comm] at h1
   omega
  ·exact e
 have hQ0 : 0 ≤ val (us.drop j) / val vs := Int.ediv_nonneg w0 (by omega)
 have em := Int.mul_ediv_add_emod (val (us.drop j)) (val vs)
 have el := Int.emod_lt_of_pos (val (us.drop j)) hv
 have e0 := Int.emod_nonneg (val (us.drop j)) (show val vs ≠ 0 from by omega)
 have hq3 : val (us.drop j) / val vs = q - 1 := by omega
 rw [hq3] at em
 have hmul : val vs * (q - 1) = q * val vs - val vs := by grind
 have ho1 : o = 1 := by
  rcases (show o = 0 ∨ o = 1 from by omega) with e | e
  ·exfalso
   subst e
   rw [Int.mul_zero] at hwx
   omega
  ·exact e
 subst ho1
 rw [Int.mul_one] at hwx hex
 refine ⟨by omega, ox, okd_set h.oo _ ⟨by omega, by omega⟩, ?_, by omega⟩
 rw [h.eq, drop_set_self hjo, val, hex, he, Int.pow_succ]
 generalize (4294967296 : Int) ^ (j + vs.length + 1) = R
 generalize (4294967296 : Int) ^ j = P
 generalize val (os.drop (j + 1)) = V
 generalize val vs = B
 generalize val us = X
 grind
theorem KRel.done {U : Int} {vs us os : List Int} (h : KRel U vs us os 0) (hv : 0 < val vs) : val os = U / val vs ∧ val us = U % val vs := by
 have e := h.eq
 have h1 := h.lt
 simp only [Int.pow_zero, Int.one_mul, List.drop_zero] at e h1
 exact div_of hv e (val_nonneg h.ok) h1
theorem KRel.tops {U : Int} {vs us os : List Int} {j : Nat} (h : KRel U vs us os (j + 1)) (ov : Okd vs) (h2 : 2 ≤ vs.length) (hj : j + vs.length < us.length) (hv : vs.getD (vs.length - 1) 0 ≠ 0) :
  Tops (val (us.drop j)) (val vs) (4294967296 ^ (vs.length - 2)) (us.getD (j + vs.length) 0 * 4294967296 + us.getD (j + vs.length - 1) 0) (us.getD (j + vs.length - 2) 0) (vs.getD (vs.length - 1) 0) (vs.getD (vs.length - 2) 0) := by
 obtain ⟨z, w0, w1⟩ := h.high ov (by omega)
 obtain ⟨m, hm⟩ : ∃ m, vs.length = m + 2 := ⟨vs.length - 2, by omega⟩
 have hp := pow_pos' m
 have v1 := getD_ok ov (m + 1)
 have v2 := getD_ok ov m
 have u0 := getD_ok h.ok (j + m + 2)
 have u1 := getD_ok h.ok (j + m + 1)
 have u2 := getD_ok h.ok (j + m)
 have eu := val_take_drop (us.drop j) (j := m) (by rw [List.length_drop]; omega)
 have lu := val_lt (okd_take (okd_drop h.ok j) m)
 have nu := val_nonneg (okd_take (okd_drop h.ok j) m)
 rw [List.length_take, List.length_drop, Nat.min_eq_left (by omega)] at lu
 have du0 := val_drop (xs := us) (k := j + m) (by omega)
 have du1 := val_drop (xs := us) (k := j + m + 1) (by omega)
 have du2 := val_drop (xs := us) (k := j + m + 2) (by omega)
 rw [show j + m + 2 + 1 = j + vs.length + 1 from by omega, z] at du2
 rw [show j + m + 1 + 1 = j + m + 2 from rfl, du2] at du1
 rw [du1] at du0
 rw [List.drop_drop, du0] at eu
 have ev := val_take_drop vs (j := m) (by omega)
 have lv := val_lt (okd_take ov m)
 have nv := val_nonneg (okd_take ov m)
 rw [List.length_take, Nat.min_eq_left (by omega)] at lv
 have dv0 := val_drop (xs := vs) (k := m) (by omega)
 have dv1 := val_drop (xs := vs) (k := m + 1) (by omega)
 rw [show m + 1 + 1 = vs.length from by omega, List.drop_length, show val [] = 0 from rfl] at dv1
 rw [dv0, dv1] at ev
 clear du0 du1 du2 dv0 dv1
 rw [hm] at hv ⊢
 simp only [show m + 2 - 1 = m + 1 from by omega, show m + 2 - 2 = m from by omega, show j + (m + 2) = j + m + 2 from by omega, show j + m + 2 - 1 = j + m + 1 from by omega, show j + m + 2 - 2 = j + m from by omega] at hv ⊢
 generalize val (us.drop j) = W at eu w0 w1 ⊢
 generalize val vs = B at ev w1 ⊢
 generalize (4294967296 : Int) ^ m = P at eu ev lu lv hp ⊢
 generalize val ((us.drop j).take m) = L at eu lu nu
 generalize val (vs.take m) = M at ev lv nv
 generalize us.getD (j + m) 0 = c2 at eu u2 ⊢
 generalize us.getD (j + m + 1) 0 = c1 at eu u1 ⊢
 generalize us.getD (j + m + 2) 0 = c0 at eu u0 ⊢
 generalize vs.getD m 0 = d2 at ev v2 ⊢
 generalize vs.getD (m + 1) 0 = d1 at ev v1 hv ⊢
 exact ⟨hp, by grind, by grind, by grind, by grind, u2, v2, by omega, by omega, w1⟩
end Go.Proofs.YtlkomiiijhphnaaDoor.Math
namespace Go.Proofs.YtlkomiiijhphnaaDoor.Math
open Go Go.RowKit
set_option linter.unusedVariables false
set_option linter.unusedSimpArgs false
theorem set_at {ds xs : List Int} {k : Nat} (hd : ds.length = k) (hk : k < xs.length) (t : Int) : (ds ++ xs.drop k).set k t = (ds ++ [t]) ++ xs.drop (k + 1) := by
 subst hd
 rw [List.set_append_right _ _ (Nat.le_refl _), Nat.sub_self, List.drop_eq_getElem_cons hk, List.set_cons_zero, List.append_assoc]
 rfl
theorem getD_at {ds xs : List Int} {k i : Nat} (hd : ds.length = k) (hi : k ≤ i) : (ds ++ xs.drop k).getD i 0 = xs.getD i 0 := by
 subst hd
 rw [List.getD_eq_getElem?_getD, List.getElem?_append_right hi, List.getElem?_drop, ← List.getD_eq_getElem?_getD]
 congr 1
 omega
structure DblRel (xs : List Int) (c0 : Int) (k : Nat) (carry : Int) (ds : List Int) : Prop where
 len : ds.length = k
 ok : Okl ds
 c : 0 ≤ carry ∧ carry ≤ 1
 v : lv ds + 16777216 ^ k * carry = 2 * lv (xs.take k) + c0
theorem DblRel.start (xs : List Int) {c0 : Int} (h : 0 ≤ c0 ∧ c0 ≤ 1) : DblRel xs c0 0 c0 [] := ⟨rfl, Okl.nil, h, by simp [lv]⟩
theorem DblRel.step {xs : List Int} {c0 : Int} {k : Nat} {carry : Int} {ds : List Int} (h : DblRel xs c0 k carry ds) (ox : Okl xs) (hk : k < xs.length) {t : Int}
  (ht : t = 2 * xs.getD k 0 + carry) : (0 ≤ t ∧ t ≤ 33554431) ∧ DblRel xs c0 (k + 1) (t / 16777216) (ds ++ [t % 16777216]) := by
 have h1 := okl_getD ox k
 have hc := h.c
 refine ⟨by omega, by simp [h.len], h.ok.append (okl_single (by omega)), by omega, ?_⟩
 rw [lv_append, h.len, lv_take_succ hk, Int.pow_succ, Int.mul_assoc]
 have hv := h.v
 have e : 16777216 ^ k * lv [t % 16777216] + 16777216 ^ k * (16777216 * (t / 16777216)) = 16777216 ^ k * carry + 2 * (16777216 ^ k * xs.getD k 0) := by
  rw [← Int.mul_add, Int.mul_left_comm, ← Int.mul_add]
  congr 1
  simp only [lv]
  omega
 omega
theorem DblRel.done {xs : List Int} {c0 : Int} {carry : Int} {ds : List Int} (h : DblRel xs c0 xs.length carry ds) : lv ds + 16777216 ^ xs.length * carry = 2 * lv xs + c0 := by
 rw [h.v, List.take_of_length_le (Nat.le_refl _)]
structure BitDiv (A B : Int) (n L kk : Nat) (rest q : List Int) : Prop where
 rl : rest.length = n + 1
 ro : Okl rest
 rv : lv rest = A / 2 ^ kk % B
 ql : q.length = L
 qo : Okl q
 qv : lv q = A / 2 ^ kk / B * 2 ^ kk
theorem BitDiv.start {A B : Int} (n L : Nat) {kk : Nat} (h0 : 0 ≤ A) (h : A < 2 ^ kk) : BitDiv A B n L kk (List.replicate (n + 1) 0) (List.replicate L 0) := by
 have e : A / 2 ^ kk = 0 := Int.ediv_eq_zero_of_lt h0 h
 exact ⟨by simp, okl_replicate _, by rw [e, lv_zeros, Int.zero_emod], by simp, okl_replicate _, by rw [e, lv_zeros, Int.zero_ediv, Int.zero_mul]⟩
theorem half_next {A : Int} (k : Nat) : A / 2 ^ k = 2 * (A / 2 ^ (k + 1)) + A / 2 ^ k % 2 := by
 have e : A / 2 ^ (k + 1) = A / 2 ^ k / 2 := by rw [Int.pow_succ, Int.ediv_ediv_of_nonneg (Int.le_of_lt (two_pow_pos k))]
 rw [e]
 generalize A / 2 ^ k = a
 omega
theorem dm_unique {a B Q R : Int} (hB : 0 < B) (e : a = B * Q + R) (h0 : 0 ≤ R) (h1 : R < B) : a / B = Q ∧ a % B = R := by
 have := Int.ediv_emod_unique (a := a) (b := B) (r := R) (q := Q) hB
 exact this.2 ⟨by omega, h0, h1⟩
theorem BitDiv.less {A B : Int} {n L k : Nat} {rest q ds : List Int} (h : BitDiv A B n L (k + 1) rest q) (hA : 0 ≤ A) (hB : 0 < B) (dl : ds.length = n + 1) (od : Okl ds)
  (dv : lv ds = 2 * lv rest + A / 2 ^ k % 2) (hl : lv ds < B) : BitDiv A B n L k ds q := by
 have hn := half_next (A := A) k
 have em := Int.mul_ediv_add_emod (A / 2 ^ (k + 1)) B
 have hr := h.rv
 have hq := h.qv
 have h0 := lv_nonneg od
 have ql := h.ql
 have qo := h.qo
 clear h
 suffices hh : lv ds = A / 2 ^ k % B ∧ lv q = A / 2 ^ k / B * 2 ^ k from ⟨dl, od, hh.1, ql, qo, hh.2⟩
 generalize A / 2 ^ (k + 1) = a1 at hn em hr hq
 generalize A / 2 ^ k = a0 at hn dv ⊢
 rw [Int.pow_succ] at hq
 obtain ⟨e1, e2⟩ := dm_unique (a := a0) (B := B) (Q := 2 * (a1 / B)) (R := lv ds) hB (by rw [dv, hr, Int.mul_left_comm]; omega) h0 hl
 refine ⟨e2.symm, ?_⟩
 rw [hq, e1]
 generalize (2 : Int) ^ k = p
 generalize a1 / B = Q
 grind
theorem digit_bit {d : Int} {r : Nat} (hr : r < 24) (h0 : 0 ≤ d) (h1 : d < 16777216) (hb : d / 2 ^ r % 2 = 0) : 0 ≤ d + 2 ^ r ∧ d + 2 ^ r < 16777216 := by
 obtain ⟨s, hs⟩ : ∃ s, r + (s + 1) = 24 := ⟨23 - r, by omega⟩
 have hp : (16777216 : Int) = 2 ^ r * (2 ^ s * 2) := by rw [← Int.pow_succ, ← Int.pow_add, hs]; decide
 have hr0 := two_pow_pos r
 have em := Int.mul_ediv_add_emod d (2 ^ r)
 have el := Int.emod_lt_of_pos d hr0
 rw [hp] at h1 ⊢
 generalize (2 : Int) ^ s = S at *
 have h2 : d / 2 ^ r < S * 2 := Int.ediv_lt_of_lt_mul hr0 (by rw [Int.mul_comm]; exact h1)
 generalize (2 : Int) ^ r = p at *
 generalize d / p = u at *
 generalize d % p = m at *
 refine ⟨by omega, ?_⟩
 have h3 : u + 2 ≤ S * 2 := by omega
 have h4 : p * (u + 2) ≤ p * (S * 2) := Int.mul_le_mul_of_nonneg_left h3 (by omega)
 rw [Int.mul_add] at h4
 omega
theorem pow_limb (k : Nat) : (16777216 : Int) ^ (k / 24) * 2 ^ (k % 24) = 2 ^ k := by
 have e : (16777216 : Int) = 2 ^ 24 := by decide
 rw [e, ← Int.pow_mul, ← Int.pow_add]
 congr 1
 omega
theorem BitDiv.more {A B : Int} {n L k : Nat} {rest q ds es : List Int} (h : BitDiv A B n L (k + 1) rest q) (hA : 0 ≤ A) (hB : 0 < B) (el : es.length = n + 1) (oe : Okl es)
  (dv : lv ds = 2 * lv rest + A / 2 ^ k % 2) (hl : B ≤ lv ds) (ev : lv es = lv ds - B) (hL : k / 24 < L) :
  (0 ≤ q.getD (k / 24) 0 + 2 ^ (k % 24) ∧ q.getD (k / 24) 0 + 2 ^ (k % 24) < 16777216) ∧ BitDiv A B n L k es (q.set (k / 24) (q.getD (k / 24) 0 + 2 ^ (k % 24))) := by
 have hn := half_next (A := A) k
 have em := Int.mul_ediv_add_emod (A / 2 ^ (k + 1)) B
 have er := Int.emod_lt_of_pos (A / 2 ^ (k + 1)) hB
 have hr := h.rv
 have hq := h.qv
 have hd := okl_getD h.qo (k / 24)
 have hbit := limb_bit h.qo (k / 24) (r := k % 24) (Nat.mod_lt _ (by omega)) (by rw [h.ql]; exact hL)
 rw [show 24 * (k / 24) + k % 24 = k from by omega] at hbit
 have hq2 : lv q / 2 ^ k = 2 * (A / 2 ^ (k + 1) / B) := by
  rw [hq, Int.pow_succ, Int.mul_comm (2 ^ k) 2, ← Int.mul_assoc, Int.mul_ediv_cancel _ (by have := two_pow_pos k; omega), Int.mul_comm]
 have hb0 : q.getD (k / 24) 0 / 2 ^ (k % 24) % 2 = 0 := by
  rw [hbit, hq2]
  omega
 have hdig := digit_bit (Nat.mod_lt k (by omega)) hd.1 hd.2 hb0
 have hmod : 0 ≤ A / 2 ^ k % 2 ∧ A / 2 ^ k % 2 < 2 := by omega
 have hset := lv_set (xs := q) (k := k / 24) (by rw [h.ql]; exact hL) (q.getD (k / 24) 0 + 2 ^ (k % 24))
 have h0 := lv_nonneg oe
 suffices hh : lv es = A / 2 ^ k % B ∧ lv (q.set (k / 24) (q.getD (k / 24) 0 + 2 ^ (k % 24))) = A / 2 ^ k / B * 2 ^ k from
  ⟨hdig, el, oe, hh.1, by rw [List.length_set]; exact h.ql, okl_set h.qo _ hdig, hh.2⟩
 rw [hset]
 clear hb0 hbit hq2 hset hdig h hd
 generalize A / 2 ^ (k + 1) = a1 at hn em er hr hq
 generalize A / 2 ^ k = a0 at hn dv hmod ⊢
 rw [Int.pow_succ] at hq
 obtain ⟨e1, e2⟩ := dm_unique (a := a0) (B := B) (Q := 2 * (a1 / B) + 1) (R := lv es) hB (by rw [ev, dv, hr, Int.mul_add, Int.mul_left_comm]; omega) h0 (by omega)
 refine ⟨e2.symm, ?_⟩
 rw [hq, e1]
 have ep := pow_limb k
 generalize (2 : Int) ^ k = p at hq ep ⊢
 generalize a1 / B = Q at em e1 hq ⊢
 generalize q.getD (k / 24) 0 = d
 generalize (2 : Int) ^ (k % 24) = r at ep ⊢
 generalize (16777216 : Int) ^ (k / 24) = l at ep ⊢
 have : l * (d + r - d) = p := by rw [← ep]; congr 1; omega
 rw [this]
 grind
theorem BitDiv.done {A B : Int} {n L : Nat} {rest q : List Int} (h : BitDiv A B n L 0 rest q) : lv rest = A % B ∧ lv q = A / B := by
 have h1 := h.rv
 have h2 := h.qv
 simp only [Int.pow_zero, Int.ediv_one, Int.mul_one] at h1 h2
 exact ⟨h1, h2⟩
theorem DblRel.fits {xs : List Int} {c0 carry B : Int} {n : Nat} {ds : List Int} (h : DblRel xs c0 xs.length carry ds) (hx : xs.length = n + 1) (h1 : lv xs < B) (h2 : B ≤ 16777216 ^ n) (hc : c0 ≤ 1) (h0 : 0 ≤ lv xs) : lv ds = 2 * lv xs + c0 := by
 have hd := h.done
 have hn := lv_nonneg h.ok
 have hcc := h.c
 rw [hx, Int.pow_succ] at hd
 have : carry = 0 := by
  rcases (show carry = 0 ∨ carry = 1 from by omega) with e | e
  ·exact e
  ·exfalso
   subst e
   generalize (16777216 : Int) ^ n = p at *
   omega
 subst this
 omega
end Go.Proofs.YtlkomiiijhphnaaDoor.Math
namespace Go.Proofs.YtlkomiiijhphnaaDoor.Math
set_option linter.unusedVariables false
set_option linter.unusedSimpArgs false
structure IsRoot (x s : Int) : Prop where
 lo : 0 ≤ s
 le : s * s ≤ x
 lt : x < (s + 1) * (s + 1)
theorem sq_le {a b : Int} (h0 : 0 ≤ a) (h : a ≤ b) : a * a ≤ b * b := Int.mul_le_mul h h h0 (by omega)
theorem IsRoot.unique {x s t : Int} (h : IsRoot x s) (g : IsRoot x t) : s = t := by
 rcases Int.lt_trichotomy s t with hl | he | hl
 ·have := sq_le (a := s + 1) (b := t) (by have := h.lo; omega) (by omega)
  have := h.lt
  have := g.le
  omega
 ·exact he
 ·have := sq_le (a := t + 1) (b := s) (by have := g.lo; omega) (by omega)
  have := g.lt
  have := h.le
  omega
def rootN : Nat → Nat
 | 0 => 0
 | n + 1 => if (rootN n + 1) * (rootN n + 1) ≤ n + 1 then rootN n + 1 else rootN n
theorem rootN_spec (n : Nat) : rootN n * rootN n ≤ n ∧ n < (rootN n + 1) * (rootN n + 1) := by
 induction n with
 | zero => simp [rootN]
 | succ n ih =>
  rw [rootN]
  split
  ·rename_i h
   refine ⟨h, ?_⟩
   have := ih.2
   have e : (rootN n + 1 + 1) * (rootN n + 1 + 1) = (rootN n + 1) * (rootN n + 1) + 2 * (rootN n + 1) + 1 := by grind
   omega
  ·rename_i h
   exact ⟨by omega, by omega⟩
def iroot (x : Int) : Int := rootN x.toNat
theorem iroot_spec {x : Int} (h : 0 ≤ x) : IsRoot x (iroot x) := by
 obtain ⟨n, rfl⟩ := Int.eq_ofNat_of_zero_le h
 have := rootN_spec n
 refine ⟨by unfold iroot; omega, ?_, ?_⟩
 ·unfold iroot
  rw [Int.toNat_natCast]
  have h1 := this.1
  exact_mod_cast h1
 ·unfold iroot
  rw [Int.toNat_natCast]
  have h1 := this.2
  exact_mod_cast h1
theorem IsRoot.eq {x s : Int} (h : IsRoot x s) : s = iroot x := h.unique (iroot_spec (by have := h.le; have := Int.mul_nonneg h.lo h.lo; omega))
structure RootBits (x : Int) (k : Nat) (out : Int) : Prop where
 lo : 0 ≤ out
 le : out * out ≤ x
 lt : x < (out + 2 ^ k) * (out + 2 ^ k)
theorem RootBits.start {x : Int} {k : Nat} (h0 : 0 ≤ x) (h : x < 2 ^ k * 2 ^ k) : RootBits x k 0 := ⟨by omega, by omega, by simpa using h⟩
theorem sq_next (out p : Int) : (out + p) * (out + p) = out * out + out * (p * 2) + p * p := by grind
theorem RootBits.one {x : Int} {k : Nat} {out : Int} (h : RootBits x (k + 1) out) (hs : out * out + out * 2 ^ (k + 1) + 2 ^ (2 * k) ≤ x) : RootBits x k (out + 2 ^ k) ∧ (out + 2 ^ k) * (out + 2 ^ k) = out * out + out * 2 ^ (k + 1) + 2 ^ (2 * k) := by
 have hp : (0 : Int) < 2 ^ k := Int.pow_pos (by omega)
 have e : (2 : Int) ^ (2 * k) = 2 ^ k * 2 ^ k := by rw [← Int.pow_add]; congr 1; omega
 have e2 := sq_next out (2 ^ k)
 have hl := h.lt
 rw [Int.pow_succ] at hs hl ⊢
 rw [e] at hs ⊢
 have hlo := h.lo
 refine ⟨⟨by omega, by rw [e2]; exact hs, ?_⟩, e2⟩
 rw [show out + 2 ^ k + 2 ^ k = out + 2 ^ k * 2 from by omega]
 exact hl
theorem RootBits.zero {x : Int} {k : Nat} {out : Int} (h : RootBits x (k + 1) out) (hs : x < out * out + out * 2 ^ (k + 1) + 2 ^ (2 * k)) : RootBits x k out := by
 have e : (2 : Int) ^ (2 * k) = 2 ^ k * 2 ^ k := by rw [← Int.pow_add]; congr 1; omega
 have e2 := sq_next out (2 ^ k)
 rw [Int.pow_succ, e] at hs
 exact ⟨h.lo, h.le, by rw [e2]; exact hs⟩
theorem RootBits.done {x out : Int} (h : RootBits x 0 out) : out = iroot x := IsRoot.eq ⟨h.lo, h.le, by simpa using h.lt⟩
end Go.Proofs.YtlkomiiijhphnaaDoor.Math
namespace Go.Proofs.YtlkomiiijhphnaaDoor.Math
open Go Go.RowKit
set_option linter.unusedVariables false
set_option linter.unusedSimpArgs false
theorem okd_snoc_val {ys : List Int} {y : Int} : val (ys ++ [y]) = val ys + 4294967296 ^ ys.length * y := by
 rw [val_append]
 simp [val]
structure Ups (y : Int) (up : Nat) : Prop where
 le : up ≤ 31
 lo : 2147483648 ≤ y * 2 ^ up
 hi : (y + 1) * 2 ^ up ≤ 4294967296
theorem ups_of {y : Int} (h0 : 0 < y) (h1 : y < 4294967296) : ∃ up : Nat, (32 - (Lib.bitLen y.toNat : Int)) = (up : Int) ∧ Ups y up := by
 obtain ⟨m, rfl⟩ := Int.eq_ofNat_of_zero_le (Int.le_of_lt h0)
 have e64 : (2 : Nat) ^ 64 = 18446744073709551616 := by decide
 have e32 : (2 : Nat) ^ 32 = 4294967296 := by decide
 have hb := bitLen_log2 (x := m) (by omega)
 rw [if_neg (by omega)] at hb
 have hl1 : m.log2 < 32 := (Nat.log2_lt (by omega)).2 (by omega)
 have hle := Nat.log2_self_le (show m ≠ 0 from by omega)
 have hlt := (Nat.log2_lt (show m ≠ 0 from by omega) (k := m.log2 + 1)).1 (by omega)
 rw [Int.toNat_natCast, hb]
 refine ⟨31 - m.log2, by omega, by omega, ?_, ?_⟩
 ·have e : (2147483648 : Nat) = 2 ^ m.log2 * 2 ^ (31 - m.log2) := by rw [← Nat.pow_add, show m.log2 + (31 - m.log2) = 31 from by omega]
  have := Nat.mul_le_mul_right (2 ^ (31 - m.log2)) hle
  rw [← e] at this
  have h2 := Int.ofNat_le.2 this
  rw [Int.natCast_mul, Int.natCast_pow] at h2
  exact h2
 ·have e : (4294967296 : Nat) = 2 ^ (m.log2 + 1) * 2 ^ (31 - m.log2) := by rw [← Nat.pow_add, show m.log2 + 1 + (31 - m.log2) = 32 from by omega]
  have := Nat.mul_le_mul_right (2 ^ (31 - m.log2)) (show m + 1 ≤ 2 ^ (m.log2 + 1) from hlt)
  rw [← e] at this
  have h2 := Int.ofNat_le.2 this
  rw [Int.natCast_mul, Int.natCast_pow] at h2
  exact h2
theorem moved_len {ys vs : List Int} {y : Int} {up : Nat} (oy : Okd (ys ++ [y])) (hy : 0 < y) (hu : Ups y up) (ov : Okd vs) (tv : Tight vs) (hv : val vs = val (ys ++ [y]) * 2 ^ up) :
  vs.length = ys.length + 1 ∧ 4294967296 ^ ys.length * 2147483648 ≤ val vs := by
 have h0 := val_nonneg oy.left
 have h1 := val_lt oy.left
 have hp := pow_pos' ys.length
 have hq := two_pow_pos up
 rw [okd_snoc_val] at hv
 have hlo := hu.lo
 have hhi := hu.hi
 obtain ⟨P, hP⟩ : ∃ P : Int, P = 4294967296 ^ ys.length := ⟨_, rfl⟩
 have e1 : (4294967296 : Int) ^ (ys.length + 1) = P * 4294967296 := by rw [Int.pow_succ, hP]
 rw [← hP] at h1 hp hv ⊢
 generalize (2 : Int) ^ up = q at hq hv hlo hhi
 have a1 : P * 2147483648 ≤ val vs := by
  have h2 : P * 2147483648 ≤ P * (y * q) := Int.mul_le_mul_of_nonneg_left hlo (by omega)
  have h3 : 0 ≤ val ys * q := Int.mul_nonneg h0 (by omega)
  have : (val ys + P * y) * q = val ys * q + P * (y * q) := by grind
  omega
 have a2 : val vs < P * 4294967296 := by
  have h2 : P * ((y + 1) * q) ≤ P * 4294967296 := Int.mul_le_mul_of_nonneg_left hhi (by omega)
  have h3 : val ys * q < P * q := Int.mul_lt_mul_of_pos_right h1 hq
  have : (val ys + P * y) * q = val ys * q + P * (y * q) := by grind
  have : P * ((y + 1) * q) = P * (y * q) + P * q := by grind
  omega
 refine ⟨?_, a1⟩
 have hle := tight_length ov tv (k := ys.length + 1) (by rw [e1]; exact a2)
 have hge : ys.length < vs.length := by
  rcases Nat.lt_or_ge ys.length vs.length with h | h
  ·exact h
  ·exfalso
   have := val_lt ov
   have := pow_mono h
   rw [← hP] at this
   omega
 omega
theorem moved_up {xs us : List Int} {up : Nat} (ox : Okd xs) (tx : Tight xs) (hne : xs ≠ []) (hup : up ≤ 31) (ou : Okd us) (tu : Tight us) (hv : val us = val xs * 2 ^ up) :
  xs.length ≤ us.length ∧ us.length ≤ xs.length + 1 ∧ ((us ++ [0, 0]).take (xs.length + 1)).length = xs.length + 1 ∧ Okd ((us ++ [0, 0]).take (xs.length + 1)) ∧ val ((us ++ [0, 0]).take (xs.length + 1)) = val xs * 2 ^ up := by
 have h1 := val_lt ox
 have hge := val_ge ox tx hne
 have hq := two_pow_pos up
 have hq2 := two_pow_le hup
 have hlen : 0 < xs.length := List.length_pos_iff.2 hne
 have a1 : us.length ≤ xs.length + 1 := by
  refine tight_length ou tu ?_
  rw [hv, Int.pow_succ]
  have h2 : val xs * 2 ^ up < 4294967296 ^ xs.length * 2 ^ up := Int.mul_lt_mul_of_pos_right h1 hq
  have h3 : (4294967296 : Int) ^ xs.length * 2 ^ up ≤ 4294967296 ^ xs.length * 4294967296 := Int.mul_le_mul_of_nonneg_left (Int.le_trans hq2 (by decide)) (Int.le_of_lt (pow_pos' _))
  omega
 have a2 : xs.length ≤ us.length := by
  rcases Nat.lt_or_ge us.length xs.length with h | h
  ·exfalso
   have h2 := val_lt ou
   have h3 := pow_mono (show us.length ≤ xs.length - 1 from by omega)
   have h4 : val xs * 1 ≤ val xs * 2 ^ up := Int.mul_le_mul_of_nonneg_left (by omega) (val_nonneg ox)
   omega
  ·exact h
 have oz : Okd (us ++ [0, 0]) := ou.append (Okd.cons (by omega) (okd_single (by omega)))
 refine ⟨a2, a1, by rw [List.length_take, List.length_append]; simp; omega, okd_take oz _, ?_⟩
 rw [← hv]
 rcases (show us.length = xs.length + 1 ∨ us.length = xs.length from by omega) with h | h
 ·rw [← h, List.take_left]
 ·rw [← h, show us ++ [0, 0] = (us ++ [0]) ++ [0] from by simp, show us.length + 1 = (us ++ [0]).length from by simp, List.take_left, val_append]
  simp [val]
theorem KRel.begin {xs vs us : List Int} {m n up : Nat} (ox : Okd xs) (ou : Okd us) (hu : val us = val xs * 2 ^ up) (hup : up ≤ 31) (hL : xs.length + 1 = m + n) (hn : 1 ≤ n) (hl : us.length = xs.length + 1)
  (hv : 4294967296 ^ (n - 1) * 2147483648 ≤ val vs) : KRel (val xs * 2 ^ up) vs us (List.replicate m 0) m := by
 refine ⟨ou, okd_replicate _, by rw [List.drop_of_length_le (by simp), hu]; simp [val], ?_⟩
 have h1 := val_lt ox
 have h0 := val_nonneg ox
 have hq := two_pow_pos up
 have hq2 := two_pow_le hup
 rw [val_split _ _ ou, hu]
 refine Int.ediv_lt_of_lt_mul (pow_pos' _) ?_
 have h2 : val xs * 2 ^ up < 4294967296 ^ xs.length * 2 ^ up := Int.mul_lt_mul_of_pos_right h1 hq
 have h3 : (4294967296 : Int) ^ xs.length * 2 ^ up ≤ 4294967296 ^ xs.length * 2147483648 := Int.mul_le_mul_of_nonneg_left (Int.le_trans hq2 (by decide)) (Int.le_of_lt (pow_pos' _))
 have e : (4294967296 : Int) ^ xs.length = 4294967296 ^ (n - 1) * 4294967296 ^ m := by rw [← Int.pow_add]; congr 1; omega
 have h4 : 4294967296 ^ (n - 1) * 2147483648 * 4294967296 ^ m ≤ val vs * 4294967296 ^ m := Int.mul_le_mul_of_nonneg_right hv (Int.le_of_lt (pow_pos' _))
 have h5 : (4294967296 : Int) ^ (n - 1) * 2147483648 * 4294967296 ^ m = 4294967296 ^ xs.length * 2147483648 := by rw [e]; grind
 omega
theorem borrow_pos {us ws : List Int} {p k : Nat} (hl : ws.length = us.length) (hp : p ≤ us.length) (ow : Okd ws) (ou : Okd us) (hd : ws.drop p = us.drop p) {q V : Int} (hq : 0 ≤ q) (he : val ws = val us - 4294967296 ^ k * (q * V) + 4294967296 ^ p) : 1 ≤ q := by
 rcases (show q = 0 ∨ 1 ≤ q from by omega) with e | e
 ·exfalso
  subst e
  have h1 := val_take_drop us hp
  have h2 := val_take_drop ws (by omega : p ≤ ws.length)
  have h3 := val_lt (okd_take ow p)
  rw [List.length_take, Nat.min_eq_left (by omega)] at h3
  have h4 := val_nonneg (okd_take ou p)
  rw [hd] at h2
  rw [Int.zero_mul, Int.mul_zero] at he
  omega
 ·exact e
theorem moved_done {X Y : Int} {up : Nat} (h : 0 < Y) : X * 2 ^ up / (Y * 2 ^ up) = X / Y ∧ X * 2 ^ up % (Y * 2 ^ up) / 2 ^ up = X % Y := by
 have hq := two_pow_pos up
 refine ⟨Int.mul_ediv_mul_of_pos_left _ _ hq, ?_⟩
 rw [Int.mul_comm X, Int.mul_comm Y, Int.mul_emod_mul_of_pos _ _ hq, Int.mul_ediv_cancel_left _ (by omega)]
end Go.Proofs.YtlkomiiijhphnaaDoor.Math
