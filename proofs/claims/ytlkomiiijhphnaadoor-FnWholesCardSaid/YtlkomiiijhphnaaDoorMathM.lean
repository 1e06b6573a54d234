/- Numbers as lists of digits to the base 2^32: values, trimming. Plain Lean; no program. -/
import Derived.Test.YtlkomiiijhphnaaDoorWWords
import Derived.Laws.BitsAllLaws
import Derived.Lib.BitFns
/- Shifts of digits: plain Lean; no program. -/
/- How long numbers are, in bits and digits; limbs to the base 2^24. Plain Lean; no program. -/
/- Which signs and limbs are a whole number; their values. Plain Lean; no program. -/
/- Whole numbers as signs and limbs to the base 2^24, one for each integer. Plain Lean; no program. -/
/- The mathematics of the product of digits: stores into digits, and what the loops hold. Plain Lean; no program. -/
/- The mathematics of Rsh: digits moved down. Plain Lean; no program. -/
/- The mathematics of sums, differences and products of limbs. Plain Lean; no program. -/
/- The mathematics of trailing zeros, and of numbers less than 0 moved down. Plain Lean; no program. -/
/- The mathematics of limbs moved up and down, and of their bits. Plain Lean; no program. -/
/- The mathematics of decimal texts. Plain Lean; no program. -/
namespace Go.Proofs.YtlkomiiijhphnaaDoor.Math
set_option linter.unusedVariables false
def val : List Int → Int
 | [] => 0
 | x :: xs => x + 4294967296 * val xs
def Okd (xs : List Int) : Prop := ∀ x ∈ xs, 0 ≤ x ∧ x < 4294967296
def trim (xs : List Int) : List Int := (xs.reverse.dropWhile (· == 0)).reverse
def Tight (xs : List Int) : Prop := ∀ h : xs ≠ [], xs.getLast h ≠ 0
theorem val_append (xs ys : List Int) : val (xs ++ ys) = val xs + 4294967296 ^ xs.length * val ys := by
 induction xs with
 | nil => simp [val]
 | cons x xs ih =>
  simp only [List.cons_append, val, ih, List.length_cons, Int.pow_succ]
  rw [Int.mul_add, Int.add_assoc]
  congr 2
  rw [← Int.mul_assoc, Int.mul_comm 4294967296 (4294967296 ^ xs.length)]
theorem Okd.nil : Okd [] := by intro x h; cases h
theorem Okd.cons {x : Int} {xs : List Int} (h : 0 ≤ x ∧ x < 4294967296) (hs : Okd xs) : Okd (x :: xs) := by
 intro y hy
 rcases List.mem_cons.1 hy with rfl | hy
 ·exact h
 ·exact hs y hy
theorem Okd.append {xs ys : List Int} (h : Okd xs) (hs : Okd ys) : Okd (xs ++ ys) := by
 intro y hy
 rcases List.mem_append.1 hy with hy | hy
 ·exact h y hy
 ·exact hs y hy
theorem Okd.left {xs ys : List Int} (h : Okd (xs ++ ys)) : Okd xs := fun y hy => h y (List.mem_append.2 (.inl hy))
theorem Okd.right {xs ys : List Int} (h : Okd (xs ++ ys)) : Okd ys := fun y hy => h y (List.mem_append.2 (.inr hy))
theorem Okd.head {x : Int} {xs : List Int} (h : Okd (x :: xs)) : 0 ≤ x ∧ x < 4294967296 := h x List.mem_cons_self
theorem Okd.tail {x : Int} {xs : List Int} (h : Okd (x :: xs)) : Okd xs := fun y hy => h y (List.mem_cons_of_mem _ hy)
theorem val_nonneg {xs : List Int} (h : Okd xs) : 0 ≤ val xs := by
 induction xs with
 | nil => simp [val]
 | cons x xs ih =>
  have h1 := h.head
  have h2 := ih h.tail
  simp only [val]
  omega
theorem val_lt {xs : List Int} (h : Okd xs) : val xs < 4294967296 ^ xs.length := by
 induction xs with
 | nil => simp [val]
 | cons x xs ih =>
  have h1 := h.head
  have h2 := ih h.tail
  simp only [val, List.length_cons, Int.pow_succ]
  omega
theorem trim_snoc_zero (xs : List Int) : trim (xs ++ [0]) = trim xs := by simp [trim]
theorem trim_snoc {x : Int} (xs : List Int) (h : x ≠ 0) : trim (xs ++ [x]) = xs ++ [x] := by
 simp [trim, h]
theorem snoc_cases (xs : List Int) : xs = [] ∨ ∃ ys y, xs = ys ++ [y] := by
 rcases List.eq_nil_or_concat xs with h | ⟨ys, y, h⟩
 ·exact .inl h
 ·exact .inr ⟨ys, y, by simpa using h⟩
theorem trim_induct {P : List Int → Prop} (h0 : P []) (hs : ∀ ys y, P ys → P (ys ++ [y])) (xs : List Int) : P xs := by
 have : ∀ n (xs : List Int), xs.length = n → P xs := by
  intro n
  induction n with
  | zero =>
   intro xs h
   rw [List.eq_nil_of_length_eq_zero h]
   exact h0
  | succ n ih =>
   intro xs h
   rcases snoc_cases xs with rfl | ⟨ys, y, rfl⟩
   ·simp at h
   ·exact hs ys y (ih ys (by simpa using h))
 exact this _ xs rfl
theorem trim_tight (xs : List Int) : Tight (trim xs) := by
 induction xs using trim_induct with
 | h0 => intro h; exact absurd rfl h
 | hs ys y ih =>
  by_cases h : y = 0
  ·subst h
   rw [trim_snoc_zero]
   exact ih
  ·rw [trim_snoc _ h]
   intro _
   simpa using h
theorem val_trim (xs : List Int) : val (trim xs) = val xs := by
 induction xs using trim_induct with
 | h0 => rfl
 | hs ys y ih =>
  by_cases h : y = 0
  ·subst h
   rw [trim_snoc_zero, ih, val_append]
   simp [val]
  ·rw [trim_snoc _ h]
theorem okd_trim {xs : List Int} (h : Okd xs) : Okd (trim xs) := by
 induction xs using trim_induct with
 | h0 => exact h
 | hs ys y ih =>
  by_cases e : y = 0
  ·subst e
   rw [trim_snoc_zero]
   exact ih h.left
  ·rw [trim_snoc _ e]
   exact h
theorem trim_length (xs : List Int) : (trim xs).length ≤ xs.length := by
 induction xs using trim_induct with
 | h0 => simp [trim]
 | hs ys y ih =>
  by_cases e : y = 0
  ·subst e
   rw [trim_snoc_zero]
   simp
   omega
  ·rw [trim_snoc _ e]
   simp
theorem pow_pos' (n : Nat) : (0 : Int) < 4294967296 ^ n := Int.pow_pos (by omega)
theorem val_ge {xs : List Int} (h : Okd xs) (ht : Tight xs) (hne : xs ≠ []) : (4294967296 : Int) ^ (xs.length - 1) ≤ val xs := by
 rcases snoc_cases xs with rfl | ⟨ys, y, rfl⟩
 ·exact absurd rfl hne
 ·have hy : y ≠ 0 := by simpa using ht (by simp)
  have h1 := (h.right).head
  have h2 := val_nonneg h.left
  have h3 : (1 : Int) ≤ y := by omega
  rw [val_append]
  simp only [val, List.length_append, List.length_cons, List.length_nil, Nat.add_sub_cancel, Nat.zero_add, Int.mul_zero, Int.add_zero]
  have h4 := Int.mul_le_mul_of_nonneg_left h3 (Int.le_of_lt (pow_pos' ys.length))
  omega
theorem val_eq_zero {xs : List Int} (h : Okd xs) (ht : Tight xs) : val xs = 0 ↔ xs = [] := by
 constructor
 ·intro hv
  by_cases e : xs = []
  ·exact e
  ·have := val_ge h ht e
   have := pow_pos' (xs.length - 1)
   omega
 ·rintro rfl
  rfl
theorem getD_ok {xs : List Int} (h : Okd xs) (k : Nat) : 0 ≤ xs.getD k 0 ∧ xs.getD k 0 < 4294967296 := by
 rcases Nat.lt_or_ge k xs.length with hk | hk
 ·rw [List.getD_eq_getElem?_getD, List.getElem?_eq_getElem hk]
  exact h _ (List.getElem_mem hk)
 ·rw [List.getD_eq_getElem?_getD, List.getElem?_eq_none hk]
  simp
theorem take_succ_getD {xs : List Int} {k : Nat} (h : k < xs.length) : xs.take (k + 1) = xs.take k ++ [xs.getD k 0] := by
 rw [List.take_succ_eq_append_getElem h, List.getD_eq_getElem?_getD, List.getElem?_eq_getElem h]
 rfl
theorem val_take_succ {xs : List Int} {k : Nat} (h : k < xs.length) : val (xs.take (k + 1)) = val (xs.take k) + 4294967296 ^ k * xs.getD k 0 := by
 rw [take_succ_getD h, val_append, List.length_take, Nat.min_eq_left (by omega)]
 simp [val]
theorem val_take_ge {xs : List Int} {k : Nat} (h : xs.length ≤ k) : val (xs.take (k + 1)) = val (xs.take k) := by
 rw [List.take_of_length_le h, List.take_of_length_le (by omega)]
theorem okd_take {xs : List Int} (h : Okd xs) (k : Nat) : Okd (xs.take k) := fun x hx => h x (List.mem_of_mem_take hx)
theorem okd_drop {xs : List Int} (h : Okd xs) (k : Nat) : Okd (xs.drop k) := fun x hx => h x (List.mem_of_mem_drop hx)
theorem okd_single {x : Int} (h : 0 ≤ x ∧ x < 4294967296) : Okd [x] := Okd.cons h Okd.nil
theorem okd_replicate (n : Nat) : Okd (List.replicate n 0) := by
 intro x hx
 rw [List.eq_of_mem_replicate hx]
 omega
theorem set_fill (ds : List Int) (m : Nat) (x : Int) : (ds ++ List.replicate (m + 1) 0).set ds.length x = (ds ++ [x]) ++ List.replicate m 0 := by
 rw [List.set_append]
 simp [List.replicate_succ]
structure AddRel (xs ys : List Int) (k : Nat) (carry : Int) (ds : List Int) : Prop where
 len : ds.length = k
 ok : Okd ds
 c : 0 ≤ carry ∧ carry ≤ 1
 v : val ds + 4294967296 ^ k * carry = val (xs.take k) + val (ys.take k)
theorem AddRel.start (xs ys : List Int) : AddRel xs ys 0 0 [] := ⟨rfl, Okd.nil, by omega, by simp [val]⟩
theorem AddRel.step {xs ys : List Int} {k : Nat} {carry : Int} {ds : List Int} (h : AddRel xs ys k carry ds) (ox : Okd xs) (oy : Okd ys) (hk : k < xs.length) {t : Int}
  (ht : t = carry + xs.getD k 0 + ys.getD k 0) : AddRel xs ys (k + 1) (t / 4294967296) (ds ++ [t % 4294967296]) := by
 have h1 := getD_ok ox k
 have h2 := getD_ok oy k
 have h3 := h.c
 refine ⟨by simp [h.len], h.ok.append (okd_single (by omega)), by omega, ?_⟩
 have hy : val (ys.take (k + 1)) = val (ys.take k) + 4294967296 ^ k * ys.getD k 0 := by
  rcases Nat.lt_or_ge k ys.length with hk | hk
  ·exact val_take_succ hk
  ·rw [val_take_ge hk, List.getD_eq_getElem?_getD, List.getElem?_eq_none hk]
   simp
 rw [val_append, h.len, val_take_succ hk, hy]
 simp only [val, Int.pow_succ]
 have hv := h.v
 have e : t % 4294967296 + 4294967296 * (t / 4294967296) = t := by omega
 have e2 : (4294967296 : Int) ^ k * (t % 4294967296 + 4294967296 * 0) + 4294967296 ^ k * 4294967296 * (t / 4294967296) = 4294967296 ^ k * t := by
  rw [Int.mul_assoc, ← Int.mul_add]
  congr 1
  omega
 have e3 : (4294967296 : Int) ^ k * t = 4294967296 ^ k * carry + 4294967296 ^ k * xs.getD k 0 + 4294967296 ^ k * ys.getD k 0 := by
  rw [ht, Int.mul_add, Int.mul_add]
 omega
theorem AddRel.done {xs ys : List Int} {carry : Int} {ds : List Int} (h : AddRel xs ys xs.length carry ds) (hle : ys.length ≤ xs.length) :
  Okd (ds ++ [carry]) ∧ (ds ++ [carry]).length = xs.length + 1 ∧ val (ds ++ [carry]) = val xs + val ys := by
 have h3 := h.c
 refine ⟨h.ok.append (okd_single (by omega)), by simp [h.len], ?_⟩
 have hv := h.v
 rw [List.take_of_length_le (Nat.le_refl _), List.take_of_length_le hle] at hv
 rw [val_append, h.len]
 simp only [val, Int.mul_zero, Int.add_zero]
 exact hv
structure SubRel (xs ys : List Int) (k : Nat) (lent : Int) (ds : List Int) : Prop where
 len : ds.length = k
 ok : Okd ds
 c : 0 ≤ lent ∧ lent ≤ 1
 v : val ds - 4294967296 ^ k * lent = val (xs.take k) - val (ys.take k)
theorem SubRel.start (xs ys : List Int) : SubRel xs ys 0 0 [] := ⟨rfl, Okd.nil, by omega, by simp [val]⟩
theorem SubRel.step {xs ys : List Int} {k : Nat} {lent : Int} {ds : List Int} (h : SubRel xs ys k lent ds) (ox : Okd xs) (oy : Okd ys) (hk : k < xs.length) {t : Int}
  (ht : t = xs.getD k 0 - lent - ys.getD k 0) : SubRel xs ys (k + 1) (if t < 0 then 1 else 0) (ds ++ [t % 4294967296]) := by
 have h1 := getD_ok ox k
 have h2 := getD_ok oy k
 have h3 := h.c
 have hl : (if t < 0 then 1 else 0 : Int) = -(t / 4294967296) := by split <;> omega
 refine ⟨by simp [h.len], h.ok.append (okd_single (by omega)), by split <;> omega, ?_⟩
 rw [hl]
 have hy : val (ys.take (k + 1)) = val (ys.take k) + 4294967296 ^ k * ys.getD k 0 := by
  rcases Nat.lt_or_ge k ys.length with hk | hk
  ·exact val_take_succ hk
  ·rw [val_take_ge hk, List.getD_eq_getElem?_getD, List.getElem?_eq_none hk]
   simp
 rw [val_append, h.len, val_take_succ hk, hy]
 simp only [val, Int.pow_succ, Int.mul_neg]
 have hv := h.v
 have e2 : (4294967296 : Int) ^ k * (t % 4294967296 + 4294967296 * 0) + 4294967296 ^ k * 4294967296 * (t / 4294967296) = 4294967296 ^ k * t := by
  rw [Int.mul_assoc, ← Int.mul_add]
  congr 1
  omega
 have e3 : (4294967296 : Int) ^ k * t = 4294967296 ^ k * xs.getD k 0 - 4294967296 ^ k * lent - 4294967296 ^ k * ys.getD k 0 := by
  rw [ht, Int.mul_sub, Int.mul_sub]
 omega
theorem SubRel.done {xs ys : List Int} {lent : Int} {ds : List Int} (h : SubRel xs ys xs.length lent ds) (hle : ys.length ≤ xs.length) (hv : val ys ≤ val xs) :
  Okd ds ∧ ds.length = xs.length ∧ val ds = val xs - val ys := by
 have h3 := h.c
 refine ⟨h.ok, h.len, ?_⟩
 have hv := h.v
 rw [List.take_of_length_le (Nat.le_refl _), List.take_of_length_le hle] at hv
 have h4 := val_lt h.ok
 rw [h.len] at h4
 have h5 : lent = 0 := by
  by_cases e : lent = 0
  ·exact e
  ·have : lent = 1 := by omega
   subst this
   omega
 subst h5
 omega
theorem pow_mono {a b : Nat} (h : a ≤ b) : (4294967296 : Int) ^ a ≤ 4294967296 ^ b := by
 obtain ⟨d, rfl⟩ : ∃ d, b = a + d := ⟨b - a, by omega⟩
 rw [Int.pow_add]
 have h1 := pow_pos' a
 have h2 := pow_pos' d
 have := Int.mul_le_mul_of_nonneg_left (show (1 : Int) ≤ 4294967296 ^ d from by omega) (Int.le_of_lt h1)
 omega
theorem val_lt_of_length {xs ys : List Int} (ox : Okd xs) (oy : Okd ys) (ty : Tight ys) (h : xs.length < ys.length) : val xs < val ys := by
 have h1 := val_lt ox
 have h2 := val_ge oy ty (by intro e; subst e; simp at h)
 have h3 : (4294967296 : Int) ^ xs.length ≤ 4294967296 ^ (ys.length - 1) := pow_mono (by omega)
 omega
theorem val_drop_lt {xs ys : List Int} (ox : Okd xs) (oy : Okd ys) {k : Nat} (hl : xs.length = ys.length) (hk : k < xs.length) (hd : xs.drop (k + 1) = ys.drop (k + 1)) (h : xs.getD k 0 < ys.getD k 0) : val xs < val ys := by
 have ex : xs = xs.take (k + 1) ++ xs.drop (k + 1) := (List.take_append_drop _ _).symm
 have ey : ys = ys.take (k + 1) ++ ys.drop (k + 1) := (List.take_append_drop _ _).symm
 have vx : val xs = val (xs.take (k + 1)) + 4294967296 ^ (k + 1) * val (xs.drop (k + 1)) := by
  conv => lhs; rw [ex, val_append]
  rw [List.length_take, Nat.min_eq_left (by omega)]
 have vy : val ys = val (ys.take (k + 1)) + 4294967296 ^ (k + 1) * val (ys.drop (k + 1)) := by
  conv => lhs; rw [ey, val_append]
  rw [List.length_take, Nat.min_eq_left (by omega)]
 have h1 := val_lt (okd_take ox k)
 have h2 := val_nonneg (okd_take oy k)
 rw [List.length_take, Nat.min_eq_left (by omega)] at h1
 rw [vx, vy, hd, val_take_succ hk, val_take_succ (by omega)]
 have h3 := Int.mul_le_mul_of_nonneg_left (show xs.getD k 0 + 1 ≤ ys.getD k 0 from by omega) (Int.le_of_lt (pow_pos' k))
 rw [Int.mul_add, Int.mul_one] at h3
 omega
theorem drop_succ_getD {xs ys : List Int} {k : Nat} (hl : xs.length = ys.length) (hk : k < xs.length) (hd : xs.drop (k + 1) = ys.drop (k + 1)) (h : xs.getD k 0 = ys.getD k 0) : xs.drop k = ys.drop k := by
 rw [List.drop_eq_getElem_cons hk, List.drop_eq_getElem_cons (show k < ys.length from by omega), hd]
 congr 1
 rw [List.getD_eq_getElem?_getD, List.getElem?_eq_getElem hk, List.getD_eq_getElem?_getD, List.getElem?_eq_getElem (show k < ys.length from by omega)] at h
 exact h
def sgn (n : Int) : Int := if n < 0 then -1 else if n = 0 then 0 else 1
theorem wrapU (t : Int) : IntKind.u64.wrap t = t % 18446744073709551616 := by
 simp [IntKind.wrap, IntKind.bits, IntKind.signed]
theorem sub_form (t : Int) (h1 : -8589934592 < t) (h2 : t < 4294967296) : IntKind.u64.wrap t / 9223372036854775808 = (if t < 0 then 1 else 0) ∧ IntKind.u64.wrap t % 4294967296 = t % 4294967296 := by
 rw [wrapU]
 constructor
 ·split <;> omega
 ·omega
theorem sub_wrap (a b : Int) : IntKind.u64.wrap (IntKind.u64.wrap a - b) = IntKind.u64.wrap (a - b) := by
 rw [wrapU, wrapU, wrapU]
 omega
end Go.Proofs.YtlkomiiijhphnaaDoor.Math
namespace Go.Proofs.YtlkomiiijhphnaaDoor.Math
open Go
set_option linter.unusedVariables false
set_option linter.unusedSimpArgs false
theorem two_pow_pos (r : Nat) : (0 : Int) < 2 ^ r := Int.pow_pos (by omega)
theorem two_pow_le {r s : Nat} (h : r ≤ s) : (2 : Int) ^ r ≤ 2 ^ s := by
 obtain ⟨d, rfl⟩ : ∃ d, s = r + d := ⟨s - r, by omega⟩
 rw [Int.pow_add]
 have h1 := two_pow_pos r
 have h2 := two_pow_pos d
 have := Int.mul_le_mul_of_nonneg_left (show (1 : Int) ≤ 2 ^ d from by omega) (Int.le_of_lt h1)
 omega
theorem cast_low (q r : Nat) : ((q : Int) * 2 ^ r) % 4294967296 = (((q * 2 ^ r) % 4294967296 : Nat) : Int) := by
 have e0 : ((q : Int) * 2 ^ r) = ((q * 2 ^ r : Nat) : Int) := by
  rw [Int.natCast_mul, Int.natCast_pow]
  rfl
 rw [e0]
 generalize q * 2 ^ r = m
 omega
theorem or_low {r : Nat} (hr : r ≤ 31) {top t : Int} (h0 : 0 ≤ top) (h1 : top < 2 ^ r) (ht : 0 ≤ t) : bits .or .u32 top ((t * 2 ^ r) % 4294967296) = top + (t * 2 ^ r) % 4294967296 := by
 obtain ⟨a, rfl⟩ := Int.eq_ofNat_of_zero_le h0
 obtain ⟨q, rfl⟩ := Int.eq_ofNat_of_zero_le ht
 have ha : a < 2 ^ r := by exact_mod_cast h1
 have hB : (4294967296 : Nat) = 2 ^ r * 2 ^ (32 - r) := by rw [← Nat.pow_add, show r + (32 - r) = 32 from by omega]
 have hmod : (q * 2 ^ r) % 4294967296 = 2 ^ r * (q % 2 ^ (32 - r)) := by rw [hB, Nat.mul_comm q, Nat.mul_mod_mul_left]
 have e := cast_low q r
 have hle : 2 ^ r ≤ 2 ^ 31 := Nat.pow_le_pow_right (by omega) hr
 rw [e, u32_or_nat a _ (by omega) (Nat.mod_lt _ (by omega)), hmod, Nat.or_comm, ← Nat.two_pow_add_eq_or_of_lt ha]
 push_cast
 omega
structure LshRel (xs : List Int) (r k : Nat) (top : Int) (ds : List Int) : Prop where
 len : ds.length = k
 ok : Okd ds
 c : 0 ≤ top ∧ top < 2 ^ r
 v : val ds + 4294967296 ^ k * top = val (xs.take k) * 2 ^ r
theorem LshRel.start (xs : List Int) (r : Nat) : LshRel xs r 0 0 [] := ⟨rfl, Okd.nil, ⟨by omega, two_pow_pos r⟩, by simp [val]⟩
theorem LshRel.small {xs : List Int} {r k : Nat} {top : Int} {ds : List Int} (h : LshRel xs r k top ds) (hr : r ≤ 31) : 0 ≤ top ∧ top < 2147483648 := by
 have := two_pow_le hr
 have h3 := h.c
 refine ⟨h3.1, ?_⟩
 have e : (2 : Int) ^ 31 = 2147483648 := by decide
 omega
theorem lsh_wide {x : Int} {r : Nat} (hr : r ≤ 31) (h0 : 0 ≤ x) (h1 : x < 4294967296) : IntKind.u64.wrap (x * 2 ^ r) = x * 2 ^ r ∧ 0 ≤ x * 2 ^ r ∧ x * 2 ^ r / 4294967296 < 2 ^ r ∧ x * 2 ^ r < 9223372036854775808 := by
 have hp := two_pow_pos r
 have hle := two_pow_le hr
 have e : (2 : Int) ^ 31 = 2147483648 := by decide
 have a0 : 0 ≤ x * 2 ^ r := Int.mul_nonneg h0 (Int.le_of_lt hp)
 have a1 : x * 2 ^ r ≤ 4294967295 * 2 ^ r := Int.mul_le_mul_of_nonneg_right (by omega) (Int.le_of_lt hp)
 refine ⟨?_, a0, by omega, by omega⟩
 rw [wrapU]
 omega
theorem LshRel.step {xs : List Int} {r k : Nat} {top : Int} {ds : List Int} (h : LshRel xs r k top ds) (ox : Okd xs) (hr : r ≤ 31) (hk : k < xs.length) :
  LshRel xs r (k + 1) (xs.getD k 0 * 2 ^ r / 4294967296) (ds ++ [top + (xs.getD k 0 * 2 ^ r) % 4294967296]) ∧ top + (xs.getD k 0 * 2 ^ r) % 4294967296 < 4294967296 := by
 have h1 := getD_ok ox k
 obtain ⟨w1, w2, w3, _⟩ := lsh_wide hr h1.1 h1.2
 have h3 := h.c
 -- the low digit is a multiple of 2^r
 have hlow : ∃ q : Int, (xs.getD k 0 * 2 ^ r) % 4294967296 = 2 ^ r * q ∧ 0 ≤ q ∧ q + 1 ≤ 2 ^ (32 - r) := by
  obtain ⟨a, ha⟩ := Int.eq_ofNat_of_zero_le h1.1
  have hB : (4294967296 : Nat) = 2 ^ r * 2 ^ (32 - r) := by rw [← Nat.pow_add, show r + (32 - r) = 32 from by omega]
  have hmod : (a * 2 ^ r) % 4294967296 = 2 ^ r * (a % 2 ^ (32 - r)) := by rw [hB, Nat.mul_comm a, Nat.mul_mod_mul_left]
  refine ⟨((a % 2 ^ (32 - r) : Nat) : Int), ?_, by omega, ?_⟩
  ·rw [ha]
   have e := cast_low a r
   rw [e, hmod]
   push_cast
   rfl
  ·have : a % 2 ^ (32 - r) < 2 ^ (32 - r) := Nat.mod_lt _ (Nat.pow_pos (by omega))
   have h2 : ((a % 2 ^ (32 - r) : Nat) : Int) + 1 ≤ ((2 ^ (32 - r) : Nat) : Int) := by exact_mod_cast this
   push_cast at h2 ⊢
   exact h2
 obtain ⟨q, hq, hq0, hq1⟩ := hlow
 have hp := two_pow_pos r
 have hB2 : (2 : Int) ^ r * 2 ^ (32 - r) = 4294967296 := by
  rw [← Int.pow_add, show r + (32 - r) = 32 from by omega]
  decide
 have hlt : top + (xs.getD k 0 * 2 ^ r) % 4294967296 < 4294967296 := by
  rw [hq]
  have := Int.mul_le_mul_of_nonneg_left hq1 (Int.le_of_lt hp)
  rw [Int.mul_add, Int.mul_one, hB2] at this
  omega
 refine ⟨⟨by simp [h.len], h.ok.append (okd_single ⟨by omega, hlt⟩), ⟨by omega, w3⟩, ?_⟩, hlt⟩
 have hv := h.v
 rw [val_append, h.len, val_take_succ hk, Int.add_mul, ← hv, Int.pow_succ]
 simp only [val, Int.mul_zero, Int.add_zero]
 have e : (4294967296 : Int) ^ k * 4294967296 * (xs.getD k 0 * 2 ^ r / 4294967296) + 4294967296 ^ k * ((xs.getD k 0 * 2 ^ r) % 4294967296) = 4294967296 ^ k * xs.getD k 0 * 2 ^ r := by
  rw [Int.mul_assoc, ← Int.mul_add, Int.mul_assoc]
  congr 1
  omega
 rw [Int.mul_add]
 omega
theorem val_replicate (n : Nat) (xs : List Int) : val (List.replicate n 0 ++ xs) = 4294967296 ^ n * val xs := by
 induction n with
 | zero => simp
 | succ n ih =>
  rw [List.replicate_succ, List.cons_append]
  simp only [val, ih, Int.pow_succ]
  rw [Int.zero_add, ← Int.mul_assoc, Int.mul_comm 4294967296]
theorem LshRel.done {xs : List Int} {r : Nat} {top : Int} {ds : List Int} (h : LshRel xs r xs.length top ds) (hr : r ≤ 31) (q : Nat) :
  Okd (List.replicate q 0 ++ ds ++ [top]) ∧ val (List.replicate q 0 ++ ds ++ [top]) = val xs * 2 ^ (32 * q + r) := by
 have h3 := h.small hr
 refine ⟨((okd_replicate q).append h.ok).append (okd_single (by omega)), ?_⟩
 have hv := h.v
 rw [List.take_of_length_le (Nat.le_refl _)] at hv
 rw [List.append_assoc, val_replicate, val_append, h.len]
 simp only [val, Int.mul_zero, Int.add_zero]
 rw [hv, Int.pow_add, Int.pow_mul]
 have e : (2 : Int) ^ 32 = 4294967296 := by decide
 rw [e, ← Int.mul_assoc, ← Int.mul_assoc, Int.mul_comm (val xs)]
theorem set_two (P : List Int) (top a b : Int) (m : Nat) : ((P ++ [top] ++ List.replicate (m + 1) 0).set P.length a).set (P.length + 1) b = P ++ [a] ++ [b] ++ List.replicate m 0 := by
 rw [List.append_assoc, List.set_append_right _ _ (Nat.le_refl _), Nat.sub_self, List.set_append_right _ _ (by omega), show P.length + 1 - P.length = 1 from by omega, List.replicate_succ]
 simp
theorem getD_two (P : List Int) (top : Int) (m : Nat) : (P ++ [top] ++ List.replicate (m + 1) 0).getD P.length 0 = top ∧ (P ++ [top] ++ List.replicate (m + 1) 0).getD (P.length + 1) 0 = 0 := by
 have e : P ++ [top] ++ List.replicate (m + 1) 0 = P ++ (top :: 0 :: List.replicate m 0) := by simp [List.replicate_succ]
 rw [e]
 constructor
 ·rw [List.getD_eq_getElem?_getD, List.getElem?_append_right (Nat.le_refl _), Nat.sub_self]
  rfl
 ·rw [List.getD_eq_getElem?_getD, List.getElem?_append_right (Nat.le_succ _), show P.length + 1 - P.length = 1 from by omega]
  rfl
end Go.Proofs.YtlkomiiijhphnaaDoor.Math
namespace Go.Proofs.YtlkomiiijhphnaaDoor.Math
open Go
set_option linter.unusedVariables false
set_option linter.unusedSimpArgs false
def blen (n : Int) : Nat := if n.natAbs = 0 then 0 else n.natAbs.log2 + 1
theorem log2_unique {a k : Nat} (h1 : 2 ^ k ≤ a) (h2 : a < 2 ^ (k + 1)) : a.log2 = k := by
 have hp := Nat.pow_pos (a := 2) (n := k) (by omega)
 have ha : a ≠ 0 := by omega
 have l1 := (Nat.le_log2 ha).2 h1
 have l2 := (Nat.log2_lt ha).2 h2
 omega
theorem blen_unique {n : Int} {k : Nat} (h1 : 2 ^ k ≤ n.natAbs) (h2 : n.natAbs < 2 ^ (k + 1)) : blen n = k + 1 := by
 have hp := Nat.pow_pos (a := 2) (n := k) (by omega)
 rw [blen, if_neg (by omega), log2_unique h1 h2]
theorem blen_le {n : Int} {k : Nat} : blen n ≤ k ↔ n.natAbs < 2 ^ k := by
 by_cases h : n = 0
 ·subst h
  simp [blen, Nat.pow_pos]
 ·have ha : n.natAbs ≠ 0 := by omega
  rw [blen, if_neg ha, ← Nat.log2_lt ha]
  omega
theorem blen_neg (n : Int) : blen (-n) = blen n := by rw [blen, blen, Int.natAbs_neg]
theorem bitLenAux_log2 : ∀ (f x : Nat), x < 2 ^ f → Lib.bitLenAux f x = if x = 0 then 0 else x.log2 + 1
 | 0, x, h => by
  have : x = 0 := by simpa using h
  subst this
  rfl
 | f + 1, x, h => by
  rw [Lib.bitLenAux]
  by_cases hx : x = 0
  ·rw [if_pos hx, if_pos hx]
  ·rw [if_neg hx, if_neg hx, bitLenAux_log2 f (x / 2) (by rw [Nat.pow_succ] at h; omega)]
   by_cases h2 : 2 ≤ x
   ·rw [if_neg (by omega)]
    conv => rhs; rw [Nat.log2_def, if_pos h2]
    omega
   ·have : x = 1 := by omega
    subst this
    rfl
theorem bitLen_log2 {x : Nat} (h : x < 2 ^ 64) : Lib.bitLen x = if x = 0 then 0 else x.log2 + 1 := bitLenAux_log2 64 x h
theorem cast_pow32 (n : Nat) : ((2 ^ (32 * n) : Nat) : Int) = 4294967296 ^ n := by
 rw [Nat.pow_mul, Int.natCast_pow]
 rfl
theorem blen_digits {ys : List Int} {y : Int} (h : Okd (ys ++ [y])) (hy : y ≠ 0) : blen (val (ys ++ [y])) = 32 * ys.length + Lib.bitLen y.toNat := by
 have h1 := h.right.head
 have h2 := val_nonneg h.left
 have h3 := val_lt h.left
 have hyn : y.toNat ≠ 0 := by omega
 have hyl : y.toNat < 2 ^ 64 := by
  have : (2 : Nat) ^ 64 = 18446744073709551616 := by decide
  omega
 rw [bitLen_log2 hyl, if_neg hyn]
 have l1 := (Nat.le_log2 hyn).1 (Nat.le_refl _)
 have l2 := (Nat.log2_lt hyn).1 (Nat.lt_succ_self _)
 rw [val_append]
 simp only [val, Int.mul_zero, Int.add_zero]
 have e : (val ys + 4294967296 ^ ys.length * y).natAbs = (val ys).toNat + 2 ^ (32 * ys.length) * y.toNat := by
  have : ((2 ^ (32 * ys.length) * y.toNat : Nat) : Int) = 4294967296 ^ ys.length * y := by
   rw [Int.natCast_mul, cast_pow32, Int.toNat_of_nonneg h1.1]
  have h0 : 0 ≤ (4294967296 : Int) ^ ys.length * y := Int.mul_nonneg (Int.le_of_lt (pow_pos' _)) h1.1
  omega
 have hv : (val ys).toNat < 2 ^ (32 * ys.length) := by
  have := cast_pow32 ys.length
  omega
 have hk : 32 * ys.length + (y.toNat.log2 + 1) = (32 * ys.length + y.toNat.log2) + 1 := by omega
 rw [hk]
 refine blen_unique ?_ ?_
 ·rw [e, Nat.pow_add]
  have := Nat.mul_le_mul_left (2 ^ (32 * ys.length)) l1
  omega
 ·rw [e, show 32 * ys.length + y.toNat.log2 + 1 = 32 * ys.length + (y.toNat.log2 + 1) from by omega, Nat.pow_add]
  have := Nat.mul_le_mul_left (2 ^ (32 * ys.length)) (show y.toNat + 1 ≤ 2 ^ (y.toNat.log2 + 1) from l2)
  rw [Nat.mul_add, Nat.mul_one] at this
  omega
theorem tight_length {xs : List Int} (h : Okd xs) (ht : Tight xs) {k : Nat} (hv : val xs < 4294967296 ^ k) : xs.length ≤ k := by
 by_cases e : xs = []
 ·subst e
  simp
 ·have h1 := val_ge h ht e
  rcases Nat.lt_or_ge k xs.length with hl | hl
  ·have := pow_mono (show k ≤ xs.length - 1 from by omega)
   omega
  ·exact hl
def lv : List Int → Int
 | [] => 0
 | x :: xs => x + 16777216 * lv xs
def Okl (xs : List Int) : Prop := ∀ x ∈ xs, 0 ≤ x ∧ x < 16777216
theorem Okl.head {x : Int} {xs : List Int} (h : Okl (x :: xs)) : 0 ≤ x ∧ x < 16777216 := h x List.mem_cons_self
theorem Okl.tail {x : Int} {xs : List Int} (h : Okl (x :: xs)) : Okl xs := fun y hy => h y (List.mem_cons_of_mem _ hy)
theorem lv_nonneg {xs : List Int} (h : Okl xs) : 0 ≤ lv xs := by
 induction xs with
 | nil => simp [lv]
 | cons x xs ih =>
  have h1 := h.head
  have h2 := ih h.tail
  simp only [lv]
  omega
theorem lv_lt {xs : List Int} (h : Okl xs) : lv xs < 16777216 ^ xs.length := by
 induction xs with
 | nil => simp [lv]
 | cons x xs ih =>
  have h1 := h.head
  have h2 := ih h.tail
  simp only [lv, List.length_cons, Int.pow_succ]
  omega
theorem lpow_le (n : Nat) : (16777216 : Int) ^ n ≤ 4294967296 ^ n := by
 induction n with
 | zero => simp
 | succ n ih =>
  rw [Int.pow_succ, Int.pow_succ]
  have h : (0 : Int) < 16777216 ^ n := Int.pow_pos (by omega)
  omega
theorem okl_drop {xs : List Int} (h : Okl xs) (k : Nat) : Okl (xs.drop k) := fun x hx => h x (List.mem_of_mem_drop hx)
theorem lv_drop {xs : List Int} {k : Nat} (h : k < xs.length) : lv (xs.drop k) = xs.getD k 0 + 16777216 * lv (xs.drop (k + 1)) := by
 rw [List.drop_eq_getElem_cons h]
 simp only [lv]
 congr 1
 rw [List.getD_eq_getElem?_getD, List.getElem?_eq_getElem h]
 rfl
def wv (s : Int) (ls : List Int) : Int := if s < 0 then -lv ls else lv ls
end Go.Proofs.YtlkomiiijhphnaaDoor.Math
namespace Go.Proofs.YtlkomiiijhphnaaDoor.Math
open Go Go.RowKit Go.Proofs.YtlkomiiijhphnaaDoorW.PrintWords
set_option linter.unusedVariables false
set_option linter.unusedSimpArgs false
def limbOk (x : Int) : Bool := decide (0 ≤ x) && decide (x ≤ 16777215)
def tailOk (s : Int) (l : List Int) : Bool := if l = [] then s == 0 else decide (l.length ≤ 200) && ((l.getD (l.length - 1) 0 != 0) && (s == 1 || s == -1))
def isW (s : Int) (l : List Int) : Bool := l.all limbOk && tailOk s l
theorem isW_okl {s : Int} {l : List Int} (h : isW s l = true) : Okl l := by
 intro x hx
 have h1 := (Bool.and_eq_true_iff.1 h).1
 have h2 := List.all_eq_true.1 h1 x hx
 simp only [limbOk, Bool.and_eq_true, decide_eq_true_eq] at h2
 omega
theorem isW_len {s : Int} {l : List Int} (h : isW s l = true) : l.length ≤ 200 := by
 have h1 := (Bool.and_eq_true_iff.1 h).2
 unfold tailOk at h1
 by_cases e : l = []
 ·subst e
  simp
 ·rw [if_neg e] at h1
  simp only [Bool.and_eq_true, decide_eq_true_eq] at h1
  exact h1.1
theorem isW_nil {s : Int} (h : isW s [] = true) : s = 0 := by
 have h1 := (Bool.and_eq_true_iff.1 h).2
 simpa [tailOk] using h1
theorem isW_last {s : Int} {l : List Int} (h : isW s l = true) (hne : l ≠ []) : l.getD (l.length - 1) 0 ≠ 0 ∧ (s = 1 ∨ s = -1) := by
 have h1 := (Bool.and_eq_true_iff.1 h).2
 unfold tailOk at h1
 rw [if_neg hne] at h1
 simp only [Bool.and_eq_true, decide_eq_true_eq, bne_iff_ne, Bool.or_eq_true, beq_iff_eq] at h1
 exact ⟨h1.2.1, h1.2.2⟩
theorem rd_cast (l : List Int) (i : Nat) : rd l (i : Int) = l.getD i 0 := by simp [rd]
theorem all_drop (l : List Int) (i : Nat) (h : i < l.length) : (l.drop i).all limbOk = (limbOk (l.getD i 0) && (l.drop (i + 1)).all limbOk) := by
 rw [List.drop_eq_getElem_cons h, List.all_cons, List.getD_eq_getElem?_getD, List.getElem?_eq_getElem h]
 rfl
theorem w64s {x : Int} (h0 : -9223372036854775808 ≤ x) (h1 : x ≤ 9223372036854775807) : wrap64 x = x := by
 unfold wrap64
 omega
end Go.Proofs.YtlkomiiijhphnaaDoor.Math
namespace Go.Proofs.YtlkomiiijhphnaaDoor.Math
open Go Go.RowKit Go.Proofs.YtlkomiiijhphnaaDoorW.PrintWords
set_option linter.unusedVariables false
set_option linter.unusedSimpArgs false
def limbs (m : Nat) : List Int := if h : m = 0 then [] else (m % 16777216 : Nat) :: limbs (m / 16777216)
termination_by m
decreasing_by omega
theorem limbs_zero : limbs 0 = [] := by rw [limbs]; simp
theorem limbs_pos {m : Nat} (h : m ≠ 0) : limbs m = ((m % 16777216 : Nat) : Int) :: limbs (m / 16777216) := by
 rw [limbs]
 simp [h]
theorem limbs_okl (m : Nat) : Okl (limbs m) := by
 induction m using Nat.strongRecOn with
 | ind m ih =>
  by_cases h : m = 0
  ·subst h
   rw [limbs_zero]
   intro x hx
   cases hx
  ·rw [limbs_pos h]
   intro x hx
   rcases List.mem_cons.1 hx with rfl | hx
   ·omega
   ·exact ih _ (by omega) x hx
theorem limbs_lv (m : Nat) : lv (limbs m) = m := by
 induction m using Nat.strongRecOn with
 | ind m ih =>
  by_cases h : m = 0
  ·subst h
   rw [limbs_zero]
   rfl
  ·rw [limbs_pos h]
   simp only [lv]
   rw [ih _ (by omega)]
   omega
theorem limbs_nil {m : Nat} : limbs m = [] ↔ m = 0 := by
 constructor
 ·intro h
  by_cases e : m = 0
  ·exact e
  ·rw [limbs_pos e] at h
   cases h
 ·rintro rfl
  exact limbs_zero
theorem limbs_tight (m : Nat) : Tight (limbs m) := by
 induction m using Nat.strongRecOn with
 | ind m ih =>
  by_cases h : m = 0
  ·subst h
   rw [limbs_zero]
   intro h
   exact absurd rfl h
  ·rw [limbs_pos h]
   by_cases h2 : m / 16777216 = 0
   ·rw [h2, limbs_zero]
    intro _
    simp
    omega
   ·intro _
    have hne : limbs (m / 16777216) ≠ [] := fun e => h2 (limbs_nil.1 e)
    rw [List.getLast_cons hne]
    exact ih _ (by omega) hne
theorem lv_append (xs ys : List Int) : lv (xs ++ ys) = lv xs + 16777216 ^ xs.length * lv ys := by
 induction xs with
 | nil => simp [lv]
 | cons x xs ih =>
  simp only [List.cons_append, lv, ih, List.length_cons, Int.pow_succ]
  rw [Int.mul_add, Int.add_assoc]
  congr 2
  rw [← Int.mul_assoc, Int.mul_comm 16777216 (16777216 ^ xs.length)]
theorem lpow_pos (n : Nat) : (0 : Int) < 16777216 ^ n := Int.pow_pos (by omega)
theorem lpow_mono {a b : Nat} (h : a ≤ b) : (16777216 : Int) ^ a ≤ 16777216 ^ b := by
 obtain ⟨d, rfl⟩ : ∃ d, b = a + d := ⟨b - a, by omega⟩
 rw [Int.pow_add]
 have h1 := lpow_pos a
 have h2 := lpow_pos d
 have := Int.mul_le_mul_of_nonneg_left (show (1 : Int) ≤ 16777216 ^ d from by omega) (Int.le_of_lt h1)
 omega
theorem Okl.nil : Okl [] := by intro x h; cases h
theorem Okl.cons {x : Int} {xs : List Int} (h : 0 ≤ x ∧ x < 16777216) (hs : Okl xs) : Okl (x :: xs) := by
 intro y hy
 rcases List.mem_cons.1 hy with rfl | hy
 ·exact h
 ·exact hs y hy
theorem Okl.append {xs ys : List Int} (h : Okl xs) (hs : Okl ys) : Okl (xs ++ ys) := by
 intro y hy
 rcases List.mem_append.1 hy with hy | hy
 ·exact h y hy
 ·exact hs y hy
theorem Okl.left {xs ys : List Int} (h : Okl (xs ++ ys)) : Okl xs := fun y hy => h y (List.mem_append.2 (.inl hy))
theorem Okl.right {xs ys : List Int} (h : Okl (xs ++ ys)) : Okl ys := fun y hy => h y (List.mem_append.2 (.inr hy))
theorem okl_take {xs : List Int} (h : Okl xs) (k : Nat) : Okl (xs.take k) := fun x hx => h x (List.mem_of_mem_take hx)
theorem okl_getD {xs : List Int} (h : Okl xs) (k : Nat) : 0 ≤ xs.getD k 0 ∧ xs.getD k 0 < 16777216 := by
 rcases Nat.lt_or_ge k xs.length with hk | hk
 ·rw [List.getD_eq_getElem?_getD, List.getElem?_eq_getElem hk]
  exact h _ (List.getElem_mem hk)
 ·rw [List.getD_eq_getElem?_getD, List.getElem?_eq_none hk]
  simp
theorem okl_single {x : Int} (h : 0 ≤ x ∧ x < 16777216) : Okl [x] := Okl.cons h Okl.nil
theorem lv_take_succ {xs : List Int} {k : Nat} (h : k < xs.length) : lv (xs.take (k + 1)) = lv (xs.take k) + 16777216 ^ k * xs.getD k 0 := by
 rw [take_succ_getD h, lv_append, List.length_take, Nat.min_eq_left (by omega)]
 simp [lv]
theorem lv_take_ge {xs : List Int} {k : Nat} (h : xs.length ≤ k) : lv (xs.take (k + 1)) = lv (xs.take k) := by
 rw [List.take_of_length_le h, List.take_of_length_le (by omega)]
theorem lv_ge {xs : List Int} (h : Okl xs) (ht : Tight xs) (hne : xs ≠ []) : (16777216 : Int) ^ (xs.length - 1) ≤ lv xs := by
 rcases snoc_cases xs with rfl | ⟨ys, y, rfl⟩
 ·exact absurd rfl hne
 ·have hy : y ≠ 0 := by simpa using ht (by simp)
  have h1 := (h.right).head
  have h2 := lv_nonneg h.left
  have h3 : (1 : Int) ≤ y := by omega
  rw [lv_append]
  simp only [lv, List.length_append, List.length_cons, List.length_nil, Nat.add_sub_cancel, Nat.zero_add, Int.mul_zero, Int.add_zero]
  have h4 := Int.mul_le_mul_of_nonneg_left h3 (Int.le_of_lt (lpow_pos ys.length))
  omega
theorem lv_eq_zero {xs : List Int} (h : Okl xs) (ht : Tight xs) : lv xs = 0 ↔ xs = [] := by
 constructor
 ·intro hv
  by_cases e : xs = []
  ·exact e
  ·have := lv_ge h ht e
   have := lpow_pos (xs.length - 1)
   omega
 ·rintro rfl
  rfl
theorem tight_tail {x : Int} {xs : List Int} (h : Tight (x :: xs)) : Tight xs := by
 intro hne
 have := h (by simp)
 rwa [List.getLast_cons hne] at this
theorem limbs_of_lv {xs : List Int} (h : Okl xs) (ht : Tight xs) : xs = limbs (lv xs).toNat := by
 induction xs with
 | nil => rw [show (lv []).toNat = 0 from rfl, limbs_zero]
 | cons x xs ih =>
  have h1 := h.head
  have h2 := lv_nonneg h.tail
  have hne : (lv (x :: xs)).toNat ≠ 0 := by
   have h3 := lv_eq_zero h ht
   have h4 := lv_nonneg h
   intro e
   have : lv (x :: xs) = 0 := by omega
   exact absurd (h3.1 this) (by simp)
  rw [limbs_pos hne]
  simp only [lv]
  have e1 : (x + 16777216 * lv xs).toNat % 16777216 = x.toNat := by omega
  have e2 : (x + 16777216 * lv xs).toNat / 16777216 = (lv xs).toNat := by omega
  rw [e1, e2, ← ih h.tail (tight_tail ht)]
  congr 1
  omega
theorem limbs_length_le {m k : Nat} (h : m < 16777216 ^ k) : (limbs m).length ≤ k := by
 by_cases e : limbs m = []
 ·rw [e]
  simp
 ·have h1 := lv_ge (limbs_okl m) (limbs_tight m) e
  rw [limbs_lv] at h1
  rcases Nat.lt_or_ge k (limbs m).length with hl | hl
  ·have := lpow_mono (show k ≤ (limbs m).length - 1 from by omega)
   have h2 : ((16777216 ^ k : Nat) : Int) = 16777216 ^ k := by rw [Int.natCast_pow]; rfl
   omega
  ·exact hl
theorem limbs_lt (m : Nat) : m < 16777216 ^ (limbs m).length := by
 have h := lv_lt (limbs_okl m)
 rw [limbs_lv] at h
 have h2 : ((16777216 ^ (limbs m).length : Nat) : Int) = 16777216 ^ (limbs m).length := by rw [Int.natCast_pow]; rfl
 omega
def cn (n : Int) : Int × List Int := (sgn n, limbs n.natAbs)
structure CW (s : Int) (l : List Int) : Prop where
 ok : Okl l
 ti : Tight l
 z : l = [] → s = 0
 nz : l ≠ [] → s = 1 ∨ s = -1
theorem CW.zero : CW 0 [] := ⟨Okl.nil, (fun h => absurd rfl h), (fun _ => rfl), (fun h => absurd rfl h)⟩
theorem CW.sign {s : Int} {l : List Int} (h : CW s l) : -1 ≤ s ∧ s ≤ 1 := by
 by_cases e : l = []
 ·have := h.z e
  omega
 ·have := h.nz e
  omega
theorem CW.szero {s : Int} {l : List Int} (h : CW s l) : s = 0 ↔ l = [] := by
 constructor
 ·intro e
  by_cases hl : l = []
  ·exact hl
  ·have := h.nz hl
   omega
 ·exact h.z
theorem cw_cn (n : Int) : CW (cn n).1 (cn n).2 := by
 refine ⟨limbs_okl _, limbs_tight _, fun h => ?_, fun h => ?_⟩
 ·have := limbs_nil.1 h
  have : n = 0 := by omega
  subst this
  rfl
 ·have h1 : n.natAbs ≠ 0 := fun e => h (limbs_nil.2 e)
  simp only [cn, sgn]
  split
  ·right; rfl
  ·rw [if_neg (by omega)]
   left; rfl
theorem lv_pos {l : List Int} (h : Okl l) (ht : Tight l) (hne : l ≠ []) : 0 < lv l := by
 have h1 := lv_ge h ht hne
 have := lpow_pos (l.length - 1)
 omega
theorem wv_cn (n : Int) : wv (cn n).1 (cn n).2 = n := by
 simp only [wv, cn, limbs_lv, sgn]
 split
 ·split <;> omega
 ·split <;> (split <;> omega)
theorem wv_zero : wv 0 [] = 0 := rfl
theorem CW.val {s : Int} {l : List Int} (h : CW s l) : wv s l = s * lv l := by
 by_cases e : l = []
 ·have := h.z e
  subst e this
  rfl
 ·have hp := lv_pos h.ok h.ti e
  rcases h.nz e with rfl | rfl
  ·simp [wv]
  ·simp [wv]
theorem CW.natAbs {s : Int} {l : List Int} (h : CW s l) : (wv s l).natAbs = (lv l).toNat := by
 have := lv_nonneg h.ok
 unfold wv
 split <;> omega
theorem CW.eq {s : Int} {l : List Int} (h : CW s l) : (s, l) = cn (wv s l) := by
 simp only [cn, h.natAbs, ← limbs_of_lv h.ok h.ti, Prod.mk.injEq, and_true]
 by_cases e : l = []
 ·have := h.z e
  subst e this
  rfl
 ·have hp := lv_pos h.ok h.ti e
  rcases h.nz e with rfl | rfl
  ·have hv : wv 1 l = lv l := by simp [wv]
   rw [hv]
   unfold Math.sgn
   rw [if_neg (by omega), if_neg (by omega)]
  ·have hv : wv (-1) l = -lv l := by simp [wv]
   rw [hv]
   unfold Math.sgn
   rw [if_pos (by omega)]
theorem CW.sgn {s : Int} {l : List Int} (h : CW s l) : s = sgn (wv s l) := congrArg Prod.fst h.eq
theorem CW.limbs {s : Int} {l : List Int} (h : CW s l) : l = Math.limbs (wv s l).natAbs := congrArg Prod.snd h.eq
theorem tight_getD {l : List Int} (hne : l ≠ []) : l.getLast hne = l.getD (l.length - 1) 0 := by
 have hp : 0 < l.length := List.length_pos_iff.2 hne
 rw [List.getLast_eq_getElem, List.getD_eq_getElem?_getD, List.getElem?_eq_getElem (show l.length - 1 < l.length from by omega)]
 rfl
theorem isW_cw {s : Int} {l : List Int} (h : isW s l = true) : CW s l :=
 ⟨isW_okl h, fun hne => by rw [tight_getD hne]; exact (isW_last h hne).1, fun e => isW_nil (e ▸ h), fun hne => (isW_last h hne).2⟩
theorem cw_isW {s : Int} {l : List Int} (h : CW s l) (hl : l.length ≤ 200) : isW s l = true := by
 simp only [isW, Bool.and_eq_true]
 constructor
 ·rw [List.all_eq_true]
  intro x hx
  have := h.ok x hx
  simp only [limbOk, Bool.and_eq_true, decide_eq_true_eq]
  omega
 ·unfold tailOk
  by_cases e : l = []
  ·rw [if_pos e, h.z e]
   rfl
  ·rw [if_neg e]
   have h1 := h.ti e
   rw [tight_getD e] at h1
   have h2 := h.nz e
   simp only [Bool.and_eq_true, decide_eq_true_eq, bne_iff_ne, Bool.or_eq_true, beq_iff_eq]
   exact ⟨hl, h1, h2⟩
theorem cw_isW_iff {s : Int} {l : List Int} (h : CW s l) : isW s l = decide (l.length ≤ 200) := by
 by_cases hl : l.length ≤ 200
 ·rw [cw_isW h hl, decide_eq_true hl]
 ·rw [decide_eq_false hl]
  cases e : isW s l
  ·rfl
  ·exact absurd (isW_len e) hl
theorem lpow_cast (k : Nat) : ((16777216 ^ k : Nat) : Int) = 16777216 ^ k := by
 rw [Int.natCast_pow]
 rfl
theorem lpow_two (k : Nat) : (16777216 : Nat) ^ k = 2 ^ (24 * k) := by
 rw [Nat.pow_mul]
theorem limbs_len_iff (n : Int) (k : Nat) : (limbs n.natAbs).length ≤ k ↔ blen n ≤ 24 * k := by
 rw [blen_le, ← lpow_two]
 constructor
 ·intro h
  exact Nat.lt_of_lt_of_le (limbs_lt _) (Nat.pow_le_pow_right (by omega) h)
 ·exact limbs_length_le
def nlen (y : Nat) : Nat := if y = 0 then 0 else y.log2 + 1
theorem nlen_step {y : Nat} (h : y ≠ 0) : nlen y = nlen (y / 2) + 1 := by
 unfold nlen
 rw [if_neg h]
 by_cases h2 : 2 ≤ y
 ·rw [if_neg (by omega)]
  conv => lhs; rw [Nat.log2_def, if_pos h2]
 ·have : y = 1 := by omega
  subst this
  rfl
theorem blen_limbs {ys : List Int} {y : Int} (h : Okl (ys ++ [y])) (hy : y ≠ 0) : blen (lv (ys ++ [y])) = 24 * ys.length + nlen y.toNat := by
 have h1 := h.right.head
 have h2 := lv_nonneg h.left
 have h3 := lv_lt h.left
 have hyn : y.toNat ≠ 0 := by omega
 rw [nlen, if_neg hyn]
 have l1 := (Nat.le_log2 hyn).1 (Nat.le_refl _)
 have l2 := (Nat.log2_lt hyn).1 (Nat.lt_succ_self _)
 rw [lv_append]
 simp only [lv, Int.mul_zero, Int.add_zero]
 have hc : ((2 ^ (24 * ys.length) : Nat) : Int) = 16777216 ^ ys.length := by rw [← lpow_two, lpow_cast]
 have e : (lv ys + 16777216 ^ ys.length * y).natAbs = (lv ys).toNat + 2 ^ (24 * ys.length) * y.toNat := by
  have : ((2 ^ (24 * ys.length) * y.toNat : Nat) : Int) = 16777216 ^ ys.length * y := by
   rw [Int.natCast_mul, hc, Int.toNat_of_nonneg h1.1]
  have h0 : 0 ≤ (16777216 : Int) ^ ys.length * y := Int.mul_nonneg (Int.le_of_lt (lpow_pos _)) h1.1
  omega
 have hv : (lv ys).toNat < 2 ^ (24 * ys.length) := by omega
 have hk : 24 * ys.length + (y.toNat.log2 + 1) = (24 * ys.length + y.toNat.log2) + 1 := by omega
 rw [hk]
 refine blen_unique ?_ ?_
 ·rw [e, Nat.pow_add]
  have := Nat.mul_le_mul_left (2 ^ (24 * ys.length)) l1
  omega
 ·rw [e, show 24 * ys.length + y.toNat.log2 + 1 = 24 * ys.length + (y.toNat.log2 + 1) from by omega, Nat.pow_add]
  have := Nat.mul_le_mul_left (2 ^ (24 * ys.length)) (show y.toNat + 1 ≤ 2 ^ (y.toNat.log2 + 1) from l2)
  rw [Nat.mul_add, Nat.mul_one] at this
  omega
theorem blen_wv {s : Int} {l : List Int} (h : CW s l) : blen (wv s l) = blen (lv l) := by
 unfold wv
 split
 ·exact blen_neg _
 ·rfl
theorem lv_lt_of_length {xs ys : List Int} (ox : Okl xs) (oy : Okl ys) (ty : Tight ys) (h : xs.length < ys.length) : lv xs < lv ys := by
 have h1 := lv_lt ox
 have h2 := lv_ge oy ty (by intro e; subst e; simp at h)
 have h3 := lpow_mono (show xs.length ≤ ys.length - 1 from by omega)
 omega
theorem lv_drop_lt {xs ys : List Int} (ox : Okl xs) (oy : Okl ys) {k : Nat} (hl : xs.length = ys.length) (hk : k < xs.length) (hd : xs.drop (k + 1) = ys.drop (k + 1)) (h : xs.getD k 0 < ys.getD k 0) : lv xs < lv ys := by
 have ex : xs = xs.take (k + 1) ++ xs.drop (k + 1) := (List.take_append_drop _ _).symm
 have ey : ys = ys.take (k + 1) ++ ys.drop (k + 1) := (List.take_append_drop _ _).symm
 have vx : lv xs = lv (xs.take (k + 1)) + 16777216 ^ (k + 1) * lv (xs.drop (k + 1)) := by
  conv => lhs; rw [ex, lv_append]
  rw [List.length_take, Nat.min_eq_left (by omega)]
 have vy : lv ys = lv (ys.take (k + 1)) + 16777216 ^ (k + 1) * lv (ys.drop (k + 1)) := by
  conv => lhs; rw [ey, lv_append]
  rw [List.length_take, Nat.min_eq_left (by omega)]
 have h1 := lv_lt (okl_take ox k)
 have h2 := lv_nonneg (okl_take oy k)
 rw [List.length_take, Nat.min_eq_left (by omega)] at h1
 rw [vx, vy, hd, lv_take_succ hk, lv_take_succ (by omega)]
 have h3 := Int.mul_le_mul_of_nonneg_left (show xs.getD k 0 + 1 ≤ ys.getD k 0 from by omega) (Int.le_of_lt (lpow_pos k))
 rw [Int.mul_add, Int.mul_one] at h3
 omega
theorem sgn_lt {a b : Int} (h : a < b) : sgn (a - b) = -1 := by
 simp only [sgn]
 rw [if_pos (by omega)]
theorem sgn_gt {a b : Int} (h : b < a) : sgn (a - b) = 1 := by
 simp only [sgn]
 rw [if_neg (by omega), if_neg (by omega)]
theorem sgn_bounds (n : Int) : -1 ≤ sgn n ∧ sgn n ≤ 1 := by
 simp only [sgn]
 split
 ·omega
 ·split <;> omega
theorem sgn_cw {s t : Int} {l m : List Int} (h : CW s l) (k : CW t m) : sgn (wv s l - wv t m) = if s = t then s * sgn (lv l - lv m) else if s < t then -1 else 1 := by
 have h1 := lv_nonneg h.ok
 have h2 := lv_nonneg k.ok
 have a1 := h.sign
 have a2 := k.sign
 have p1 : s ≠ 0 → 0 < lv l := fun e => lv_pos h.ok h.ti (fun e2 => e (h.z e2))
 have p2 : t ≠ 0 → 0 < lv m := fun e => lv_pos k.ok k.ti (fun e2 => e (k.z e2))
 have z1 : s = 0 → lv l = 0 := fun e => by rw [h.szero.1 e]; rfl
 have z2 : t = 0 → lv m = 0 := fun e => by rw [k.szero.1 e]; rfl
 rw [h.val, k.val]
 rcases (show s = -1 ∨ s = 0 ∨ s = 1 from by omega) with rfl | rfl | rfl <;> rcases (show t = -1 ∨ t = 0 ∨ t = 1 from by omega) with rfl | rfl | rfl <;> simp only [sgn] <;> simp at p1 p2 z1 z2 ⊢ <;> (repeat' split) <;> omega
end Go.Proofs.YtlkomiiijhphnaaDoor.Math
namespace Go.Proofs.YtlkomiiijhphnaaDoor.Math
open Go Go.RowKit
set_option linter.unusedVariables false
set_option linter.unusedSimpArgs false
theorem val_set {xs : List Int} {k : Nat} (h : k < xs.length) (x : Int) : val (xs.set k x) = val xs + 4294967296 ^ k * (x - xs.getD k 0) := by
 induction xs generalizing k with
 | nil => simp at h
 | cons y ys ih =>
  cases k with
  | zero => simp [val]; omega
  | succ k =>
   have := ih (k := k) (by simpa using h)
   simp only [List.set_cons_succ, val, this, List.getD_cons_succ, Int.pow_succ, Int.mul_add]
   rw [Int.mul_comm (4294967296 ^ k) 4294967296, Int.mul_assoc, Int.add_assoc]
theorem okd_set {xs : List Int} (h : Okd xs) (k : Nat) {x : Int} (hx : 0 ≤ x ∧ x < 4294967296) : Okd (xs.set k x) := by
 intro y hy
 rcases List.mem_or_eq_of_mem_set hy with hy | rfl
 ·exact h y hy
 ·exact hx
theorem getD_set_ne {xs : List Int} {i j : Nat} (x : Int) (h : i ≠ j) : (xs.set i x).getD j 0 = xs.getD j 0 := by
 rw [List.getD_eq_getElem?_getD, List.getD_eq_getElem?_getD, List.getElem?_set_ne h]
theorem mul_bound {a b : Int} (ha : 0 ≤ a ∧ a < 4294967296) (hb : 0 ≤ b ∧ b < 4294967296) : 0 ≤ a * b ∧ a * b ≤ 18446744065119617025 := by
 refine ⟨Int.mul_nonneg ha.1 hb.1, ?_⟩
 have := Int.mul_le_mul (show a ≤ 4294967295 from by omega) (show b ≤ 4294967295 from by omega) hb.1 (by omega)
 omega
structure MulRel (xs ys : List Int) (k : Nat) (os : List Int) : Prop where
 len : os.length = xs.length + ys.length
 ok : Okd os
 z : ∀ j, k + ys.length ≤ j → os.getD j 0 = 0
 v : val os = val (xs.take k) * val ys
theorem val_zeros (n : Nat) : val (List.replicate n 0) = 0 := by
 induction n with
 | zero => rfl
 | succ n ih => simp [List.replicate_succ, val, ih]
theorem getD_zeros (n j : Nat) : (List.replicate n (0 : Int)).getD j 0 = 0 := by
 rw [List.getD_eq_getElem?_getD, List.getElem?_replicate]
 split <;> rfl
theorem MulRel.start (xs ys : List Int) : MulRel xs ys 0 (List.replicate (xs.length + ys.length) 0) :=
 ⟨by simp, okd_replicate _, fun j _ => getD_zeros _ j, by simp [val, val_zeros]⟩
structure MulIn (xs ys : List Int) (k i : Nat) (carry : Int) (os : List Int) : Prop where
 len : os.length = xs.length + ys.length
 ok : Okd os
 z : ∀ j, k + ys.length ≤ j → os.getD j 0 = 0
 v : val os + 4294967296 ^ (k + i) * carry = val (xs.take k) * val ys + 4294967296 ^ k * (xs.getD k 0 * val (ys.take i))
theorem MulRel.inner {xs ys : List Int} {k : Nat} {os : List Int} (h : MulRel xs ys k os) : MulIn xs ys k 0 0 os :=
 ⟨h.len, h.ok, h.z, by simp [h.v, val]⟩
theorem MulIn.step {xs ys : List Int} {k i : Nat} {carry : Int} {os : List Int} (h : MulIn xs ys k i carry os) (hk : k < xs.length) (hi : i < ys.length) {t : Int} (ht : t = carry + xs.getD k 0 * ys.getD i 0 + os.getD (k + i) 0) :
  MulIn xs ys k (i + 1) (t / 4294967296) (os.set (k + i) (t % 4294967296)) := by
 refine ⟨by simp [h.len], okd_set h.ok _ (by omega), fun j hj => ?_, ?_⟩
 ·rw [getD_set_ne _ (by omega)]
  exact h.z j hj
 ·rw [val_set (by rw [h.len]; omega), val_take_succ hi]
  have hv := h.v
  have e1 : (4294967296 : Int) ^ (k + (i + 1)) * (t / 4294967296) = 4294967296 ^ (k + i) * (t - t % 4294967296) := by
   rw [← Nat.add_assoc, Int.pow_succ, Int.mul_assoc]
   congr 1
   omega
  rw [e1, Int.mul_add, Int.mul_add, Int.mul_left_comm (xs.getD k 0) (4294967296 ^ i), ← Int.mul_assoc (4294967296 ^ k) (4294967296 ^ i), ← Int.pow_add, ← Int.add_assoc (val (xs.take k) * val ys), ← hv]
  have e2 : t - os.getD (k + i) 0 = carry + xs.getD k 0 * ys.getD i 0 := by omega
  rw [Int.add_assoc, Int.add_assoc, ← Int.mul_add, ← Int.mul_add]
  congr 2
  omega
theorem MulIn.small {xs ys : List Int} {k i : Nat} {carry : Int} {os : List Int} (h : MulIn xs ys k i carry os) (hx : Okd xs) (hy : Okd ys) (hi : i < ys.length) (hc : 0 ≤ carry ∧ carry < 4294967296) :
  0 ≤ carry + xs.getD k 0 * ys.getD i 0 + os.getD (k + i) 0 ∧ carry + xs.getD k 0 * ys.getD i 0 + os.getD (k + i) 0 < 18446744073709551616 := by
 have h1 := mul_bound (getD_ok hx k) (getD_ok hy i)
 have h2 := getD_ok h.ok (k + i)
 omega
theorem MulIn.done {xs ys : List Int} {k : Nat} {carry : Int} {os : List Int} (h : MulIn xs ys k ys.length carry os) (hk : k < xs.length) (hc : 0 ≤ carry ∧ carry < 4294967296) :
  MulRel xs ys (k + 1) (os.set (k + ys.length) carry) := by
 refine ⟨by simp [h.len], okd_set h.ok _ hc, fun j hj => ?_, ?_⟩
 ·rw [getD_set_ne _ (by omega)]
  exact h.z j (by omega)
 ·rw [val_set (by rw [h.len]; omega), h.z _ (Nat.le_refl _), Int.sub_zero, h.v, val_take_succ hk, List.take_of_length_le (Nat.le_refl _), Int.add_mul, Int.mul_assoc]
theorem MulRel.done {xs ys : List Int} {os : List Int} (h : MulRel xs ys xs.length os) : val os = val xs * val ys := by
 rw [h.v, List.take_of_length_le (Nat.le_refl _)]
end Go.Proofs.YtlkomiiijhphnaaDoor.Math
namespace Go.Proofs.YtlkomiiijhphnaaDoor.Math
open Go Go.RowKit
set_option linter.unusedVariables false
set_option linter.unusedSimpArgs false
theorem val_drop {xs : List Int} {k : Nat} (h : k < xs.length) : val (xs.drop k) = xs.getD k 0 + 4294967296 * val (xs.drop (k + 1)) := by
 have e : xs.drop k = xs.getD k 0 :: xs.drop (k + 1) := by
  rw [List.getD_eq_getElem?_getD, List.getElem?_eq_getElem h]
  exact List.drop_eq_getElem_cons h
 rw [e]
 rfl
theorem val_drop_ge {xs : List Int} {k : Nat} (h : xs.length ≤ k) : val (xs.drop k) = 0 := by
 rw [List.drop_of_length_le h]
 rfl
theorem rsh_digit {r : Nat} (hr : r ≤ 31) (a b v : Int) : ((a + 4294967296 * (b + 4294967296 * v)) / 2 ^ r) % 4294967296 = ((a + 4294967296 * b) / 2 ^ r) % 4294967296 := by
 obtain ⟨s, hs⟩ : ∃ s, r + s = 32 := ⟨32 - r, by omega⟩
 have hp : (4294967296 : Int) = 2 ^ r * 2 ^ s := by rw [← Int.pow_add, hs]; decide
 have h2 := two_pow_pos r
 have e : a + 4294967296 * (b + 4294967296 * v) = (a + 4294967296 * b) + 2 ^ r * (2 ^ s * (4294967296 * v)) := by
  rw [← Int.mul_assoc (2 ^ r) (2 ^ s), ← hp]
  omega
 rw [e, Int.add_mul_ediv_left _ _ (by omega), Int.mul_left_comm, Int.add_mul_emod_self_left]
theorem rsh_rest {r : Nat} (a v : Int) (ha : 0 ≤ a ∧ a < 4294967296) : ((a + 4294967296 * v) / 2 ^ r) / 4294967296 = v / 2 ^ r := by
 rw [Int.ediv_ediv_of_nonneg (by have := two_pow_pos r; omega), Int.mul_comm (2 ^ r) 4294967296, ← Int.ediv_ediv_of_nonneg (by omega)]
 congr 1
 omega
structure RshRel (xs : List Int) (r q k : Nat) (ds : List Int) : Prop where
 len : ds.length = k - q
 ok : Okd ds
 v : val ds + 4294967296 ^ (k - q) * (val (xs.drop k) / 2 ^ r) = val (xs.drop q) / 2 ^ r
theorem RshRel.start (xs : List Int) (r q : Nat) : RshRel xs r q q [] := ⟨by simp, Okd.nil, by simp [val]⟩
theorem RshRel.step {xs : List Int} {r q k : Nat} {ds : List Int} (h : RshRel xs r q k ds) (ox : Okd xs) (hr : r ≤ 31) (hq : q ≤ k) (hk : k < xs.length) {d : Int}
  (hd : d = ((xs.getD k 0 + 4294967296 * xs.getD (k + 1) 0) / 2 ^ r) % 4294967296) : RshRel xs r q (k + 1) (ds ++ [d]) := by
 have hl := h.len
 refine ⟨by simp [hl]; omega, h.ok.append (okd_single (by omega)), ?_⟩
 rw [val_append, hl, ← h.v, show k + 1 - q = (k - q) + 1 from by omega, Int.pow_succ, Int.add_assoc, Int.mul_assoc, ← Int.mul_add]
 congr 2
 rw [val_drop hk]
 have e : d = ((xs.getD k 0 + 4294967296 * val (xs.drop (k + 1))) / 2 ^ r) % 4294967296 := by
  rw [hd]
  rcases Nat.lt_or_ge (k + 1) xs.length with h2 | h2
  ·rw [val_drop h2, rsh_digit hr]
  ·rw [val_drop_ge h2, show xs.getD (k + 1) 0 = 0 from by rw [List.getD_eq_getElem?_getD, List.getElem?_eq_none h2]; rfl]
 have e2 := rsh_rest (r := r) (xs.getD k 0) (val (xs.drop (k + 1))) (getD_ok ox k)
 simp only [val]
 omega
theorem val_split (xs : List Int) (q : Nat) (ox : Okd xs) : val (xs.drop q) = val xs / 4294967296 ^ q := by
 have e : xs = xs.take q ++ xs.drop q := (List.take_append_drop q xs).symm
 have ho := okd_take ox q
 have h0 := val_nonneg ho
 have h1 := val_lt ho
 rcases Nat.lt_or_ge q xs.length with hq | hq
 ·have hv : val xs = val (xs.take q) + 4294967296 ^ q * val (xs.drop q) := by
   conv => lhs; rw [e, val_append]
   rw [List.length_take, Nat.min_eq_left (by omega)]
  rw [List.length_take, Nat.min_eq_left (by omega)] at h1
  have hp := pow_pos' q
  rw [hv, Int.add_mul_ediv_left _ _ (by omega), Int.ediv_eq_zero_of_lt h0 h1]
  omega
 ·have hv := val_lt ox
  have := pow_mono hq
  rw [val_drop_ge hq, Int.ediv_eq_zero_of_lt (val_nonneg ox) (by omega)]
theorem RshRel.done {xs : List Int} {r q k : Nat} {ds : List Int} (h : RshRel xs r q k ds) (ox : Okd xs) (hk : xs.length ≤ k) : val ds = val xs / 2 ^ (32 * q + r) := by
 have hv := h.v
 rw [val_drop_ge hk, Int.zero_ediv, Int.mul_zero, Int.add_zero, val_split xs q ox] at hv
 rw [hv, Int.ediv_ediv_of_nonneg (by have := pow_pos' q; omega)]
 congr 1
 rw [Int.pow_add, Int.pow_mul]
 rfl
end Go.Proofs.YtlkomiiijhphnaaDoor.Math
namespace Go.Proofs.YtlkomiiijhphnaaDoor.Math
open Go Go.RowKit
set_option linter.unusedVariables false
set_option linter.unusedSimpArgs false
theorem okl_replicate (n : Nat) : Okl (List.replicate n 0) := by
 intro x hx
 obtain ⟨_, rfl⟩ := List.mem_replicate.1 hx
 omega
theorem lmul_bound {a b : Int} (ha : 0 ≤ a ∧ a < 16777216) (hb : 0 ≤ b ∧ b < 16777216) : 0 ≤ a * b ∧ a * b ≤ 281474943156225 := by
 refine ⟨Int.mul_nonneg ha.1 hb.1, ?_⟩
 have := Int.mul_le_mul (show a ≤ 16777215 from by omega) (show b ≤ 16777215 from by omega) hb.1 (by omega)
 omega
theorem lv_step (xs : List Int) (k : Nat) : lv (xs.take (k + 1)) = lv (xs.take k) + 16777216 ^ k * xs.getD k 0 := by
 rcases Nat.lt_or_ge k xs.length with h | h
 ·exact lv_take_succ h
 ·rw [lv_take_ge h, show xs.getD k 0 = 0 from by rw [List.getD_eq_getElem?_getD, List.getElem?_eq_none h]; rfl]
  omega
structure PlusRel (xs ys : List Int) (k : Nat) (carry : Int) (ds : List Int) : Prop where
 len : ds.length = k
 ok : Okl ds
 c : 0 ≤ carry ∧ carry ≤ 1
 v : lv ds + 16777216 ^ k * carry = lv (xs.take k) + lv (ys.take k)
theorem PlusRel.start (xs ys : List Int) : PlusRel xs ys 0 0 [] := ⟨rfl, Okl.nil, by omega, by simp [lv]⟩
theorem PlusRel.step {xs ys : List Int} {k : Nat} {carry : Int} {ds : List Int} (h : PlusRel xs ys k carry ds) (ox : Okl xs) (oy : Okl ys) {t : Int}
  (ht : t = carry + xs.getD k 0 + ys.getD k 0) : PlusRel xs ys (k + 1) (t / 16777216) (ds ++ [t % 16777216]) := by
 have h1 := okl_getD ox k
 have h2 := okl_getD oy k
 have hc := h.c
 refine ⟨by simp [h.len], h.ok.append (okl_single (by omega)), by omega, ?_⟩
 rw [lv_append, h.len, lv_step, lv_step, Int.pow_succ, Int.mul_assoc]
 have hv := h.v
 have e : 16777216 ^ k * lv [t % 16777216] + 16777216 ^ k * (16777216 * (t / 16777216)) = 16777216 ^ k * carry + 16777216 ^ k * xs.getD k 0 + 16777216 ^ k * ys.getD k 0 := by
  rw [← Int.mul_add, ← Int.mul_add, ← Int.mul_add]
  congr 1
  simp only [lv]
  omega
 omega
theorem PlusRel.done {xs ys : List Int} {k : Nat} {ds : List Int} (h : PlusRel xs ys k 0 ds) (hx : xs.length ≤ k) (hy : ys.length ≤ k) : lv ds = lv xs + lv ys := by
 have := h.v
 rw [List.take_of_length_le hx, List.take_of_length_le hy] at this
 omega
structure MinusRel (xs ys : List Int) (k : Nat) (borrow : Int) (ds : List Int) : Prop where
 len : ds.length = k
 ok : Okl ds
 c : 0 ≤ borrow ∧ borrow ≤ 1
 v : lv ds - 16777216 ^ k * borrow = lv (xs.take k) - lv (ys.take k)
theorem MinusRel.start (xs ys : List Int) : MinusRel xs ys 0 0 [] := ⟨rfl, Okl.nil, by omega, by simp [lv]⟩
theorem MinusRel.step {xs ys : List Int} {k : Nat} {borrow b : Int} {ds : List Int} (h : MinusRel xs ys k borrow ds) {t : Int} (hb : 0 ≤ b ∧ b ≤ 1) (h0 : 0 ≤ t ∧ t < 16777216)
  (ht : t = xs.getD k 0 - borrow - ys.getD k 0 + 16777216 * b) : MinusRel xs ys (k + 1) b (ds ++ [t]) := by
 refine ⟨by simp [h.len], h.ok.append (okl_single h0), hb, ?_⟩
 rw [lv_append, h.len, lv_step, lv_step, Int.pow_succ, Int.mul_assoc]
 have hv := h.v
 have e : 16777216 ^ k * lv [t] - 16777216 ^ k * (16777216 * b) = 16777216 ^ k * xs.getD k 0 - 16777216 ^ k * borrow - 16777216 ^ k * ys.getD k 0 := by
  rw [← Int.mul_sub, ← Int.mul_sub, ← Int.mul_sub]
  congr 1
  simp only [lv]
  omega
 omega
theorem MinusRel.done {xs ys : List Int} {b : Int} {ds : List Int} (h : MinusRel xs ys xs.length b ds) (hl : ys.length ≤ xs.length) (hv : lv ys ≤ lv xs) : lv ds = lv xs - lv ys := by
 have h2 := h.v
 rw [List.take_of_length_le (Nat.le_refl _), List.take_of_length_le hl] at h2
 have h3 := lv_lt h.ok
 rw [h.len] at h3
 have hb := h.c
 have hp := lpow_pos xs.length
 rcases (show b = 0 ∨ b = 1 from by omega) with rfl | rfl
 ·omega
 ·rw [Int.mul_one] at h2
  omega
theorem lv_set {xs : List Int} {k : Nat} (h : k < xs.length) (x : Int) : lv (xs.set k x) = lv xs + 16777216 ^ k * (x - xs.getD k 0) := by
 induction xs generalizing k with
 | nil => simp at h
 | cons y ys ih =>
  cases k with
  | zero => simp [lv]; omega
  | succ k =>
   have := ih (k := k) (by simpa using h)
   simp only [List.set_cons_succ, lv, this, List.getD_cons_succ, Int.pow_succ, Int.mul_add]
   rw [Int.mul_comm (16777216 ^ k) 16777216, Int.mul_assoc, Int.add_assoc]
theorem okl_set {xs : List Int} (h : Okl xs) (k : Nat) {x : Int} (hx : 0 ≤ x ∧ x < 16777216) : Okl (xs.set k x) := by
 intro y hy
 rcases List.mem_or_eq_of_mem_set hy with hy | rfl
 ·exact h y hy
 ·exact hx
structure LMulRel (xs ys : List Int) (k : Nat) (os : List Int) : Prop where
 len : os.length = xs.length + ys.length + 1
 ok : Okl os
 z : ∀ j, k + ys.length ≤ j → os.getD j 0 = 0
 v : lv os = lv (xs.take k) * lv ys
theorem lv_zeros (n : Nat) : lv (List.replicate n 0) = 0 := by
 induction n with
 | zero => rfl
 | succ n ih => simp [List.replicate_succ, lv, ih]
theorem LMulRel.start (xs ys : List Int) : LMulRel xs ys 0 (List.replicate (xs.length + ys.length + 1) 0) :=
 ⟨by simp, okl_replicate _, fun j _ => getD_zeros _ j, by simp [lv, lv_zeros]⟩
structure LMulIn (xs ys : List Int) (k i : Nat) (carry : Int) (os : List Int) : Prop where
 len : os.length = xs.length + ys.length + 1
 ok : Okl os
 z : ∀ j, k + ys.length ≤ j → os.getD j 0 = 0
 v : lv os + 16777216 ^ (k + i) * carry = lv (xs.take k) * lv ys + 16777216 ^ k * (xs.getD k 0 * lv (ys.take i))
theorem LMulRel.inner {xs ys : List Int} {k : Nat} {os : List Int} (h : LMulRel xs ys k os) : LMulIn xs ys k 0 0 os :=
 ⟨h.len, h.ok, h.z, by simp [h.v, lv]⟩
theorem LMulIn.step {xs ys : List Int} {k i : Nat} {carry : Int} {os : List Int} (h : LMulIn xs ys k i carry os) (hk : k < xs.length) (hi : i < ys.length) {t : Int} (ht : t = carry + xs.getD k 0 * ys.getD i 0 + os.getD (k + i) 0) :
  LMulIn xs ys k (i + 1) (t / 16777216) (os.set (k + i) (t % 16777216)) := by
 refine ⟨by simp [h.len], okl_set h.ok _ (by omega), fun j hj => ?_, ?_⟩
 ·rw [getD_set_ne _ (by omega)]
  exact h.z j hj
 ·rw [lv_set (by rw [h.len]; omega), lv_take_succ hi]
  have hv := h.v
  have e1 : (16777216 : Int) ^ (k + (i + 1)) * (t / 16777216) = 16777216 ^ (k + i) * (t - t % 16777216) := by
   rw [← Nat.add_assoc, Int.pow_succ, Int.mul_assoc]
   congr 1
   omega
  rw [e1, Int.mul_add, Int.mul_add, Int.mul_left_comm (xs.getD k 0) (16777216 ^ i), ← Int.mul_assoc (16777216 ^ k) (16777216 ^ i), ← Int.pow_add, ← Int.add_assoc (lv (xs.take k) * lv ys), ← hv]
  have e2 : t - os.getD (k + i) 0 = carry + xs.getD k 0 * ys.getD i 0 := by omega
  rw [Int.add_assoc, Int.add_assoc, ← Int.mul_add, ← Int.mul_add]
  congr 2
  omega
theorem LMulIn.small {xs ys : List Int} {k i : Nat} {carry : Int} {os : List Int} (h : LMulIn xs ys k i carry os) (hx : Okl xs) (hy : Okl ys) (hi : i < ys.length) (hc : 0 ≤ carry ∧ carry < 16777216) :
  0 ≤ carry + xs.getD k 0 * ys.getD i 0 + os.getD (k + i) 0 ∧ carry + xs.getD k 0 * ys.getD i 0 + os.getD (k + i) 0 < 281474976710656 := by
 have h1 := lmul_bound (okl_getD hx k) (okl_getD hy i)
 have h2 := okl_getD h.ok (k + i)
 omega
theorem LMulIn.done {xs ys : List Int} {k : Nat} {carry : Int} {os : List Int} (h : LMulIn xs ys k ys.length carry os) (hk : k < xs.length) (hc : 0 ≤ carry ∧ carry < 16777216) :
  LMulRel xs ys (k + 1) (os.set (k + ys.length) carry) := by
 refine ⟨by simp [h.len], okl_set h.ok _ hc, fun j hj => ?_, ?_⟩
 ·rw [getD_set_ne _ (by omega)]
  exact h.z j (by omega)
 ·rw [lv_set (by rw [h.len]; omega), h.z _ (Nat.le_refl _), Int.sub_zero, h.v, lv_take_succ hk, List.take_of_length_le (Nat.le_refl _), Int.add_mul, Int.mul_assoc]
theorem LMulRel.done {xs ys : List Int} {os : List Int} (h : LMulRel xs ys xs.length os) : lv os = lv xs * lv ys := by
 rw [h.v, List.take_of_length_le (Nat.le_refl _)]
end Go.Proofs.YtlkomiiijhphnaaDoor.Math
namespace Go.Proofs.YtlkomiiijhphnaaDoor.Math
open Go Go.RowKit
set_option linter.unusedVariables false
set_option linter.unusedSimpArgs false
structure IsTz (m k : Nat) : Prop where
 z : m % 2 ^ k = 0
 o : m / 2 ^ k % 2 = 1
theorem IsTz.ne {m k : Nat} (h : IsTz m k) : m ≠ 0 := by
 rintro rfl
 have := h.o
 simp at this
theorem mod_pow_dvd {m j k : Nat} (h : m % 2 ^ k = 0) (hjk : j ≤ k) : m % 2 ^ j = 0 :=
 Nat.mod_eq_zero_of_dvd (Nat.dvd_trans (Nat.pow_dvd_pow 2 hjk) (Nat.dvd_of_mod_eq_zero h))
theorem IsTz.le {m j k : Nat} (h : IsTz m k) (g : m % 2 ^ j = 0) : j ≤ k := by
 rcases Nat.lt_or_ge k j with hlt | hge
 ·have h1 := mod_pow_dvd g (show k + 1 ≤ j from hlt)
  rw [Nat.mod_pow_succ, h.z, h.o] at h1
  have := Nat.two_pow_pos k
  omega
 ·exact hge
theorem IsTz.unique {m j k : Nat} (h : IsTz m j) (g : IsTz m k) : j = k := Nat.le_antisymm (g.le h.z) (h.le g.z)
theorem IsTz.up {d k : Nat} (h : IsTz d k) (hk : k < 32) (i r : Nat) : IsTz (2 ^ (32 * i) * (d + 4294967296 * r)) (32 * i + k) := by
 have hp := Nat.two_pow_pos (32 * i)
 obtain ⟨s, hs⟩ : ∃ s, k + 1 + s = 32 := ⟨31 - k, by omega⟩
 have h32 : (4294967296 : Nat) = 2 ^ k * (2 * 2 ^ s) := by
  rw [← Nat.mul_assoc, ← Nat.pow_succ, ← Nat.pow_add, hs]
 have hk0 := Nat.two_pow_pos k
 have e : d + 4294967296 * r = d + 2 ^ k * (2 * 2 ^ s * r) := by rw [h32, Nat.mul_assoc]
 refine ⟨?_, ?_⟩
 ·rw [Nat.pow_add, Nat.mul_mod_mul_left, e, Nat.add_mul_mod_self_left, h.z, Nat.mul_zero]
 ·rw [Nat.pow_add, ← Nat.div_div_eq_div_mul, Nat.mul_div_cancel_left _ hp, e, Nat.add_mul_div_left _ _ hk0, Nat.mul_assoc, Nat.add_mul_mod_self_left]
  exact h.o
end Go.Proofs.YtlkomiiijhphnaaDoor.Math
namespace Go.Proofs.YtlkomiiijhphnaaDoor.Math
open Go Go.RowKit
set_option linter.unusedVariables false
set_option linter.unusedSimpArgs false
structure LeftRel (xs : List Int) (r k : Nat) (carry : Int) (ds : List Int) : Prop where
 len : ds.length = k
 ok : Okl ds
 c : 0 ≤ carry ∧ carry < 16777216
 v : lv ds + 16777216 ^ k * carry = 2 ^ r * lv (xs.take k)
theorem LeftRel.start (xs : List Int) (r : Nat) : LeftRel xs r 0 0 [] := ⟨rfl, Okl.nil, by omega, by simp [lv]⟩
theorem two24 {r : Nat} (hr : r < 24) : (0 : Int) < 2 ^ r ∧ (2 : Int) ^ r ≤ 8388608 := ⟨two_pow_pos r, two_pow_le (s := 23) (by omega)⟩
theorem left_wide {x : Int} {r : Nat} (hr : r < 24) (h : 0 ≤ x ∧ x < 16777216) : 0 ≤ x * 2 ^ r ∧ x * 2 ^ r ≤ 16777215 * 8388608 := by
 obtain ⟨h1, h2⟩ := two24 hr
 exact ⟨Int.mul_nonneg h.1 (by omega), Int.mul_le_mul (by omega) h2 (by omega) (by omega)⟩
theorem LeftRel.step {xs : List Int} {r k : Nat} {carry : Int} {ds : List Int} (h : LeftRel xs r k carry ds) (ox : Okl xs) (hr : r < 24) (hk : k < xs.length) {t : Int}
  (ht : t = carry + xs.getD k 0 * 2 ^ r) : LeftRel xs r (k + 1) (t / 16777216) (ds ++ [t % 16777216]) := by
 have h1 := left_wide hr (okl_getD ox k)
 have hc := h.c
 refine ⟨by simp [h.len], h.ok.append (okl_single (by omega)), by omega, ?_⟩
 rw [lv_append, h.len, lv_take_succ hk, Int.pow_succ, Int.mul_assoc]
 have hv := h.v
 have e : 16777216 ^ k * lv [t % 16777216] + 16777216 ^ k * (16777216 * (t / 16777216)) = 16777216 ^ k * carry + 2 ^ r * (16777216 ^ k * xs.getD k 0) := by
  rw [← Int.mul_add, Int.mul_left_comm, ← Int.mul_add]
  congr 1
  rw [Int.mul_comm (2 ^ r)]
  simp only [lv]
  omega
 rw [Int.mul_add]
 omega
theorem lv_replicate (n : Nat) (xs : List Int) : lv (List.replicate n 0 ++ xs) = 16777216 ^ n * lv xs := by
 rw [lv_append, lv_zeros, List.length_replicate]
 omega
theorem LeftRel.done {xs : List Int} {r : Nat} {carry : Int} {ds : List Int} (h : LeftRel xs r xs.length carry ds) (q : Nat) :
  Okl (List.replicate q 0 ++ ds ++ [carry]) ∧ lv (List.replicate q 0 ++ ds ++ [carry]) = lv xs * 2 ^ (24 * q + r) := by
 refine ⟨((okl_replicate q).append h.ok).append (okl_single h.c), ?_⟩
 rw [List.append_assoc, lv_replicate, lv_append, h.len]
 have hv := h.v
 rw [List.take_of_length_le (Nat.le_refl _)] at hv
 rw [show lv [carry] = carry from by simp [lv], hv, Int.pow_add, Int.pow_mul, show (2 : Int) ^ 24 = 16777216 from by decide, Int.mul_comm (lv xs), Int.mul_assoc]
theorem lv_drop_cons {xs : List Int} {k : Nat} (h : k < xs.length) : lv (xs.drop k) = xs.getD k 0 + 16777216 * lv (xs.drop (k + 1)) := lv_drop h
theorem lv_drop_ge {xs : List Int} {k : Nat} (h : xs.length ≤ k) : lv (xs.drop k) = 0 := by
 rw [List.drop_of_length_le h]
 rfl
theorem lv_split (xs : List Int) (q : Nat) (ox : Okl xs) : lv (xs.drop q) = lv xs / 16777216 ^ q := by
 have e : xs = xs.take q ++ xs.drop q := (List.take_append_drop q xs).symm
 have ho := okl_take ox q
 have h0 := lv_nonneg ho
 have h1 := lv_lt ho
 rcases Nat.lt_or_ge q xs.length with hq | hq
 ·have hv : lv xs = lv (xs.take q) + 16777216 ^ q * lv (xs.drop q) := by
   conv => lhs; rw [e, lv_append]
   rw [List.length_take, Nat.min_eq_left (by omega)]
  rw [List.length_take, Nat.min_eq_left (by omega)] at h1
  have hp := lpow_pos q
  rw [hv, Int.add_mul_ediv_left _ _ (by omega), Int.ediv_eq_zero_of_lt h0 h1]
  omega
 ·have hv := lv_lt ox
  have := lpow_mono hq
  rw [lv_drop_ge hq, Int.ediv_eq_zero_of_lt (lv_nonneg ox) (by omega)]
theorem cut_digit {r : Nat} (hr : r < 24) (a b v : Int) : ((a + 16777216 * (b + 16777216 * v)) / 2 ^ r) % 16777216 = (a / 2 ^ r + b * 2 ^ (24 - r)) % 16777216 := by
 obtain ⟨s, hs⟩ : ∃ s, r + s = 24 := ⟨24 - r, by omega⟩
 have hp : (16777216 : Int) = 2 ^ r * 2 ^ s := by rw [← Int.pow_add, hs]; decide
 have h2 := two_pow_pos r
 rw [show 24 - r = s from by omega]
 have e : a + 16777216 * (b + 16777216 * v) = a + 2 ^ r * (b * 2 ^ s + 16777216 * (2 ^ s * v)) := by
  rw [Int.mul_add (2 ^ r), Int.mul_left_comm (2 ^ r) b, ← hp, Int.mul_left_comm (2 ^ r) 16777216, ← Int.mul_assoc (2 ^ r) (2 ^ s), ← hp, Int.mul_comm b]
  omega
 rw [e, Int.add_mul_ediv_left _ _ (by omega), ← Int.add_assoc, Int.add_mul_emod_self_left]
theorem cut_last {r : Nat} (hr : r < 24) {a : Int} (h : 0 ≤ a ∧ a < 16777216) : 0 ≤ a / 2 ^ r ∧ a / 2 ^ r < 16777216 := by
 have h2 := two_pow_pos r
 exact ⟨Int.ediv_nonneg h.1 (by omega), Int.lt_of_le_of_lt (Int.ediv_le_self _ h.1) h.2⟩
theorem cut_rest {r : Nat} (a v : Int) (ha : 0 ≤ a ∧ a < 16777216) : ((a + 16777216 * v) / 2 ^ r) / 16777216 = v / 2 ^ r := by
 rw [Int.ediv_ediv_of_nonneg (by have := two_pow_pos r; omega), Int.mul_comm (2 ^ r) 16777216, ← Int.ediv_ediv_of_nonneg (by omega)]
 congr 1
 omega
structure CutRel (xs : List Int) (r q k : Nat) (ds : List Int) : Prop where
 len : ds.length = k - q
 ok : Okl ds
 v : lv ds + 16777216 ^ (k - q) * (lv (xs.drop k) / 2 ^ r) = lv (xs.drop q) / 2 ^ r
theorem CutRel.start (xs : List Int) (r q : Nat) : CutRel xs r q q [] := ⟨by simp, Okl.nil, by simp [lv]⟩
theorem CutRel.put {xs : List Int} {r q k : Nat} {ds : List Int} (h : CutRel xs r q k ds) (ox : Okl xs) (hq : q ≤ k) (hk : k < xs.length) {d : Int}
  (hd : d = (lv (xs.drop k) / 2 ^ r) % 16777216) : CutRel xs r q (k + 1) (ds ++ [d]) := by
 have hl := h.len
 refine ⟨by simp [hl]; omega, h.ok.append (okl_single (by omega)), ?_⟩
 rw [lv_append, hl, ← h.v, show k + 1 - q = (k - q) + 1 from by omega, Int.pow_succ, Int.add_assoc, Int.mul_assoc, ← Int.mul_add]
 congr 2
 have e2 := cut_rest (r := r) (xs.getD k 0) (lv (xs.drop (k + 1))) (okl_getD ox k)
 rw [← lv_drop_cons hk] at e2
 simp only [lv]
 omega
theorem CutRel.step {xs : List Int} {r q k : Nat} {ds : List Int} (h : CutRel xs r q k ds) (ox : Okl xs) (hr : r < 24) (hq : q ≤ k) (hk : k + 1 < xs.length) :
  CutRel xs r q (k + 1) (ds ++ [(xs.getD k 0 / 2 ^ r + xs.getD (k + 1) 0 * 2 ^ (24 - r)) % 16777216]) := by
 refine h.put ox hq (by omega) ?_
 rw [lv_drop_cons (show k < xs.length from by omega), lv_drop_cons hk, cut_digit hr]
theorem CutRel.last {xs : List Int} {r q k : Nat} {ds : List Int} (h : CutRel xs r q k ds) (ox : Okl xs) (hr : r < 24) (hq : q ≤ k) (hk : k + 1 = xs.length) :
  CutRel xs r q (k + 1) (ds ++ [xs.getD k 0 / 2 ^ r]) := by
 refine h.put ox hq (by omega) ?_
 have := cut_last hr (okl_getD ox k)
 rw [lv_drop_cons (show k < xs.length from by omega), lv_drop_ge (show xs.length ≤ k + 1 from by omega), Int.mul_zero, Int.add_zero, Int.emod_eq_of_lt this.1 this.2]
theorem CutRel.done {xs : List Int} {r q k : Nat} {ds : List Int} (h : CutRel xs r q k ds) (ox : Okl xs) (hk : xs.length ≤ k) : lv ds = lv xs / 2 ^ (24 * q + r) := by
 have hv := h.v
 rw [lv_drop_ge hk, Int.zero_ediv, Int.mul_zero, Int.add_zero, lv_split xs q ox] at hv
 rw [hv, Int.ediv_ediv_of_nonneg (by have := lpow_pos q; omega)]
 congr 1
 rw [Int.pow_add, Int.pow_mul]
 rfl
theorem limb_bit {xs : List Int} (ox : Okl xs) (q : Nat) {r : Nat} (hr : r < 24) (hq : q < xs.length) : (xs.getD q 0 / 2 ^ r) % 2 = (lv xs / 2 ^ (24 * q + r)) % 2 := by
 have e : lv xs / 2 ^ (24 * q + r) = lv (xs.drop q) / 2 ^ r := by
  rw [lv_split xs q ox, Int.ediv_ediv_of_nonneg (by have := lpow_pos q; omega), Int.pow_add, Int.pow_mul]
  rfl
 rw [e, lv_drop_cons hq]
 obtain ⟨s, hs⟩ : ∃ s, r + (s + 1) = 24 := ⟨23 - r, by omega⟩
 have hp : (16777216 : Int) = 2 ^ r * (2 ^ s * 2) := by rw [← Int.pow_succ, ← Int.pow_add, hs]; decide
 have h2 := two_pow_pos r
 rw [hp, Int.mul_assoc, Int.add_mul_ediv_left _ _ (by omega), Int.mul_comm (2 ^ s) 2, Int.mul_assoc, Int.add_mul_emod_self_left]
end Go.Proofs.YtlkomiiijhphnaaDoor.Math
namespace Go.Proofs.YtlkomiiijhphnaaDoor.Math
open Go Go.RowKit
set_option linter.unusedVariables false
set_option linter.unusedSimpArgs false
structure TenRel (xs : List Int) (d : Int) (k : Nat) (carry : Int) (ds : List Int) : Prop where
 len : ds.length = k
 ok : Okl ds
 c : 0 ≤ carry ∧ carry ≤ 9
 v : lv ds + 16777216 ^ k * carry = 10 * lv (xs.take k) + d
theorem TenRel.start (xs : List Int) {d : Int} (h : 0 ≤ d ∧ d ≤ 9) : TenRel xs d 0 d [] := ⟨rfl, Okl.nil, h, by simp [lv]⟩
theorem TenRel.step {xs : List Int} {d : Int} {k : Nat} {carry : Int} {ds : List Int} (h : TenRel xs d k carry ds) (ox : Okl xs) (hk : k < xs.length) {t : Int}
  (ht : t = carry + 10 * xs.getD k 0) : TenRel xs d (k + 1) (t / 16777216) (ds ++ [t % 16777216]) := by
 have h1 := okl_getD ox k
 have hc := h.c
 refine ⟨by simp [h.len], h.ok.append (okl_single (by omega)), by omega, ?_⟩
 rw [lv_append, h.len, lv_take_succ hk, Int.pow_succ, Int.mul_assoc]
 have hv := h.v
 have e : 16777216 ^ k * lv [t % 16777216] + 16777216 ^ k * (16777216 * (t / 16777216)) = 16777216 ^ k * carry + 10 * (16777216 ^ k * xs.getD k 0) := by
  rw [← Int.mul_add, Int.mul_left_comm, ← Int.mul_add]
  congr 1
  simp only [lv]
  omega
 omega
theorem TenRel.done {xs : List Int} {d : Int} {carry : Int} {ds : List Int} (h : TenRel xs d xs.length carry ds) : lv ds + 16777216 ^ xs.length * carry = 10 * lv xs + d := by
 rw [h.v, List.take_of_length_le (Nat.le_refl _)]
end Go.Proofs.YtlkomiiijhphnaaDoor.Math
