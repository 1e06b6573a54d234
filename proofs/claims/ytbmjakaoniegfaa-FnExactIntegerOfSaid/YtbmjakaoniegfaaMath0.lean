/- Numbers as lists of digits to the base 2^32: values, trimming. Plain Lean; no program. -/
import Derived.Test.YtbmjakaoniegfaaWWords
namespace Go.Proofs.Ytbmjakaoniegfaa.Math
set_option linter.unusedVariables false

/-- The value of digits, the lowest one first. -/
def val : List Int → Int
  | [] => 0
  | x :: xs => x + 4294967296 * val xs
/-- Each is a digit. -/
def Okd (xs : List Int) : Prop := ∀ x ∈ xs, 0 ≤ x ∧ x < 4294967296
/-- Digits without zeros at the end. -/
def trim (xs : List Int) : List Int := (xs.reverse.dropWhile (· == 0)).reverse
/-- No zero at the end. -/
def Tight (xs : List Int) : Prop := ∀ h : xs ≠ [], xs.getLast h ≠ 0

theorem val_append (xs ys : List Int) : val (xs ++ ys) = val xs + 4294967296 ^ xs.length * val ys := by
  induction xs with
  | nil => simp [val]
  | cons x xs ih =>
    simp only [List.cons_append, val, ih, List.length_cons, Int.pow_succ]
    rw [Int.mul_add, Int.add_assoc]
    congr 2
    rw [← Int.mul_assoc, Int.mul_comm 4294967296 (4294967296 ^ xs.length)]
theorem Okd.nil : Okd [] := by intro x h; cases h
theorem Okd.cons {x : Int} {xs : List Int} (h : 0 ≤ x ∧ x < 4294967296) (hs : Okd xs) : Okd (x :: xs) := by
  intro y hy
  rcases List.mem_cons.1 hy with rfl | hy
  · exact h
  · exact hs y hy
theorem Okd.append {xs ys : List Int} (h : Okd xs) (hs : Okd ys) : Okd (xs ++ ys) := by
  intro y hy
  rcases List.mem_append.1 hy with hy | hy
  · exact h y hy
  · exact hs y hy
theorem Okd.left {xs ys : List Int} (h : Okd (xs ++ ys)) : Okd xs := fun y hy => h y (List.mem_append.2 (.inl hy))
theorem Okd.right {xs ys : List Int} (h : Okd (xs ++ ys)) : Okd ys := fun y hy => h y (List.mem_append.2 (.inr hy))
theorem Okd.head {x : Int} {xs : List Int} (h : Okd (x :: xs)) : 0 ≤ x ∧ x < 4294967296 := h x List.mem_cons_self
theorem Okd.tail {x : Int} {xs : List Int} (h : Okd (x :: xs)) : Okd xs := fun y hy => h y (List.mem_cons_of_mem _ hy)
theorem val_nonneg {xs : List Int} (h : Okd xs) : 0 ≤ val xs := by
  induction xs with
  | nil => simp [val]
  | cons x xs ih =>
    have h1 := h.head
    have h2 := ih h.tail
    simp only [val]
    omega
theorem val_lt {xs : List Int} (h : Okd xs) : val xs < 4294967296 ^ xs.length := by
  induction xs with
  | nil => simp [val]
  | cons x xs ih =>
    have h1 := h.head
    have h2 := ih h.tail
    simp only [val, List.length_cons, Int.pow_succ]
    omega
theorem trim_nil : trim [] = [] := rfl
theorem trim_snoc_zero (xs : List Int) : trim (xs ++ [0]) = trim xs := by simp [trim]
theorem trim_snoc {x : Int} (xs : List Int) (h : x ≠ 0) : trim (xs ++ [x]) = xs ++ [x] := by
  simp [trim, h]
theorem snoc_cases (xs : List Int) : xs = [] ∨ ∃ ys y, xs = ys ++ [y] := by
  rcases List.eq_nil_or_concat xs with h | ⟨ys, y, h⟩
  · exact .inl h
  · exact .inr ⟨ys, y, by simpa using h⟩
theorem trim_induct {P : List Int → Prop} (h0 : P []) (hs : ∀ ys y, P ys → P (ys ++ [y])) (xs : List Int) : P xs := by
  have : ∀ n (xs : List Int), xs.length = n → P xs := by
    intro n
    induction n with
    | zero =>
      intro xs h
      rw [List.eq_nil_of_length_eq_zero h]
      exact h0
    | succ n ih =>
      intro xs h
      rcases snoc_cases xs with rfl | ⟨ys, y, rfl⟩
      · simp at h
      · exact hs ys y (ih ys (by simpa using h))
  exact this _ xs rfl
theorem trim_tight (xs : List Int) : Tight (trim xs) := by
  induction xs using trim_induct with
  | h0 => intro h; exact absurd rfl h
  | hs ys y ih =>
    by_cases h : y = 0
    · subst h
      rw [trim_snoc_zero]
      exact ih
    · rw [trim_snoc _ h]
      intro _
      simpa using h
theorem trim_of_tight {xs : List Int} (h : Tight xs) : trim xs = xs := by
  rcases snoc_cases xs with rfl | ⟨ys, y, rfl⟩
  · rfl
  · refine trim_snoc _ ?_
    simpa using h (by simp)
theorem val_trim (xs : List Int) : val (trim xs) = val xs := by
  induction xs using trim_induct with
  | h0 => rfl
  | hs ys y ih =>
    by_cases h : y = 0
    · subst h
      rw [trim_snoc_zero, ih, val_append]
      simp [val]
    · rw [trim_snoc _ h]
theorem okd_trim {xs : List Int} (h : Okd xs) : Okd (trim xs) := by
  induction xs using trim_induct with
  | h0 => exact h
  | hs ys y ih =>
    by_cases e : y = 0
    · subst e
      rw [trim_snoc_zero]
      exact ih h.left
    · rw [trim_snoc _ e]
      exact h
theorem trim_length (xs : List Int) : (trim xs).length ≤ xs.length := by
  induction xs using trim_induct with
  | h0 => simp [trim]
  | hs ys y ih =>
    by_cases e : y = 0
    · subst e
      rw [trim_snoc_zero]
      simp
      omega
    · rw [trim_snoc _ e]
      simp
theorem pow_pos' (n : Nat) : (0 : Int) < 4294967296 ^ n := Int.pow_pos (by omega)
/-- A tight list's value is at least its highest digit's weight. -/
theorem val_ge {xs : List Int} (h : Okd xs) (ht : Tight xs) (hne : xs ≠ []) : (4294967296 : Int) ^ (xs.length - 1) ≤ val xs := by
  rcases snoc_cases xs with rfl | ⟨ys, y, rfl⟩
  · exact absurd rfl hne
  · have hy : y ≠ 0 := by simpa using ht (by simp)
    have h1 := (h.right).head
    have h2 := val_nonneg h.left
    have h3 : (1 : Int) ≤ y := by omega
    rw [val_append]
    simp only [val, List.length_append, List.length_cons, List.length_nil, Nat.add_sub_cancel, Nat.zero_add, Int.mul_zero, Int.add_zero]
    have h4 := Int.mul_le_mul_of_nonneg_left h3 (Int.le_of_lt (pow_pos' ys.length))
    omega
theorem val_eq_zero {xs : List Int} (h : Okd xs) (ht : Tight xs) : val xs = 0 ↔ xs = [] := by
  constructor
  · intro hv
    by_cases e : xs = []
    · exact e
    · have := val_ge h ht e
      have := pow_pos' (xs.length - 1)
      omega
  · rintro rfl
    rfl
/-- Tight digits are told by their value. -/
theorem val_inj {xs ys : List Int} (hx : Okd xs) (hy : Okd ys) (tx : Tight xs) (ty : Tight ys) (h : val xs = val ys) : xs = ys := by
  induction xs generalizing ys with
  | nil => exact ((val_eq_zero hy ty).1 (by rw [← h]; rfl)).symm
  | cons x xs ih =>
    cases ys with
    | nil => exact (val_eq_zero hx tx).1 (by rw [h]; rfl)
    | cons y ys =>
      simp only [val] at h
      have h1 := hx.head
      have h2 := hy.head
      have hxy : x = y := by omega
      subst hxy
      have hv : val xs = val ys := by omega
      have t1 : Tight xs := by
        intro hne
        have := tx (by simp)
        rwa [List.getLast_cons hne] at this
      have t2 : Tight ys := by
        intro hne
        have := ty (by simp)
        rwa [List.getLast_cons hne] at this
      rw [ih hx.tail hy.tail t1 t2 hv]
theorem getD_ok {xs : List Int} (h : Okd xs) (k : Nat) : 0 ≤ xs.getD k 0 ∧ xs.getD k 0 < 4294967296 := by
  rcases Nat.lt_or_ge k xs.length with hk | hk
  · rw [List.getD_eq_getElem?_getD, List.getElem?_eq_getElem hk]
    exact h _ (List.getElem_mem hk)
  · rw [List.getD_eq_getElem?_getD, List.getElem?_eq_none hk]
    simp
theorem take_succ_getD {xs : List Int} {k : Nat} (h : k < xs.length) : xs.take (k + 1) = xs.take k ++ [xs.getD k 0] := by
  rw [List.take_succ_eq_append_getElem h, List.getD_eq_getElem?_getD, List.getElem?_eq_getElem h]
  rfl
theorem val_take_succ {xs : List Int} {k : Nat} (h : k < xs.length) : val (xs.take (k + 1)) = val (xs.take k) + 4294967296 ^ k * xs.getD k 0 := by
  rw [take_succ_getD h, val_append, List.length_take, Nat.min_eq_left (by omega)]
  simp [val]
theorem val_take_ge {xs : List Int} {k : Nat} (h : xs.length ≤ k) : val (xs.take (k + 1)) = val (xs.take k) := by
  rw [List.take_of_length_le h, List.take_of_length_le (by omega)]
theorem okd_take {xs : List Int} (h : Okd xs) (k : Nat) : Okd (xs.take k) := fun x hx => h x (List.mem_of_mem_take hx)
theorem okd_drop {xs : List Int} (h : Okd xs) (k : Nat) : Okd (xs.drop k) := fun x hx => h x (List.mem_of_mem_drop hx)
theorem okd_single {x : Int} (h : 0 ≤ x ∧ x < 4294967296) : Okd [x] := Okd.cons h Okd.nil
theorem okd_replicate (n : Nat) : Okd (List.replicate n 0) := by
  intro x hx
  rw [List.eq_of_mem_replicate hx]
  omega
theorem set_fill (ds : List Int) (m : Nat) (x : Int) : (ds ++ List.replicate (m + 1) 0).set ds.length x = (ds ++ [x]) ++ List.replicate m 0 := by
  rw [List.set_append]
  simp [List.replicate_succ]

/-- What addDigits has reckoned after k rounds. -/
structure AddRel (xs ys : List Int) (k : Nat) (carry : Int) (ds : List Int) : Prop where
  len : ds.length = k
  ok : Okd ds
  c : 0 ≤ carry ∧ carry ≤ 1
  v : val ds + 4294967296 ^ k * carry = val (xs.take k) + val (ys.take k)
theorem AddRel.start (xs ys : List Int) : AddRel xs ys 0 0 [] := ⟨rfl, Okd.nil, by omega, by simp [val]⟩
theorem AddRel.step {xs ys : List Int} {k : Nat} {carry : Int} {ds : List Int} (h : AddRel xs ys k carry ds) (ox : Okd xs) (oy : Okd ys) (hk : k < xs.length) {t : Int}
    (ht : t = carry + xs.getD k 0 + ys.getD k 0) : AddRel xs ys (k + 1) (t / 4294967296) (ds ++ [t % 4294967296]) := by
  have h1 := getD_ok ox k
  have h2 := getD_ok oy k
  have h3 := h.c
  refine ⟨by simp [h.len], h.ok.append (okd_single (by omega)), by omega, ?_⟩
  have hy : val (ys.take (k + 1)) = val (ys.take k) + 4294967296 ^ k * ys.getD k 0 := by
    rcases Nat.lt_or_ge k ys.length with hk | hk
    · exact val_take_succ hk
    · rw [val_take_ge hk, List.getD_eq_getElem?_getD, List.getElem?_eq_none hk]
      simp
  rw [val_append, h.len, val_take_succ hk, hy]
  simp only [val, Int.pow_succ]
  have hv := h.v
  have e : t % 4294967296 + 4294967296 * (t / 4294967296) = t := by omega
  have e2 : (4294967296 : Int) ^ k * (t % 4294967296 + 4294967296 * 0) + 4294967296 ^ k * 4294967296 * (t / 4294967296) = 4294967296 ^ k * t := by
    rw [Int.mul_assoc, ← Int.mul_add]
    congr 1
    omega
  have e3 : (4294967296 : Int) ^ k * t = 4294967296 ^ k * carry + 4294967296 ^ k * xs.getD k 0 + 4294967296 ^ k * ys.getD k 0 := by
    rw [ht, Int.mul_add, Int.mul_add]
  omega
theorem AddRel.done {xs ys : List Int} {carry : Int} {ds : List Int} (h : AddRel xs ys xs.length carry ds) (hle : ys.length ≤ xs.length) :
    Okd (ds ++ [carry]) ∧ (ds ++ [carry]).length = xs.length + 1 ∧ val (ds ++ [carry]) = val xs + val ys := by
  have h3 := h.c
  refine ⟨h.ok.append (okd_single (by omega)), by simp [h.len], ?_⟩
  have hv := h.v
  rw [List.take_of_length_le (Nat.le_refl _), List.take_of_length_le hle] at hv
  rw [val_append, h.len]
  simp only [val, Int.mul_zero, Int.add_zero]
  exact hv

/-- What subDigits has reckoned after k rounds. -/
structure SubRel (xs ys : List Int) (k : Nat) (lent : Int) (ds : List Int) : Prop where
  len : ds.length = k
  ok : Okd ds
  c : 0 ≤ lent ∧ lent ≤ 1
  v : val ds - 4294967296 ^ k * lent = val (xs.take k) - val (ys.take k)
theorem SubRel.start (xs ys : List Int) : SubRel xs ys 0 0 [] := ⟨rfl, Okd.nil, by omega, by simp [val]⟩
theorem SubRel.step {xs ys : List Int} {k : Nat} {lent : Int} {ds : List Int} (h : SubRel xs ys k lent ds) (ox : Okd xs) (oy : Okd ys) (hk : k < xs.length) {t : Int}
    (ht : t = xs.getD k 0 - lent - ys.getD k 0) : SubRel xs ys (k + 1) (if t < 0 then 1 else 0) (ds ++ [t % 4294967296]) := by
  have h1 := getD_ok ox k
  have h2 := getD_ok oy k
  have h3 := h.c
  have hl : (if t < 0 then 1 else 0 : Int) = -(t / 4294967296) := by split <;> omega
  refine ⟨by simp [h.len], h.ok.append (okd_single (by omega)), by split <;> omega, ?_⟩
  rw [hl]
  have hy : val (ys.take (k + 1)) = val (ys.take k) + 4294967296 ^ k * ys.getD k 0 := by
    rcases Nat.lt_or_ge k ys.length with hk | hk
    · exact val_take_succ hk
    · rw [val_take_ge hk, List.getD_eq_getElem?_getD, List.getElem?_eq_none hk]
      simp
  rw [val_append, h.len, val_take_succ hk, hy]
  simp only [val, Int.pow_succ, Int.mul_neg]
  have hv := h.v
  have e2 : (4294967296 : Int) ^ k * (t % 4294967296 + 4294967296 * 0) + 4294967296 ^ k * 4294967296 * (t / 4294967296) = 4294967296 ^ k * t := by
    rw [Int.mul_assoc, ← Int.mul_add]
    congr 1
    omega
  have e3 : (4294967296 : Int) ^ k * t = 4294967296 ^ k * xs.getD k 0 - 4294967296 ^ k * lent - 4294967296 ^ k * ys.getD k 0 := by
    rw [ht, Int.mul_sub, Int.mul_sub]
  omega
theorem SubRel.done {xs ys : List Int} {lent : Int} {ds : List Int} (h : SubRel xs ys xs.length lent ds) (hle : ys.length ≤ xs.length) (hv : val ys ≤ val xs) :
    Okd ds ∧ ds.length = xs.length ∧ val ds = val xs - val ys := by
  have h3 := h.c
  refine ⟨h.ok, h.len, ?_⟩
  have hv := h.v
  rw [List.take_of_length_le (Nat.le_refl _), List.take_of_length_le hle] at hv
  have h4 := val_lt h.ok
  rw [h.len] at h4
  have h5 : lent = 0 := by
    by_cases e : lent = 0
    · exact e
    · have : lent = 1 := by omega
      subst this
      omega
  subst h5
  omega
theorem pow_mono {a b : Nat} (h : a ≤ b) : (4294967296 : Int) ^ a ≤ 4294967296 ^ b := by
  obtain ⟨d, rfl⟩ : ∃ d, b = a + d := ⟨b - a, by omega⟩
  rw [Int.pow_add]
  have h1 := pow_pos' a
  have h2 := pow_pos' d
  have := Int.mul_le_mul_of_nonneg_left (show (1 : Int) ≤ 4294967296 ^ d from by omega) (Int.le_of_lt h1)
  omega
/-- How digits compare, from the top. -/
theorem val_lt_of_length {xs ys : List Int} (ox : Okd xs) (oy : Okd ys) (ty : Tight ys) (h : xs.length < ys.length) : val xs < val ys := by
  have h1 := val_lt ox
  have h2 := val_ge oy ty (by intro e; subst e; simp at h)
  have h3 : (4294967296 : Int) ^ xs.length ≤ 4294967296 ^ (ys.length - 1) := pow_mono (by omega)
  omega
theorem val_drop_lt {xs ys : List Int} (ox : Okd xs) (oy : Okd ys) {k : Nat} (hl : xs.length = ys.length) (hk : k < xs.length) (hd : xs.drop (k + 1) = ys.drop (k + 1)) (h : xs.getD k 0 < ys.getD k 0) : val xs < val ys := by
  have ex : xs = xs.take (k + 1) ++ xs.drop (k + 1) := (List.take_append_drop _ _).symm
  have ey : ys = ys.take (k + 1) ++ ys.drop (k + 1) := (List.take_append_drop _ _).symm
  have vx : val xs = val (xs.take (k + 1)) + 4294967296 ^ (k + 1) * val (xs.drop (k + 1)) := by
    conv => lhs; rw [ex, val_append]
    rw [List.length_take, Nat.min_eq_left (by omega)]
  have vy : val ys = val (ys.take (k + 1)) + 4294967296 ^ (k + 1) * val (ys.drop (k + 1)) := by
    conv => lhs; rw [ey, val_append]
    rw [List.length_take, Nat.min_eq_left (by omega)]
  have h1 := val_lt (okd_take ox k)
  have h2 := val_nonneg (okd_take oy k)
  rw [List.length_take, Nat.min_eq_left (by omega)] at h1
  rw [vx, vy, hd, val_take_succ hk, val_take_succ (by omega)]
  have h3 := Int.mul_le_mul_of_nonneg_left (show xs.getD k 0 + 1 ≤ ys.getD k 0 from by omega) (Int.le_of_lt (pow_pos' k))
  rw [Int.mul_add, Int.mul_one] at h3
  omega
theorem drop_succ_getD {xs ys : List Int} {k : Nat} (hl : xs.length = ys.length) (hk : k < xs.length) (hd : xs.drop (k + 1) = ys.drop (k + 1)) (h : xs.getD k 0 = ys.getD k 0) : xs.drop k = ys.drop k := by
  rw [List.drop_eq_getElem_cons hk, List.drop_eq_getElem_cons (show k < ys.length from by omega), hd]
  congr 1
  rw [List.getD_eq_getElem?_getD, List.getElem?_eq_getElem hk, List.getD_eq_getElem?_getD, List.getElem?_eq_getElem (show k < ys.length from by omega)] at h
  exact h
/-- -1, 0 or 1, as the first is less, equal or greater. -/
def sgn (n : Int) : Int := if n < 0 then -1 else if n = 0 then 0 else 1
/-- Behind a difference of uint64 that may be less than 0. -/
theorem wrapU (t : Int) : IntKind.u64.wrap t = t % 18446744073709551616 := by
  simp [IntKind.wrap, IntKind.bits, IntKind.signed]
theorem sub_form (t : Int) (h1 : -8589934592 < t) (h2 : t < 4294967296) : IntKind.u64.wrap t / 9223372036854775808 = (if t < 0 then 1 else 0) ∧ IntKind.u64.wrap t % 4294967296 = t % 4294967296 := by
  rw [wrapU]
  constructor
  · split <;> omega
  · omega
theorem sub_wrap (a b : Int) : IntKind.u64.wrap (IntKind.u64.wrap a - b) = IntKind.u64.wrap (a - b) := by
  rw [wrapU, wrapU, wrapU]
  omega
end Go.Proofs.Ytbmjakaoniegfaa.Math
