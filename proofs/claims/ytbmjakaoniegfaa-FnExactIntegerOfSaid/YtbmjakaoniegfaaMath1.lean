/- Shifts of digits: plain Lean; no program. -/
import Derived.Test.YtbmjakaoniegfaaMath0
import Derived.Laws.BitsAllLaws
namespace Go.Proofs.Ytbmjakaoniegfaa.Math
open Go
set_option linter.unusedVariables false
set_option linter.unusedSimpArgs false

theorem two_pow_pos (r : Nat) : (0 : Int) < 2 ^ r := Int.pow_pos (by omega)
theorem two_pow_le {r s : Nat} (h : r ≤ s) : (2 : Int) ^ r ≤ 2 ^ s := by
  obtain ⟨d, rfl⟩ : ∃ d, s = r + d := ⟨s - r, by omega⟩
  rw [Int.pow_add]
  have h1 := two_pow_pos r
  have h2 := two_pow_pos d
  have := Int.mul_le_mul_of_nonneg_left (show (1 : Int) ≤ 2 ^ d from by omega) (Int.le_of_lt h1)
  omega
theorem cast_low (q r : Nat) : ((q : Int) * 2 ^ r) % 4294967296 = (((q * 2 ^ r) % 4294967296 : Nat) : Int) := by
  have e0 : ((q : Int) * 2 ^ r) = ((q * 2 ^ r : Nat) : Int) := by
    rw [Int.natCast_mul, Int.natCast_pow]
    rfl
  rw [e0]
  generalize q * 2 ^ r = m
  omega
theorem or_low {r : Nat} (hr : r ≤ 31) {top t : Int} (h0 : 0 ≤ top) (h1 : top < 2 ^ r) (ht : 0 ≤ t) : bits .or .u32 top ((t * 2 ^ r) % 4294967296) = top + (t * 2 ^ r) % 4294967296 := by
  obtain ⟨a, rfl⟩ := Int.eq_ofNat_of_zero_le h0
  obtain ⟨q, rfl⟩ := Int.eq_ofNat_of_zero_le ht
  have ha : a < 2 ^ r := by exact_mod_cast h1
  have hB : (4294967296 : Nat) = 2 ^ r * 2 ^ (32 - r) := by rw [← Nat.pow_add, show r + (32 - r) = 32 from by omega]
  have hmod : (q * 2 ^ r) % 4294967296 = 2 ^ r * (q % 2 ^ (32 - r)) := by rw [hB, Nat.mul_comm q, Nat.mul_mod_mul_left]
  have e := cast_low q r
  have hle : 2 ^ r ≤ 2 ^ 31 := Nat.pow_le_pow_right (by omega) hr
  rw [e, u32_or_nat a _ (by omega) (Nat.mod_lt _ (by omega)), hmod, Nat.or_comm, ← Nat.two_pow_add_eq_or_of_lt ha]
  push_cast
  omega

/-- What Lsh has reckoned after k rounds: digits, and what stands above them. -/
structure LshRel (xs : List Int) (r k : Nat) (top : Int) (ds : List Int) : Prop where
  len : ds.length = k
  ok : Okd ds
  c : 0 ≤ top ∧ top < 2 ^ r
  v : val ds + 4294967296 ^ k * top = val (xs.take k) * 2 ^ r
theorem LshRel.start (xs : List Int) (r : Nat) : LshRel xs r 0 0 [] := ⟨rfl, Okd.nil, ⟨by omega, two_pow_pos r⟩, by simp [val]⟩
theorem LshRel.small {xs : List Int} {r k : Nat} {top : Int} {ds : List Int} (h : LshRel xs r k top ds) (hr : r ≤ 31) : 0 ≤ top ∧ top < 2147483648 := by
  have := two_pow_le hr
  have h3 := h.c
  refine ⟨h3.1, ?_⟩
  have e : (2 : Int) ^ 31 = 2147483648 := by decide
  omega
theorem lsh_wide {x : Int} {r : Nat} (hr : r ≤ 31) (h0 : 0 ≤ x) (h1 : x < 4294967296) : IntKind.u64.wrap (x * 2 ^ r) = x * 2 ^ r ∧ 0 ≤ x * 2 ^ r ∧ x * 2 ^ r / 4294967296 < 2 ^ r ∧ x * 2 ^ r < 9223372036854775808 := by
  have hp := two_pow_pos r
  have hle := two_pow_le hr
  have e : (2 : Int) ^ 31 = 2147483648 := by decide
  have a0 : 0 ≤ x * 2 ^ r := Int.mul_nonneg h0 (Int.le_of_lt hp)
  have a1 : x * 2 ^ r ≤ 4294967295 * 2 ^ r := Int.mul_le_mul_of_nonneg_right (by omega) (Int.le_of_lt hp)
  refine ⟨?_, a0, by omega, by omega⟩
  rw [wrapU]
  omega
theorem LshRel.step {xs : List Int} {r k : Nat} {top : Int} {ds : List Int} (h : LshRel xs r k top ds) (ox : Okd xs) (hr : r ≤ 31) (hk : k < xs.length) :
    LshRel xs r (k + 1) (xs.getD k 0 * 2 ^ r / 4294967296) (ds ++ [top + (xs.getD k 0 * 2 ^ r) % 4294967296]) ∧ top + (xs.getD k 0 * 2 ^ r) % 4294967296 < 4294967296 := by
  have h1 := getD_ok ox k
  obtain ⟨w1, w2, w3, _⟩ := lsh_wide hr h1.1 h1.2
  have h3 := h.c
  -- the low digit is a multiple of 2^r
  have hlow : ∃ q : Int, (xs.getD k 0 * 2 ^ r) % 4294967296 = 2 ^ r * q ∧ 0 ≤ q ∧ q + 1 ≤ 2 ^ (32 - r) := by
    obtain ⟨a, ha⟩ := Int.eq_ofNat_of_zero_le h1.1
    have hB : (4294967296 : Nat) = 2 ^ r * 2 ^ (32 - r) := by rw [← Nat.pow_add, show r + (32 - r) = 32 from by omega]
    have hmod : (a * 2 ^ r) % 4294967296 = 2 ^ r * (a % 2 ^ (32 - r)) := by rw [hB, Nat.mul_comm a, Nat.mul_mod_mul_left]
    refine ⟨((a % 2 ^ (32 - r) : Nat) : Int), ?_, by omega, ?_⟩
    · rw [ha]
      have e := cast_low a r
      rw [e, hmod]
      push_cast
      rfl
    · have : a % 2 ^ (32 - r) < 2 ^ (32 - r) := Nat.mod_lt _ (Nat.pow_pos (by omega))
      have h2 : ((a % 2 ^ (32 - r) : Nat) : Int) + 1 ≤ ((2 ^ (32 - r) : Nat) : Int) := by exact_mod_cast this
      push_cast at h2 ⊢
      exact h2
  obtain ⟨q, hq, hq0, hq1⟩ := hlow
  have hp := two_pow_pos r
  have hB2 : (2 : Int) ^ r * 2 ^ (32 - r) = 4294967296 := by
    rw [← Int.pow_add, show r + (32 - r) = 32 from by omega]
    decide
  have hlt : top + (xs.getD k 0 * 2 ^ r) % 4294967296 < 4294967296 := by
    rw [hq]
    have := Int.mul_le_mul_of_nonneg_left hq1 (Int.le_of_lt hp)
    rw [Int.mul_add, Int.mul_one, hB2] at this
    omega
  refine ⟨⟨by simp [h.len], h.ok.append (okd_single ⟨by omega, hlt⟩), ⟨by omega, w3⟩, ?_⟩, hlt⟩
  have hv := h.v
  rw [val_append, h.len, val_take_succ hk, Int.add_mul, ← hv, Int.pow_succ]
  simp only [val, Int.mul_zero, Int.add_zero]
  have e : (4294967296 : Int) ^ k * 4294967296 * (xs.getD k 0 * 2 ^ r / 4294967296) + 4294967296 ^ k * ((xs.getD k 0 * 2 ^ r) % 4294967296) = 4294967296 ^ k * xs.getD k 0 * 2 ^ r := by
    rw [Int.mul_assoc, ← Int.mul_add, Int.mul_assoc]
    congr 1
    omega
  rw [Int.mul_add]
  omega
theorem val_replicate (n : Nat) (xs : List Int) : val (List.replicate n 0 ++ xs) = 4294967296 ^ n * val xs := by
  induction n with
  | zero => simp
  | succ n ih =>
    rw [List.replicate_succ, List.cons_append]
    simp only [val, ih, Int.pow_succ]
    rw [Int.zero_add, ← Int.mul_assoc, Int.mul_comm 4294967296]
theorem LshRel.done {xs : List Int} {r : Nat} {top : Int} {ds : List Int} (h : LshRel xs r xs.length top ds) (hr : r ≤ 31) (q : Nat) :
    Okd (List.replicate q 0 ++ ds ++ [top]) ∧ val (List.replicate q 0 ++ ds ++ [top]) = val xs * 2 ^ (32 * q + r) := by
  have h3 := h.small hr
  refine ⟨((okd_replicate q).append h.ok).append (okd_single (by omega)), ?_⟩
  have hv := h.v
  rw [List.take_of_length_le (Nat.le_refl _)] at hv
  rw [List.append_assoc, val_replicate, val_append, h.len]
  simp only [val, Int.mul_zero, Int.add_zero]
  rw [hv, Int.pow_add, Int.pow_mul]
  have e : (2 : Int) ^ 32 = 4294967296 := by decide
  rw [e, ← Int.mul_assoc, ← Int.mul_assoc, Int.mul_comm (val xs)]
theorem set_two (P : List Int) (top a b : Int) (m : Nat) : ((P ++ [top] ++ List.replicate (m + 1) 0).set P.length a).set (P.length + 1) b = P ++ [a] ++ [b] ++ List.replicate m 0 := by
  rw [List.append_assoc, List.set_append_right _ _ (Nat.le_refl _), Nat.sub_self, List.set_append_right _ _ (by omega), show P.length + 1 - P.length = 1 from by omega, List.replicate_succ]
  simp
theorem getD_two (P : List Int) (top : Int) (m : Nat) : (P ++ [top] ++ List.replicate (m + 1) 0).getD P.length 0 = top ∧ (P ++ [top] ++ List.replicate (m + 1) 0).getD (P.length + 1) 0 = 0 := by
  have e : P ++ [top] ++ List.replicate (m + 1) 0 = P ++ (top :: 0 :: List.replicate m 0) := by simp [List.replicate_succ]
  rw [e]
  constructor
  · rw [List.getD_eq_getElem?_getD, List.getElem?_append_right (Nat.le_refl _), Nat.sub_self]
    rfl
  · rw [List.getD_eq_getElem?_getD, List.getElem?_append_right (Nat.le_succ _), show P.length + 1 - P.length = 1 from by omega]
    rfl
end Go.Proofs.Ytbmjakaoniegfaa.Math
