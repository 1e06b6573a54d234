/- Whole numbers as signs and limbs to the base 2^24, one for each integer. Plain Lean; no program. -/
import Derived.Test.YtbmjakaoniegfaaMath3
namespace Go.Proofs.Ytbmjakaoniegfaa.Math
open Go Go.RowKit Go.Proofs.YtbmjakaoniegfaaW.PrintWords
set_option linter.unusedVariables false
set_option linter.unusedSimpArgs false

/-- The limbs of a natural number. -/
def limbs (m : Nat) : List Int := if h : m = 0 then [] else (m % 16777216 : Nat) :: limbs (m / 16777216)
termination_by m
decreasing_by omega
theorem limbs_zero : limbs 0 = [] := by rw [limbs]; simp
theorem limbs_pos {m : Nat} (h : m ≠ 0) : limbs m = ((m % 16777216 : Nat) : Int) :: limbs (m / 16777216) := by
  rw [limbs]
  simp [h]
theorem limbs_okl (m : Nat) : Okl (limbs m) := by
  induction m using Nat.strongRecOn with
  | ind m ih =>
    by_cases h : m = 0
    · subst h
      rw [limbs_zero]
      intro x hx
      cases hx
    · rw [limbs_pos h]
      intro x hx
      rcases List.mem_cons.1 hx with rfl | hx
      · omega
      · exact ih _ (by omega) x hx
theorem limbs_lv (m : Nat) : lv (limbs m) = m := by
  induction m using Nat.strongRecOn with
  | ind m ih =>
    by_cases h : m = 0
    · subst h
      rw [limbs_zero]
      rfl
    · rw [limbs_pos h]
      simp only [lv]
      rw [ih _ (by omega)]
      omega
theorem limbs_nil {m : Nat} : limbs m = [] ↔ m = 0 := by
  constructor
  · intro h
    by_cases e : m = 0
    · exact e
    · rw [limbs_pos e] at h
      cases h
  · rintro rfl
    exact limbs_zero
theorem limbs_tight (m : Nat) : Tight (limbs m) := by
  induction m using Nat.strongRecOn with
  | ind m ih =>
    by_cases h : m = 0
    · subst h
      rw [limbs_zero]
      intro h
      exact absurd rfl h
    · rw [limbs_pos h]
      by_cases h2 : m / 16777216 = 0
      · rw [h2, limbs_zero]
        intro _
        simp
        omega
      · intro _
        have hne : limbs (m / 16777216) ≠ [] := fun e => h2 (limbs_nil.1 e)
        rw [List.getLast_cons hne]
        exact ih _ (by omega) hne
theorem lv_append (xs ys : List Int) : lv (xs ++ ys) = lv xs + 16777216 ^ xs.length * lv ys := by
  induction xs with
  | nil => simp [lv]
  | cons x xs ih =>
    simp only [List.cons_append, lv, ih, List.length_cons, Int.pow_succ]
    rw [Int.mul_add, Int.add_assoc]
    congr 2
    rw [← Int.mul_assoc, Int.mul_comm 16777216 (16777216 ^ xs.length)]
theorem lpow_pos (n : Nat) : (0 : Int) < 16777216 ^ n := Int.pow_pos (by omega)
theorem lpow_mono {a b : Nat} (h : a ≤ b) : (16777216 : Int) ^ a ≤ 16777216 ^ b := by
  obtain ⟨d, rfl⟩ : ∃ d, b = a + d := ⟨b - a, by omega⟩
  rw [Int.pow_add]
  have h1 := lpow_pos a
  have h2 := lpow_pos d
  have := Int.mul_le_mul_of_nonneg_left (show (1 : Int) ≤ 16777216 ^ d from by omega) (Int.le_of_lt h1)
  omega
theorem Okl.nil : Okl [] := by intro x h; cases h
theorem Okl.cons {x : Int} {xs : List Int} (h : 0 ≤ x ∧ x < 16777216) (hs : Okl xs) : Okl (x :: xs) := by
  intro y hy
  rcases List.mem_cons.1 hy with rfl | hy
  · exact h
  · exact hs y hy
theorem Okl.append {xs ys : List Int} (h : Okl xs) (hs : Okl ys) : Okl (xs ++ ys) := by
  intro y hy
  rcases List.mem_append.1 hy with hy | hy
  · exact h y hy
  · exact hs y hy
theorem Okl.left {xs ys : List Int} (h : Okl (xs ++ ys)) : Okl xs := fun y hy => h y (List.mem_append.2 (.inl hy))
theorem Okl.right {xs ys : List Int} (h : Okl (xs ++ ys)) : Okl ys := fun y hy => h y (List.mem_append.2 (.inr hy))
theorem okl_take {xs : List Int} (h : Okl xs) (k : Nat) : Okl (xs.take k) := fun x hx => h x (List.mem_of_mem_take hx)
theorem okl_getD {xs : List Int} (h : Okl xs) (k : Nat) : 0 ≤ xs.getD k 0 ∧ xs.getD k 0 < 16777216 := by
  rcases Nat.lt_or_ge k xs.length with hk | hk
  · rw [List.getD_eq_getElem?_getD, List.getElem?_eq_getElem hk]
    exact h _ (List.getElem_mem hk)
  · rw [List.getD_eq_getElem?_getD, List.getElem?_eq_none hk]
    simp
theorem okl_single {x : Int} (h : 0 ≤ x ∧ x < 16777216) : Okl [x] := Okl.cons h Okl.nil
theorem lv_take_succ {xs : List Int} {k : Nat} (h : k < xs.length) : lv (xs.take (k + 1)) = lv (xs.take k) + 16777216 ^ k * xs.getD k 0 := by
  rw [take_succ_getD h, lv_append, List.length_take, Nat.min_eq_left (by omega)]
  simp [lv]
theorem lv_take_ge {xs : List Int} {k : Nat} (h : xs.length ≤ k) : lv (xs.take (k + 1)) = lv (xs.take k) := by
  rw [List.take_of_length_le h, List.take_of_length_le (by omega)]
theorem lv_ge {xs : List Int} (h : Okl xs) (ht : Tight xs) (hne : xs ≠ []) : (16777216 : Int) ^ (xs.length - 1) ≤ lv xs := by
  rcases snoc_cases xs with rfl | ⟨ys, y, rfl⟩
  · exact absurd rfl hne
  · have hy : y ≠ 0 := by simpa using ht (by simp)
    have h1 := (h.right).head
    have h2 := lv_nonneg h.left
    have h3 : (1 : Int) ≤ y := by omega
    rw [lv_append]
    simp only [lv, List.length_append, List.length_cons, List.length_nil, Nat.add_sub_cancel, Nat.zero_add, Int.mul_zero, Int.add_zero]
    have h4 := Int.mul_le_mul_of_nonneg_left h3 (Int.le_of_lt (lpow_pos ys.length))
    omega
theorem lv_eq_zero {xs : List Int} (h : Okl xs) (ht : Tight xs) : lv xs = 0 ↔ xs = [] := by
  constructor
  · intro hv
    by_cases e : xs = []
    · exact e
    · have := lv_ge h ht e
      have := lpow_pos (xs.length - 1)
      omega
  · rintro rfl
    rfl
theorem tight_tail {x : Int} {xs : List Int} (h : Tight (x :: xs)) : Tight xs := by
  intro hne
  have := h (by simp)
  rwa [List.getLast_cons hne] at this
/-- Tight limbs are those of their value. -/
theorem limbs_of_lv {xs : List Int} (h : Okl xs) (ht : Tight xs) : xs = limbs (lv xs).toNat := by
  induction xs with
  | nil => rw [show (lv []).toNat = 0 from rfl, limbs_zero]
  | cons x xs ih =>
    have h1 := h.head
    have h2 := lv_nonneg h.tail
    have hne : (lv (x :: xs)).toNat ≠ 0 := by
      have h3 := lv_eq_zero h ht
      have h4 := lv_nonneg h
      intro e
      have : lv (x :: xs) = 0 := by omega
      exact absurd (h3.1 this) (by simp)
    rw [limbs_pos hne]
    simp only [lv]
    have e1 : (x + 16777216 * lv xs).toNat % 16777216 = x.toNat := by omega
    have e2 : (x + 16777216 * lv xs).toNat / 16777216 = (lv xs).toNat := by omega
    rw [e1, e2, ← ih h.tail (tight_tail ht)]
    congr 1
    omega
theorem limbs_length_le {m k : Nat} (h : m < 16777216 ^ k) : (limbs m).length ≤ k := by
  by_cases e : limbs m = []
  · rw [e]
    simp
  · have h1 := lv_ge (limbs_okl m) (limbs_tight m) e
    rw [limbs_lv] at h1
    rcases Nat.lt_or_ge k (limbs m).length with hl | hl
    · have := lpow_mono (show k ≤ (limbs m).length - 1 from by omega)
      have h2 : ((16777216 ^ k : Nat) : Int) = 16777216 ^ k := by rw [Int.natCast_pow]; rfl
      omega
    · exact hl
theorem limbs_lt (m : Nat) : m < 16777216 ^ (limbs m).length := by
  have h := lv_lt (limbs_okl m)
  rw [limbs_lv] at h
  have h2 : ((16777216 ^ (limbs m).length : Nat) : Int) = 16777216 ^ (limbs m).length := by rw [Int.natCast_pow]; rfl
  omega

/-- The whole number of an integer. -/
def cn (n : Int) : Int × List Int := (sgn n, limbs n.natAbs)
/-- A sign and limbs that are a whole number of any length. -/
structure CW (s : Int) (l : List Int) : Prop where
  ok : Okl l
  ti : Tight l
  z : l = [] → s = 0
  nz : l ≠ [] → s = 1 ∨ s = -1
theorem CW.zero : CW 0 [] := ⟨Okl.nil, (fun h => absurd rfl h), (fun _ => rfl), (fun h => absurd rfl h)⟩
theorem CW.sign {s : Int} {l : List Int} (h : CW s l) : -1 ≤ s ∧ s ≤ 1 := by
  by_cases e : l = []
  · have := h.z e
    omega
  · have := h.nz e
    omega
theorem CW.szero {s : Int} {l : List Int} (h : CW s l) : s = 0 ↔ l = [] := by
  constructor
  · intro e
    by_cases hl : l = []
    · exact hl
    · have := h.nz hl
      omega
  · exact h.z
theorem cw_cn (n : Int) : CW (cn n).1 (cn n).2 := by
  refine ⟨limbs_okl _, limbs_tight _, fun h => ?_, fun h => ?_⟩
  · have := limbs_nil.1 h
    have : n = 0 := by omega
    subst this
    rfl
  · have h1 : n.natAbs ≠ 0 := fun e => h (limbs_nil.2 e)
    simp only [cn, sgn]
    split
    · right; rfl
    · rw [if_neg (by omega)]
      left; rfl
theorem lv_pos {l : List Int} (h : Okl l) (ht : Tight l) (hne : l ≠ []) : 0 < lv l := by
  have h1 := lv_ge h ht hne
  have := lpow_pos (l.length - 1)
  omega
theorem wv_cn (n : Int) : wv (cn n).1 (cn n).2 = n := by
  simp only [wv, cn, limbs_lv, sgn]
  split
  · split <;> omega
  · split <;> (split <;> omega)
theorem wv_zero : wv 0 [] = 0 := rfl
theorem CW.val {s : Int} {l : List Int} (h : CW s l) : wv s l = s * lv l := by
  by_cases e : l = []
  · have := h.z e
    subst e this
    rfl
  · have hp := lv_pos h.ok h.ti e
    rcases h.nz e with rfl | rfl
    · simp [wv]
    · simp [wv]
theorem CW.natAbs {s : Int} {l : List Int} (h : CW s l) : (wv s l).natAbs = (lv l).toNat := by
  have := lv_nonneg h.ok
  unfold wv
  split <;> omega
theorem CW.eq {s : Int} {l : List Int} (h : CW s l) : (s, l) = cn (wv s l) := by
  simp only [cn, h.natAbs, ← limbs_of_lv h.ok h.ti, Prod.mk.injEq, and_true]
  by_cases e : l = []
  · have := h.z e
    subst e this
    rfl
  · have hp := lv_pos h.ok h.ti e
    rcases h.nz e with rfl | rfl
    · have hv : wv 1 l = lv l := by simp [wv]
      rw [hv]
      unfold Math.sgn
      rw [if_neg (by omega), if_neg (by omega)]
    · have hv : wv (-1) l = -lv l := by simp [wv]
      rw [hv]
      unfold Math.sgn
      rw [if_pos (by omega)]
theorem CW.sgn {s : Int} {l : List Int} (h : CW s l) : s = sgn (wv s l) := congrArg Prod.fst h.eq
theorem CW.limbs {s : Int} {l : List Int} (h : CW s l) : l = Math.limbs (wv s l).natAbs := congrArg Prod.snd h.eq
theorem tight_getD {l : List Int} (hne : l ≠ []) : l.getLast hne = l.getD (l.length - 1) 0 := by
  have hp : 0 < l.length := List.length_pos_iff.2 hne
  rw [List.getLast_eq_getElem, List.getD_eq_getElem?_getD, List.getElem?_eq_getElem (show l.length - 1 < l.length from by omega)]
  rfl
theorem isW_cw {s : Int} {l : List Int} (h : isW s l = true) : CW s l :=
  ⟨isW_okl h, fun hne => by rw [tight_getD hne]; exact (isW_last h hne).1, fun e => isW_nil (e ▸ h), fun hne => (isW_last h hne).2⟩
theorem cw_isW {s : Int} {l : List Int} (h : CW s l) (hl : l.length ≤ 200) : isW s l = true := by
  simp only [isW, Bool.and_eq_true]
  constructor
  · rw [List.all_eq_true]
    intro x hx
    have := h.ok x hx
    simp only [limbOk, Bool.and_eq_true, decide_eq_true_eq]
    omega
  · unfold tailOk
    by_cases e : l = []
    · rw [if_pos e, h.z e]
      rfl
    · rw [if_neg e]
      have h1 := h.ti e
      rw [tight_getD e] at h1
      have h2 := h.nz e
      simp only [Bool.and_eq_true, decide_eq_true_eq, bne_iff_ne, Bool.or_eq_true, beq_iff_eq]
      exact ⟨hl, h1, h2⟩
theorem cw_isW_iff {s : Int} {l : List Int} (h : CW s l) : isW s l = decide (l.length ≤ 200) := by
  by_cases hl : l.length ≤ 200
  · rw [cw_isW h hl, decide_eq_true hl]
  · rw [decide_eq_false hl]
    cases e : isW s l
    · rfl
    · exact absurd (isW_len e) hl
theorem lpow_cast (k : Nat) : ((16777216 ^ k : Nat) : Int) = 16777216 ^ k := by
  rw [Int.natCast_pow]
  rfl
theorem lpow_two (k : Nat) : (16777216 : Nat) ^ k = 2 ^ (24 * k) := by
  rw [Nat.pow_mul]
/-- How many limbs, by how many bits. -/
theorem limbs_len_iff (n : Int) (k : Nat) : (limbs n.natAbs).length ≤ k ↔ blen n ≤ 24 * k := by
  rw [blen_le, ← lpow_two]
  constructor
  · intro h
    exact Nat.lt_of_lt_of_le (limbs_lt _) (Nat.pow_le_pow_right (by omega) h)
  · exact limbs_length_le
/-- How many bits a natural number has, as loops count them. -/
def nlen (y : Nat) : Nat := if y = 0 then 0 else y.log2 + 1
theorem nlen_step {y : Nat} (h : y ≠ 0) : nlen y = nlen (y / 2) + 1 := by
  unfold nlen
  rw [if_neg h]
  by_cases h2 : 2 ≤ y
  · rw [if_neg (by omega)]
    conv => lhs; rw [Nat.log2_def, if_pos h2]
  · have : y = 1 := by omega
    subst this
    rfl
theorem blen_limbs {ys : List Int} {y : Int} (h : Okl (ys ++ [y])) (hy : y ≠ 0) : blen (lv (ys ++ [y])) = 24 * ys.length + nlen y.toNat := by
  have h1 := h.right.head
  have h2 := lv_nonneg h.left
  have h3 := lv_lt h.left
  have hyn : y.toNat ≠ 0 := by omega
  rw [nlen, if_neg hyn]
  have l1 := (Nat.le_log2 hyn).1 (Nat.le_refl _)
  have l2 := (Nat.log2_lt hyn).1 (Nat.lt_succ_self _)
  rw [lv_append]
  simp only [lv, Int.mul_zero, Int.add_zero]
  have hc : ((2 ^ (24 * ys.length) : Nat) : Int) = 16777216 ^ ys.length := by rw [← lpow_two, lpow_cast]
  have e : (lv ys + 16777216 ^ ys.length * y).natAbs = (lv ys).toNat + 2 ^ (24 * ys.length) * y.toNat := by
    have : ((2 ^ (24 * ys.length) * y.toNat : Nat) : Int) = 16777216 ^ ys.length * y := by
      rw [Int.natCast_mul, hc, Int.toNat_of_nonneg h1.1]
    have h0 : 0 ≤ (16777216 : Int) ^ ys.length * y := Int.mul_nonneg (Int.le_of_lt (lpow_pos _)) h1.1
    omega
  have hv : (lv ys).toNat < 2 ^ (24 * ys.length) := by omega
  have hk : 24 * ys.length + (y.toNat.log2 + 1) = (24 * ys.length + y.toNat.log2) + 1 := by omega
  rw [hk]
  refine blen_unique ?_ ?_
  · rw [e, Nat.pow_add]
    have := Nat.mul_le_mul_left (2 ^ (24 * ys.length)) l1
    omega
  · rw [e, show 24 * ys.length + y.toNat.log2 + 1 = 24 * ys.length + (y.toNat.log2 + 1) from by omega, Nat.pow_add]
    have := Nat.mul_le_mul_left (2 ^ (24 * ys.length)) (show y.toNat + 1 ≤ 2 ^ (y.toNat.log2 + 1) from l2)
    rw [Nat.mul_add, Nat.mul_one] at this
    omega
theorem blen_wv {s : Int} {l : List Int} (h : CW s l) : blen (wv s l) = blen (lv l) := by
  unfold wv
  split
  · exact blen_neg _
  · rfl
/-- How limbs compare, from the top. -/
theorem lv_lt_of_length {xs ys : List Int} (ox : Okl xs) (oy : Okl ys) (ty : Tight ys) (h : xs.length < ys.length) : lv xs < lv ys := by
  have h1 := lv_lt ox
  have h2 := lv_ge oy ty (by intro e; subst e; simp at h)
  have h3 := lpow_mono (show xs.length ≤ ys.length - 1 from by omega)
  omega
theorem lv_drop_lt {xs ys : List Int} (ox : Okl xs) (oy : Okl ys) {k : Nat} (hl : xs.length = ys.length) (hk : k < xs.length) (hd : xs.drop (k + 1) = ys.drop (k + 1)) (h : xs.getD k 0 < ys.getD k 0) : lv xs < lv ys := by
  have ex : xs = xs.take (k + 1) ++ xs.drop (k + 1) := (List.take_append_drop _ _).symm
  have ey : ys = ys.take (k + 1) ++ ys.drop (k + 1) := (List.take_append_drop _ _).symm
  have vx : lv xs = lv (xs.take (k + 1)) + 16777216 ^ (k + 1) * lv (xs.drop (k + 1)) := by
    conv => lhs; rw [ex, lv_append]
    rw [List.length_take, Nat.min_eq_left (by omega)]
  have vy : lv ys = lv (ys.take (k + 1)) + 16777216 ^ (k + 1) * lv (ys.drop (k + 1)) := by
    conv => lhs; rw [ey, lv_append]
    rw [List.length_take, Nat.min_eq_left (by omega)]
  have h1 := lv_lt (okl_take ox k)
  have h2 := lv_nonneg (okl_take oy k)
  rw [List.length_take, Nat.min_eq_left (by omega)] at h1
  rw [vx, vy, hd, lv_take_succ hk, lv_take_succ (by omega)]
  have h3 := Int.mul_le_mul_of_nonneg_left (show xs.getD k 0 + 1 ≤ ys.getD k 0 from by omega) (Int.le_of_lt (lpow_pos k))
  rw [Int.mul_add, Int.mul_one] at h3
  omega
theorem sgn_lt {a b : Int} (h : a < b) : sgn (a - b) = -1 := by
  simp only [sgn]
  rw [if_pos (by omega)]
theorem sgn_gt {a b : Int} (h : b < a) : sgn (a - b) = 1 := by
  simp only [sgn]
  rw [if_neg (by omega), if_neg (by omega)]
theorem sgn_bounds (n : Int) : -1 ≤ sgn n ∧ sgn n ≤ 1 := by
  simp only [sgn]
  split
  · omega
  · split <;> omega
/-- A comparison by signs and then by limbs. -/
theorem sgn_cw {s t : Int} {l m : List Int} (h : CW s l) (k : CW t m) : sgn (wv s l - wv t m) = if s = t then s * sgn (lv l - lv m) else if s < t then -1 else 1 := by
  have h1 := lv_nonneg h.ok
  have h2 := lv_nonneg k.ok
  have a1 := h.sign
  have a2 := k.sign
  have p1 : s ≠ 0 → 0 < lv l := fun e => lv_pos h.ok h.ti (fun e2 => e (h.z e2))
  have p2 : t ≠ 0 → 0 < lv m := fun e => lv_pos k.ok k.ti (fun e2 => e (k.z e2))
  have z1 : s = 0 → lv l = 0 := fun e => by rw [h.szero.1 e]; rfl
  have z2 : t = 0 → lv m = 0 := fun e => by rw [k.szero.1 e]; rfl
  rw [h.val, k.val]
  rcases (show s = -1 ∨ s = 0 ∨ s = 1 from by omega) with rfl | rfl | rfl <;> rcases (show t = -1 ∨ t = 0 ∨ t = 1 from by omega) with rfl | rfl | rfl <;> simp only [sgn] <;> simp at p1 p2 z1 z2 ⊢ <;> (repeat' split) <;> omega
end Go.Proofs.Ytbmjakaoniegfaa.Math
