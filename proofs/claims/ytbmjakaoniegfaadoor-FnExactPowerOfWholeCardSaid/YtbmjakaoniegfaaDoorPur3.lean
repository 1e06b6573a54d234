/- The reference's sums, differences and products of whole numbers, as plain mathematics. Conditions: limbs in range, lengths to 10^6. -/
import Derived.Test.YtbmjakaoniegfaaDoorPur1
import Derived.Test.YtbmjakaoniegfaaDoorMathM
import Derived.Test.YtbmjakaoniegfaaDoorBigD
import Derived.Test.YtbmjakaoniegfaaDoorX2
namespace Go.Proofs.YtbmjakaoniegfaaDoor.Pur
open Go.RowKit Go.Proofs.YtbmjakaoniegfaaDoor Go.Proofs.YtbmjakaoniegfaaDoor.Big Go.Proofs.YtbmjakaoniegfaaDoor.X Go.Proofs.YtbmjakaoniegfaaDoorW.PrintWords Go.Proofs.YtbmjakaoniegfaaDoorW.PrintLast Go.Proofs.YtbmjakaoniegfaaDoor.Math
set_option linter.unusedVariables false
set_option linter.unusedSimpArgs false

theorem cn_zero : cn 0 = (0, []) := by simp [cn, sgn, limbs_zero]
theorem wv_bound {s : Int} {l : List Int} (h : isW s l = true) : (wv s l).natAbs < 16777216 ^ 200 := by
  have hc := isW_cw h
  have h1 := lv_lt hc.ok
  have h0 := lv_nonneg hc.ok
  have h2 := lpow_mono (isW_len h)
  have h3 := lpow_cast 200
  rw [hc.natAbs]
  generalize (16777216 : Nat) ^ 200 = p at h3 ⊢
  generalize (16777216 : Int) ^ 200 = q at h2 h3
  generalize (16777216 : Int) ^ l.length = r at h1 h2
  generalize lv l = v at h0 h1 ⊢
  omega
theorem limbs_len_of {n : Int} (h : n.natAbs < 2 * 16777216 ^ 200) : (limbs n.natAbs).length ≤ 1000000000 := by
  refine Nat.le_trans (limbs_length_le (k := 201) ?_) (by omega)
  have e : (16777216 : Nat) ^ 201 = 16777216 ^ 200 * 16777216 := Nat.pow_succ ..
  rw [e]
  generalize (16777216 : Nat) ^ 200 = p at h
  omega
theorem natAbs_sub_le (a b : Int) : (a - b).natAbs ≤ a.natAbs + b.natAbs := by omega
theorem nat_two {f : Int → Int → Int} {n k : Int} (hf : ∀ a b, (f a b).natAbs ≤ a.natAbs + b.natAbs) (h : n.natAbs < 16777216 ^ 200) (g : k.natAbs < 16777216 ^ 200) : (f n k).natAbs < 2 * 16777216 ^ 200 := by
  have := hf n k
  generalize (16777216 : Nat) ^ 200 = p at h g ⊢
  omega
theorem limbs_len_mul {n k : Int} (h : n.natAbs < 16777216 ^ 200) (g : k.natAbs < 16777216 ^ 200) : (limbs (n * k).natAbs).length ≤ 1000000000 := by
  obtain ⟨j, hj⟩ : ∃ j, j = 200 := ⟨_, rfl⟩
  rw [← hj] at h g
  refine Nat.le_trans (limbs_length_le (k := j + j) ?_) (by omega)
  rw [Nat.pow_add, Int.natAbs_mul]
  exact Nat.mul_lt_mul'' h g
theorem l02Make_cw {s : Int} {l : List Int} (h : CW s l) (hl : l.length ≤ 1000000000) : Ev (fun k => spec_l02Make.f k s l) (cn (wv s l)) := by
  by_cases e : l = []
  · have hs := h.z e
    subst e hs
    refine ⟨1, fun k hk => ?_⟩
    obtain ⟨k, rfl⟩ : ∃ m, k = m + 1 := ⟨k - 1, by omega⟩
    show spec_l02Make.f (k + 1) 0 [] = _
    unfold spec_l02Make.f
    simp only [spec_l02Make.l0, List.length_nil]
    rw [if_neg (by omega), if_pos (by omega), wv_zero, cn_zero]
  · rw [h.val]
    exact l02Make (h.nz e) h.ok hl
theorem wfit_cn (n : Int) : wfit n = if (limbs n.natAbs).length ≤ 200 then (sgn n, limbs n.natAbs, 0) else (0, [], 3) := by
  unfold wfit
  by_cases h : blen n ≤ 4800
  · rw [if_pos h, if_pos ((limbs_len_iff n 200).2 h)]
  · rw [if_neg h, if_neg (fun g => h ((limbs_len_iff n 200).1 g))]
theorem tdm {t : Int} (h : 0 ≤ t) : Int.tmod t 16777216 = t % 16777216 ∧ Int.tdiv t 16777216 = t / 16777216 := ⟨Int.tmod_eq_emod_of_nonneg h, Int.tdiv_eq_ediv_of_nonneg h⟩
theorem getD_out {l : List Int} {k : Nat} (h : l.length ≤ k) : l.getD k 0 = 0 := by
  rw [List.getD_eq_getElem?_getD, List.getElem?_eq_none h]
  rfl
theorem lv_zero_getD {l : List Int} (ol : Okl l) (h : lv l = 0) : ∀ n, l.getD n 0 = 0 := by
  induction l with
  | nil => intro n; simp
  | cons x xs ih =>
    have h1 := ol.head
    have h2 := lv_nonneg ol.tail
    simp only [lv] at h
    intro n
    cases n with
    | zero => simp only [List.getD_cons_zero]; omega
    | succ n => rw [List.getD_cons_succ]; exact ih ol.tail (by omega) n
theorem l02Make_zero_loop {s : Int} {l : List Int} (hz : ∀ n, l.getD n 0 = 0) (hl : l.length ≤ 1000000000) (n : Nat) : ∀ k, n ≤ l.length → n < k → spec_l02Make.l0 k s l (n : Int) = some (0, []) := by
  induction n with
  | zero =>
    intro k h0 hk
    obtain ⟨k, rfl⟩ : ∃ m, k = m + 1 := ⟨k - 1, by omega⟩
    simp only [spec_l02Make.l0]
    rw [if_neg (by omega), if_pos (by omega)]
  | succ n ih =>
    intro k h0 hk
    obtain ⟨k, rfl⟩ : ∃ m, k = m + 1 := ⟨k - 1, by omega⟩
    simp only [spec_l02Make.l0]
    rw [if_pos (by omega), w64s (by omega) (by omega), show ((n + 1 : Nat) : Int) - 1 = (n : Int) from by omega, if_pos (by omega), if_pos (by omega), rd_cast, if_pos (hz n)]
    exact ih k (by omega) (by omega)
theorem l02Make_zero {s : Int} {l : List Int} (ol : Okl l) (h : lv l = 0) (hl : l.length ≤ 1000000000) : Ev (fun k => spec_l02Make.f k s l) (cn 0) := by
  rw [cn_zero]
  refine ⟨l.length + 1, fun k hk => ?_⟩
  show spec_l02Make.f k s l = _
  unfold spec_l02Make.f
  exact l02Make_zero_loop (lv_zero_getD ol h) hl l.length k (Nat.le_refl _) (by omega)
theorem l02Mul_inner {l m : List Int} (ol : Okl l) (om : Okl m) (hl : l.length ≤ 1000000) (hm : m.length ≤ 1000000) (s t : Int) {k : Nat} (hk : k < l.length) (d : Nat) : ∀ (i : Nat) (carry : Int) (os : List Int), i ≤ m.length → m.length - i = d → 0 ≤ carry → carry < 16777216 → LMulIn l m k i carry os →
    ∃ os', LMulRel l m (k + 1) os' ∧ ∀ r, Ev (fun f => spec_l02Mul.l0 f os' ((k + 1 : Nat) : Int) s l t m) r → Ev (fun f => spec_l02Mul.l1 f os (k : Int) carry (i : Int) s l t m) r := by
  induction d with
  | zero =>
    intro i carry os h0 hd c0 c1 hr
    obtain rfl : i = m.length := by omega
    refine ⟨_, hr.done hk ⟨c0, c1⟩, fun r h => Ev.step (fun f => ?_) h⟩
    have hlen := hr.len
    have e1 : wrap64 ((k : Int) + (m.length : Int)) = ((k + m.length : Nat) : Int) := by rw [w64s (by omega) (by omega)]; omega
    have e2 : wrap64 ((k : Int) + 1) = ((k + 1 : Nat) : Int) := by rw [w64s (by omega) (by omega)]; omega
    have e3 : ((k + m.length : Nat) : Int) < (os.length : Int) := by omega
    simp only [spec_l02Mul.l1]
    rw [if_neg (Int.lt_irrefl _), e1, if_pos (Int.natCast_nonneg _), if_pos e3, Int.toNat_natCast, e2]
  | succ d ih =>
    intro i carry os h0 hd c0 c1 hr
    have hi : i < m.length := by omega
    have hlen := hr.len
    have e3 : ((k + i : Nat) : Int) < (os.length : Int) := Int.ofNat_lt.2 (by omega)
    have e1 : wrap64 ((k : Int) + (i : Int)) = ((k + i : Nat) : Int) := by rw [w64s (by omega) (by omega)]; omega
    have e2 : wrap64 ((i : Int) + 1) = ((i + 1 : Nat) : Int) := by rw [w64s (by omega) (by omega)]; omega
    have hik : i + 1 ≤ m.length ∧ m.length - (i + 1) = d := by omega
    clear hlen
    have hsm := hr.small ol om hi ⟨c0, c1⟩
    have hp := lmul_bound (okl_getD ol k) (okl_getD om i)
    have ho := okl_getD hr.ok (k + i)
    have hst := hr.step hk hi rfl
    obtain ⟨p, hpe⟩ : ∃ p, p = l.getD k 0 * m.getD i 0 := ⟨_, rfl⟩
    obtain ⟨o, hoe⟩ : ∃ o, o = os.getD (k + i) 0 := ⟨_, rfl⟩
    rw [← hpe, ← hoe] at hsm hst
    rw [← hpe] at hp
    rw [← hoe] at ho
    have hq0 : 0 ≤ (carry + p + o) / 16777216 ∧ (carry + p + o) / 16777216 < 16777216 := by clear ih hst hik e1 e2 e3 hpe hoe; omega
    have e4 : wrap64 (carry + o) = carry + o := w64s (by clear ih hst hik e1 e2 e3 hpe hoe; omega) (by clear ih hst hik e1 e2 e3 hpe hoe; omega)
    have e5 : wrap64 p = p := w64s (by clear ih hst hik e1 e2 e3 hpe hoe; omega) (by clear ih hst hik e1 e2 e3 hpe hoe; omega)
    have e6 : wrap64 (carry + o + p) = carry + p + o := by
      have e : carry + o + p = carry + p + o := by rw [Int.add_assoc, Int.add_comm o, ← Int.add_assoc]
      rw [e]
      exact w64s (Int.le_trans (by omega) hsm.1) (Int.le_trans (Int.le_of_lt hsm.2) (by omega))
    have e8 : wrap64 ((carry + p + o) / 16777216) = (carry + p + o) / 16777216 := w64s (Int.le_trans (by omega) hq0.1) (Int.le_trans (Int.le_of_lt hq0.2) (by omega))
    have e7 := tdm (t := carry + p + o) hsm.1
    obtain ⟨os', h1, h2⟩ := ih (i + 1) ((carry + p + o) / 16777216) (os.set (k + i) ((carry + p + o) % 16777216)) hik.1 hik.2 hq0.1 hq0.2 hst
    refine ⟨os', h1, fun r h => Ev.step (fun f => ?_) (h2 r h)⟩
    simp only [spec_l02Mul.l1]
    rw [if_pos (Int.ofNat_lt.2 hi), e1, if_pos (Int.natCast_nonneg _), if_pos e3, if_pos (Int.natCast_nonneg _), if_pos (Int.ofNat_lt.2 hk), if_pos (Int.natCast_nonneg _), rd_cast, rd_cast, rd_cast, ← hoe, ← hpe, e4, e5, e6, e7.1, e7.2, e8, Int.toNat_natCast, e2]
theorem l02Mul_loop {s t : Int} {l m : List Int} (h : CW s l) (g : CW t m) (hl : l.length ≤ 1000000) (hm : m.length ≤ 1000000) (d : Nat) : ∀ (k : Nat) (os : List Int), k ≤ l.length → l.length - k = d → LMulRel l m k os →
    Ev (fun f => spec_l02Mul.l0 f os (k : Int) s l t m) (cn (wv s l * wv t m)) := by
  induction d with
  | zero =>
    intro k os h0 hd hr
    obtain rfl : k = l.length := by omega
    have hs := h.sign
    have ht := g.sign
    have hlen := hr.len
    have hlo : os.length ≤ 1000000000 := by omega
    have hst : -1 ≤ s * t ∧ s * t ≤ 1 := by
      rcases (show s = -1 ∨ s = 0 ∨ s = 1 from by omega) with rfl | rfl | rfl <;> omega
    refine Ev.step (g := fun f => (spec_l02Make.f f (wrap64 (s * t)) os).bind fun bt159 => (some (bt159.1, bt159.2))) (fun f => by simp only [spec_l02Mul.l0]; rw [if_neg (Int.lt_irrefl _)]) ?_
    have hv : wv s l * wv t m = (s * t) * lv os := by
      rw [h.val, g.val, hr.done]
      simp only [Int.mul_assoc, Int.mul_left_comm t]
    rw [w64s (by omega) (by omega), hv]
    suffices hmk : Ev (fun f => spec_l02Make.f f (s * t) os) (cn ((s * t) * lv os)) from Ev.bind (f := fun _ bt => some (bt.1, bt.2)) hmk (Ev.now _)
    by_cases e1 : s = 0
    · have := h.szero.1 e1
      subst e1 this
      rw [Int.zero_mul, Int.zero_mul]
      exact l02Make_zero hr.ok (by rw [hr.done]; simp [lv]) hlo
    · by_cases e2 : t = 0
      · have := g.szero.1 e2
        subst e2 this
        rw [Int.mul_zero, Int.zero_mul]
        exact l02Make_zero hr.ok (by rw [hr.done]; simp [lv]) hlo
      · refine l02Make ?_ hr.ok hlo
        rcases (show s = -1 ∨ s = 1 from by omega) with rfl | rfl <;> omega
  | succ d ih =>
    intro k os h0 hd hr
    have hk : k < l.length := by omega
    obtain ⟨os', h1, h2⟩ := l02Mul_inner h.ok g.ok hl hm s t hk m.length 0 0 os (Nat.zero_le _) rfl (Int.le_refl _) (by omega) hr.inner
    have := h2 _ (ih (k + 1) os' (by omega) (by omega) h1)
    refine Ev.step (fun f => ?_) this
    simp only [spec_l02Mul.l0]
    rw [if_pos (Int.ofNat_lt.2 hk)]
    rfl
theorem l02Mul {s t : Int} {l m : List Int} (h : CW s l) (g : CW t m) (hl : l.length ≤ 1000000) (hm : m.length ≤ 1000000) : Ev (fun k => spec_l02Mul.f k s l t m) (cn (wv s l * wv t m)) := by
  unfold spec_l02Mul.f
  have e1 : wrap64 ((l.length : Int) + (m.length : Int)) = ((l.length + m.length : Nat) : Int) := by rw [w64s (by omega) (by omega)]; omega
  have e2 : wrap64 (((l.length + m.length : Nat) : Int) + 1) = ((l.length + m.length + 1 : Nat) : Int) := by rw [w64s (by omega) (by omega)]; omega
  simp only [e1, e2, Int.toNat_natCast]
  simp only [if_pos (show (0 : Int) ≤ ((l.length + m.length + 1 : Nat) : Int) from Int.natCast_nonneg _), if_pos (show l.length + m.length + 1 ≤ 35184372088832 from by omega)]
  exact l02Mul_loop h g hl hm l.length 0 _ (Nat.zero_le _) rfl (LMulRel.start l m)
end Go.Proofs.YtbmjakaoniegfaaDoor.Pur
