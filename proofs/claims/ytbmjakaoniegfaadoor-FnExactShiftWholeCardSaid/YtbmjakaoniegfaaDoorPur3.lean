/- The reference's sums, differences and products of whole numbers, as plain mathematics. Conditions: limbs in range, lengths to 10^6. -/
import Derived.Test.YtbmjakaoniegfaaDoorPur1
import Derived.Test.YtbmjakaoniegfaaDoorMathM
import Derived.Test.YtbmjakaoniegfaaDoorBigD
import Derived.Test.YtbmjakaoniegfaaDoorX1
import Derived.Test.YtbmjakaoniegfaaDoorX2
import Derived.Test.YtbmjakaoniegfaaDoorX3
namespace Go.Proofs.YtbmjakaoniegfaaDoor.Pur
open Go.RowKit Go.Proofs.YtbmjakaoniegfaaDoor Go.Proofs.YtbmjakaoniegfaaDoor.Big Go.Proofs.YtbmjakaoniegfaaDoor.X Go.Proofs.YtbmjakaoniegfaaDoorW.PrintWords Go.Proofs.YtbmjakaoniegfaaDoorW.PrintLast Go.Proofs.YtbmjakaoniegfaaDoor.Math
set_option linter.unusedVariables false
set_option linter.unusedSimpArgs false

theorem cn_zero : cn 0 = (0, []) := by simp [cn, sgn, limbs_zero]
theorem wv_bound {s : Int} {l : List Int} (h : isW s l = true) : (wv s l).natAbs < 16777216 ^ 200 := by
  have hc := isW_cw h
  have h1 := lv_lt hc.ok
  have h0 := lv_nonneg hc.ok
  have h2 := lpow_mono (isW_len h)
  have h3 := lpow_cast 200
  rw [hc.natAbs]
  generalize (16777216 : Nat) ^ 200 = p at h3 ⊢
  generalize (16777216 : Int) ^ 200 = q at h2 h3
  generalize (16777216 : Int) ^ l.length = r at h1 h2
  generalize lv l = v at h0 h1 ⊢
  omega
theorem limbs_len_of {n : Int} (h : n.natAbs < 2 * 16777216 ^ 200) : (limbs n.natAbs).length ≤ 1000000000 := by
  refine Nat.le_trans (limbs_length_le (k := 201) ?_) (by omega)
  have e : (16777216 : Nat) ^ 201 = 16777216 ^ 200 * 16777216 := Nat.pow_succ ..
  rw [e]
  generalize (16777216 : Nat) ^ 200 = p at h
  omega
theorem natAbs_sub_le (a b : Int) : (a - b).natAbs ≤ a.natAbs + b.natAbs := by omega
theorem nat_two {f : Int → Int → Int} {n k : Int} (hf : ∀ a b, (f a b).natAbs ≤ a.natAbs + b.natAbs) (h : n.natAbs < 16777216 ^ 200) (g : k.natAbs < 16777216 ^ 200) : (f n k).natAbs < 2 * 16777216 ^ 200 := by
  have := hf n k
  generalize (16777216 : Nat) ^ 200 = p at h g ⊢
  omega
theorem limbs_len_mul {n k : Int} (h : n.natAbs < 16777216 ^ 200) (g : k.natAbs < 16777216 ^ 200) : (limbs (n * k).natAbs).length ≤ 1000000000 := by
  obtain ⟨j, hj⟩ : ∃ j, j = 200 := ⟨_, rfl⟩
  rw [← hj] at h g
  refine Nat.le_trans (limbs_length_le (k := j + j) ?_) (by omega)
  rw [Nat.pow_add, Int.natAbs_mul]
  exact Nat.mul_lt_mul'' h g
theorem l02Make_cw {s : Int} {l : List Int} (h : CW s l) (hl : l.length ≤ 1000000000) : Ev (fun k => spec_l02Make.f k s l) (cn (wv s l)) := by
  by_cases e : l = []
  · have hs := h.z e
    subst e hs
    refine ⟨1, fun k hk => ?_⟩
    obtain ⟨k, rfl⟩ : ∃ m, k = m + 1 := ⟨k - 1, by omega⟩
    show spec_l02Make.f (k + 1) 0 [] = _
    unfold spec_l02Make.f
    simp only [spec_l02Make.l0, List.length_nil]
    rw [if_neg (by omega), if_pos (by omega), wv_zero, cn_zero]
  · rw [h.val]
    exact l02Make (h.nz e) h.ok hl
theorem lv_zero_getD {l : List Int} (ol : Okl l) (h : lv l = 0) : ∀ n, l.getD n 0 = 0 := by
  induction l with
  | nil => intro n; simp
  | cons x xs ih =>
    have h1 := ol.head
    have h2 := lv_nonneg ol.tail
    simp only [lv] at h
    intro n
    cases n with
    | zero => simp only [List.getD_cons_zero]; omega
    | succ n => rw [List.getD_cons_succ]; exact ih ol.tail (by omega) n
theorem l02Make_zero_loop {s : Int} {l : List Int} (hz : ∀ n, l.getD n 0 = 0) (hl : l.length ≤ 1000000000) (n : Nat) : ∀ k, n ≤ l.length → n < k → spec_l02Make.l0 k s l (n : Int) = some (0, []) := by
  induction n with
  | zero =>
    intro k h0 hk
    obtain ⟨k, rfl⟩ : ∃ m, k = m + 1 := ⟨k - 1, by omega⟩
    simp only [spec_l02Make.l0]
    rw [if_neg (by omega), if_pos (by omega)]
  | succ n ih =>
    intro k h0 hk
    obtain ⟨k, rfl⟩ : ∃ m, k = m + 1 := ⟨k - 1, by omega⟩
    simp only [spec_l02Make.l0]
    rw [if_pos (by omega), w64s (by omega) (by omega), show ((n + 1 : Nat) : Int) - 1 = (n : Int) from by omega, if_pos (by omega), if_pos (by omega), rd_cast, if_pos (hz n)]
    exact ih k (by omega) (by omega)
theorem l02Make_zero {s : Int} {l : List Int} (ol : Okl l) (h : lv l = 0) (hl : l.length ≤ 1000000000) : Ev (fun k => spec_l02Make.f k s l) (cn 0) := by
  rw [cn_zero]
  refine ⟨l.length + 1, fun k hk => ?_⟩
  show spec_l02Make.f k s l = _
  unfold spec_l02Make.f
  exact l02Make_zero_loop (lv_zero_getD ol h) hl l.length k (Nat.le_refl _) (by omega)
theorem wfit_cn (n : Int) : wfit n = if (limbs n.natAbs).length ≤ 200 then (sgn n, limbs n.natAbs, 0) else (0, [], 3) := by
  unfold wfit
  by_cases h : blen n ≤ 4800
  · rw [if_pos h, if_pos ((limbs_len_iff n 200).2 h)]
  · rw [if_neg h, if_neg (fun g => h ((limbs_len_iff n 200).1 g))]
theorem l02Fit (n : Int) (hl : (limbs n.natAbs).length ≤ 1000000000) : Ev (fun k => spec_l02Fit.f k (cn n).1 (cn n).2) (wfit n) := by
  unfold spec_l02Fit.f
  refine Ev.bind (l02Is _ _ hl) ?_
  rw [cw_isW_iff (cw_cn n), wfit_cn]
  by_cases h : (limbs n.natAbs).length ≤ 200
  · rw [if_pos h, decide_eq_true (show (cn n).2.length ≤ 200 from h)]
    exact Ev.now _
  · rw [if_neg h, decide_eq_false (show ¬ (cn n).2.length ≤ 200 from h)]
    exact Ev.now _
theorem tdm {t : Int} (h : 0 ≤ t) : Int.tmod t 16777216 = t % 16777216 ∧ Int.tdiv t 16777216 = t / 16777216 := ⟨Int.tmod_eq_emod_of_nonneg h, Int.tdiv_eq_ediv_of_nonneg h⟩
theorem getD_out {l : List Int} {k : Nat} (h : l.length ≤ k) : l.getD k 0 = 0 := by
  rw [List.getD_eq_getElem?_getD, List.getElem?_eq_none h]
  rfl
set_option maxHeartbeats 1000000 in
theorem l02Plus_loop {a b : List Int} (oa : Okl a) (ob : Okl b) {M : Nat} (ha : a.length ≤ M) (hb : b.length ≤ M) (hM : M ≤ 1000000) (d : Nat) : ∀ (k : Nat) (carry : Int) (ds : List Int), k ≤ M + 1 → M + 1 - k = d → (k = M + 1 → carry = 0) → PlusRel a b k carry ds →
    ∃ r, Ev (fun f => spec_l02Plus.l0 f a b ds carry (k : Int)) r ∧ Okl r ∧ lv r = lv a + lv b ∧ r.length ≤ M + 1 := by
  induction d with
  | zero =>
    intro k carry ds h0 hd hc hr
    obtain rfl : k = M + 1 := by omega
    have := hc rfl
    subst this
    refine ⟨ds, ?_, hr.ok, hr.done (by omega) (by omega), by rw [hr.len]; omega⟩
    refine Ev.step (g := fun f => spec_l02Plus.j1 f a b ds 0 ((M + 1 : Nat) : Int) false) (fun f => by simp only [spec_l02Plus.l0]; rw [if_neg (by omega), if_neg (by omega), decide_eq_false (show ¬ (0 : Int) > 0 from by omega)]) ?_
    exact Ev.step (g := fun _ => some ds) (fun f => by simp [spec_l02Plus.j1]) (Ev.now _)
  | succ d ih =>
    intro k carry ds h0 hd hc hr
    have hx := okl_getD oa k
    have hy := okl_getD ob k
    have hcb := hr.c
    obtain ⟨t, ht⟩ : ∃ t, t = carry + a.getD k 0 + b.getD k 0 := ⟨_, rfl⟩
    have hstep := hr.step oa ob ht
    have hdl : ds.length < 17592186044416 := by rw [hr.len]; omega
    by_cases hrun : k < a.length ∨ k < b.length ∨ 0 < carry
    · obtain ⟨r, h1, h2⟩ := ih (k + 1) (t / 16777216) (ds ++ [t % 16777216]) (by omega) (by omega) (fun e => by
        rw [getD_out (show a.length ≤ k from by omega), getD_out (show b.length ≤ k from by omega)] at ht
        omega) hstep
      have HC := Aside0.mk (show ¬ k < a.length → ¬ k < b.length → carry > 0 from by omega)
      refine ⟨r, ?_, h2⟩
      have hw : wrap64 ((k : Int) + 1) = ((k + 1 : Nat) : Int) := by rw [w64s (by omega) (by omega)]; omega
      have ha1 : wrap64 (carry + a.getD k 0) = carry + a.getD k 0 := w64s (by omega) (by omega)
      have hb1 : wrap64 (carry + b.getD k 0) = carry + b.getD k 0 := w64s (by omega) (by omega)
      have hab : wrap64 (carry + a.getD k 0 + b.getD k 0) = carry + a.getD k 0 + b.getD k 0 := w64s (by omega) (by omega)
      have htw : wrap64 (t / 16777216) = t / 16777216 := w64s (by omega) (by omega)
      have ht0 : 0 ≤ t := by omega
      have hq := tdm ht0
      have hk0 : (0 : Int) ≤ (k : Int) := Int.natCast_nonneg k
      have L : ∀ {n : Nat}, k < n → (k : Int) < (n : Int) := fun h => Int.ofNat_lt.2 h
      have G : ∀ {n : Nat}, ¬ k < n → ¬ (k : Int) < (n : Int) := fun h g => h (Int.ofNat_lt.1 g)
      refine Ev.step (g := fun f => spec_l02Plus.j1 f a b ds carry (k : Int) true) (fun f => ?_) (Ev.step (fun f => ?_) h1)
      · simp only [spec_l02Plus.l0]
        by_cases e1 : k < a.length
        · rw [if_pos (L e1)]
        · rw [if_neg (G e1)]
          by_cases e2 : k < b.length
          · rw [if_pos (L e2)]
          · rw [if_neg (G e2), decide_eq_true (HC.out e1 e2)]
      · simp only [spec_l02Plus.j1, if_true]
        by_cases e1 : k < a.length
        · rw [if_pos (L e1), if_pos hk0]
          by_cases e2 : k < b.length
          · rw [if_pos (L e2), if_pos hdl, rd_cast, rd_cast, ha1, hab, ← ht, hq.1, hq.2, htw, hw]
          · rw [getD_out (Nat.le_of_not_lt e2), Int.add_zero] at ht
            rw [if_neg (G e2), if_pos hdl, rd_cast, ha1, ← ht, hq.1, hq.2, htw, hw]
        · rw [if_neg (G e1)]
          rw [getD_out (Nat.le_of_not_lt e1), Int.add_zero] at ht
          by_cases e2 : k < b.length
          · rw [if_pos (L e2), if_pos hk0, if_pos hdl, rd_cast, hb1, ← ht, hq.1, hq.2, htw, hw]
          · rw [getD_out (Nat.le_of_not_lt e2), Int.add_zero] at ht
            rw [if_neg (G e2), if_pos hdl, ← ht, hq.1, hq.2, htw, hw]
    · have : carry = 0 := by omega
      subst this
      refine ⟨ds, ?_, hr.ok, hr.done (by omega) (by omega), by rw [hr.len]; omega⟩
      refine Ev.step (g := fun f => spec_l02Plus.j1 f a b ds 0 (k : Int) false) (fun f => by simp only [spec_l02Plus.l0]; rw [if_neg (by omega), if_neg (by omega), decide_eq_false (show ¬ (0 : Int) > 0 from by omega)]) ?_
      exact Ev.step (g := fun _ => some ds) (fun f => by simp [spec_l02Plus.j1]) (Ev.now _)
theorem l02Plus {a b : List Int} (oa : Okl a) (ob : Okl b) (ha : a.length ≤ 1000000) (hb : b.length ≤ 1000000) :
    ∃ r, Ev (fun f => spec_l02Plus.f f a b) r ∧ Okl r ∧ lv r = lv a + lv b ∧ r.length ≤ max a.length b.length + 1 := by
  unfold spec_l02Plus.f
  exact l02Plus_loop oa ob (M := max a.length b.length) (by omega) (by omega) (by omega) _ 0 0 [] (by omega) rfl (by omega) (PlusRel.start a b)
set_option maxHeartbeats 1000000 in
theorem l02Minus_loop {a b : List Int} (oa : Okl a) (ob : Okl b) (ha : a.length ≤ 1000000) (hl : b.length ≤ a.length) (hv : lv b ≤ lv a) (d : Nat) : ∀ (k : Nat) (borrow : Int) (ds : List Int), k ≤ a.length → a.length - k = d → MinusRel a b k borrow ds →
    ∃ r, Ev (fun f => spec_l02Minus.l0 f a b ds borrow (k : Int)) r ∧ Okl r ∧ lv r = lv a - lv b ∧ r.length = a.length := by
  induction d with
  | zero =>
    intro k borrow ds h0 hd hr
    obtain rfl : k = a.length := by omega
    refine ⟨ds, ?_, hr.ok, hr.done hl hv, hr.len⟩
    exact Ev.step (g := fun _ => some ds) (fun f => by simp only [spec_l02Minus.l0]; rw [if_neg (by omega)]) (Ev.now _)
  | succ d ih =>
    intro k borrow ds h0 hd hr
    clear hv
    have hx := okl_getD oa k
    have hy := okl_getD ob k
    have hcb := hr.c
    have hdl : ds.length < 17592186044416 := by rw [hr.len]; omega
    have hw : wrap64 ((k : Int) + 1) = ((k + 1 : Nat) : Int) := by rw [w64s (by omega) (by omega)]; omega
    have hk0 : (0 : Int) ≤ (k : Int) := Int.natCast_nonneg k
    have L : ∀ {n : Nat}, k < n → (k : Int) < (n : Int) := fun h => Int.ofNat_lt.2 h
    have G : ∀ {n : Nat}, ¬ k < n → ¬ (k : Int) < (n : Int) := fun h g => h (Int.ofNat_lt.1 g)
    have hka : k < a.length := by omega
    have ha1 : wrap64 (a.getD k 0 - borrow) = a.getD k 0 - borrow := w64s (by omega) (by omega)
    have hab : wrap64 (a.getD k 0 - borrow - b.getD k 0) = a.getD k 0 - borrow - b.getD k 0 := w64s (by omega) (by omega)
    obtain ⟨t, ht⟩ : ∃ t, t = a.getD k 0 - borrow - b.getD k 0 := ⟨_, rfl⟩
    have htw : wrap64 (t + 16777216) = t + 16777216 := w64s (by omega) (by omega)
    by_cases hneg : t < 0
    · obtain ⟨r, h1, h2⟩ := ih (k + 1) 1 (ds ++ [t + 16777216]) (by omega) (by omega) (hr.step (b := 1) (by omega) (by omega) (by omega))
      refine ⟨r, Ev.step (fun f => ?_) h1, h2⟩
      simp only [spec_l02Minus.l0]
      rw [if_pos (L hka), if_pos hk0]
      by_cases e2 : k < b.length
      · rw [if_pos (L e2), rd_cast, rd_cast, ha1, hab, ← ht, if_pos hneg, if_pos hdl, htw, hw]
      · rw [getD_out (Nat.le_of_not_lt e2), Int.sub_zero] at ht
        rw [if_neg (G e2), rd_cast, ha1, ← ht, if_pos hneg, if_pos hdl, htw, hw]
    · obtain ⟨r, h1, h2⟩ := ih (k + 1) 0 (ds ++ [t]) (by omega) (by omega) (hr.step (b := 0) (by omega) (by omega) (by omega))
      refine ⟨r, Ev.step (fun f => ?_) h1, h2⟩
      simp only [spec_l02Minus.l0]
      rw [if_pos (L hka), if_pos hk0]
      by_cases e2 : k < b.length
      · rw [if_pos (L e2), rd_cast, rd_cast, ha1, hab, ← ht, if_neg hneg, if_pos hdl, hw]
      · rw [getD_out (Nat.le_of_not_lt e2), Int.sub_zero] at ht
        rw [if_neg (G e2), rd_cast, ha1, ← ht, if_neg hneg, if_pos hdl, hw]
theorem l02Minus {a b : List Int} (oa : Okl a) (ob : Okl b) (ha : a.length ≤ 1000000) (hl : b.length ≤ a.length) (hv : lv b ≤ lv a) :
    ∃ r, Ev (fun f => spec_l02Minus.f f a b) r ∧ Okl r ∧ lv r = lv a - lv b ∧ r.length = a.length := by
  unfold spec_l02Minus.f
  exact l02Minus_loop oa ob ha hl hv _ 0 0 [] (by omega) rfl (MinusRel.start a b)
theorem len_of_le {a b : List Int} (oa : Okl a) (ob : Okl b) (ta : Tight a) (tb : Tight b) (h : lv a ≤ lv b) : a.length ≤ b.length := by
  rcases Nat.lt_or_ge b.length a.length with g | g
  · have := lv_lt_of_length ob oa ta g
    omega
  · exact g
theorem l02Add {s t : Int} {l m : List Int} (h : CW s l) (g : CW t m) (hl : l.length ≤ 1000000) (hm : m.length ≤ 1000000) : Ev (fun k => spec_l02Add.f k s l t m) (cn (wv s l + wv t m)) := by
  have hs := h.sign
  have ht := g.sign
  unfold spec_l02Add.f
  by_cases e1 : s = 0
  · have := h.szero.1 e1
    subst e1 this
    simp only [if_true]
    rw [wv_zero, Int.zero_add]
    exact Ev.bind (f := fun _ bt => some (bt.1, bt.2)) (l02Make_cw g (by omega)) (Ev.now _)
  · simp only [if_neg e1]
    by_cases e2 : t = 0
    · have := g.szero.1 e2
      subst e2 this
      simp only [if_true]
      rw [wv_zero, Int.add_zero]
      exact Ev.bind (f := fun _ bt => some (bt.1, bt.2)) (l02Make_cw h (by omega)) (Ev.now _)
    · simp only [if_neg e2]
      by_cases e3 : s = t
      · subst e3
        simp only [if_true]
        obtain ⟨r, h1, h2, h3, h4⟩ := l02Plus h.ok g.ok hl hm
        refine Ev.bind h1 ?_
        rw [h.val, g.val, ← Int.mul_add, ← h3]
        exact Ev.bind (f := fun _ bt => some (bt.1, bt.2)) (l02Make (s := s) (by omega) h2 (by omega)) (Ev.now _)
      · simp only [if_neg e3]
        refine Ev.bind (l02CompareLimbs h.ok g.ok h.ti g.ti (by omega) (by omega)) ?_
        by_cases e4 : lv m ≤ lv l
        · have hsg : sgn (lv l - lv m) ≥ 0 := by unfold sgn; rw [if_neg (by omega)]; split <;> omega
          simp only [if_pos hsg]
          obtain ⟨r, h1, h2, h3, h4⟩ := l02Minus h.ok g.ok hl (len_of_le g.ok h.ok g.ti h.ti e4) e4
          refine Ev.bind h1 ?_
          have hv : wv s l + wv t m = s * lv r := by
            rw [h.val, g.val, h3, Int.mul_sub]
            rcases (show t = -s from by omega) with rfl
            rw [Int.neg_mul]
            omega
          rw [hv]
          exact Ev.bind (f := fun _ bt => some (bt.1, bt.2)) (l02Make (s := s) (by omega) h2 (by omega)) (Ev.now _)
        · have hsg : ¬ sgn (lv l - lv m) ≥ 0 := by unfold sgn; rw [if_pos (by omega)]; omega
          simp only [if_neg hsg]
          obtain ⟨r, h1, h2, h3, h4⟩ := l02Minus g.ok h.ok hm (len_of_le h.ok g.ok h.ti g.ti (by omega)) (by omega)
          refine Ev.bind h1 ?_
          have hv : wv s l + wv t m = t * lv r := by
            rw [h.val, g.val, h3, Int.mul_sub]
            rcases (show s = -t from by omega) with rfl
            rw [Int.neg_mul]
            omega
          rw [hv]
          exact Ev.bind (f := fun _ bt => some (bt.1, bt.2)) (l02Make (s := t) (by omega) h2 (by omega)) (Ev.now _)
theorem cw_neg {s : Int} {l : List Int} (h : CW s l) : CW (-s) l := ⟨h.ok, h.ti, fun e => by rw [h.z e]; rfl, fun e => by have := h.nz e; omega⟩
theorem wv_neg {s : Int} {l : List Int} (h : CW s l) : wv (-s) l = -wv s l := by rw [(cw_neg h).val, h.val, Int.neg_mul]
theorem l02Neg {s : Int} {l : List Int} (h : CW s l) (hl : l.length ≤ 1000000) : Ev (fun k => spec_l02Neg.f k s l) (cn (-wv s l)) := by
  have hs := h.sign
  unfold spec_l02Neg.f
  rw [← wv_neg h, w64s (by omega) (by omega)]
  exact Ev.bind (f := fun _ bt => some (bt.1, bt.2)) (l02Make_cw (cw_neg h) (by omega)) (Ev.now _)
theorem l02Sub {s t : Int} {l m : List Int} (h : CW s l) (g : CW t m) (hl : l.length ≤ 1000000) (hm : m.length ≤ 1000000) : Ev (fun k => spec_l02Sub.f k s l t m) (cn (wv s l - wv t m)) := by
  unfold spec_l02Sub.f
  refine Ev.bind (l02Neg g hm) ?_
  have hc := cw_cn (-wv t m)
  have hlen : (cn (-wv t m)).2.length ≤ 1000000 := by
    have := g.limbs
    simp only [cn, Int.natAbs_neg]
    rw [← this]
    exact hm
  have := l02Add h hc hl hlen
  rw [wv_cn, ← Int.sub_eq_add_neg] at this
  exact Ev.bind (f := fun _ bt => some (bt.1, bt.2)) this (Ev.now _)
end Go.Proofs.YtbmjakaoniegfaaDoor.Pur
