/- The reference's sums, differences and products of whole numbers, as plain mathematics. Conditions: limbs in range, lengths to 10^6. -/
import Derived.Test.YtlkomiiijhphnaaDoorG20
import Derived.Test.YtlkomiiijhphnaaDoorMathM
import Derived.Test.YtlkomiiijhphnaaDoorBigD
import Derived.Test.YtlkomiiijhphnaaDoorG18
import Derived.Test.YtlkomiiijhphnaaDoorX8
import Derived.Test.YtlkomiiijhphnaaDoorBndB
import Derived.Laws.Bits128
import Derived.Test.YtlkomiiijhphnaaDoorG16
import Derived.Test.YtlkomiiijhphnaaDoorG15
import Derived.Laws.BitsLemmas
/- The reference's bits, trailing zeros and shifts of whole numbers, as plain mathematics. Conditions: limbs in range, lengths to 10^6, shifts to 10^5. -/
namespace Go.Proofs.YtlkomiiijhphnaaDoor.Pur
open Go.RowKit Go.Proofs.YtlkomiiijhphnaaDoor Go.Proofs.YtlkomiiijhphnaaDoor.Big Go.Proofs.YtlkomiiijhphnaaDoor.X Go.Proofs.YtlkomiiijhphnaaDoorW.PrintWords Go.Proofs.YtlkomiiijhphnaaDoorW.PrintLast Go.Proofs.YtlkomiiijhphnaaDoor.Math
set_option linter.unusedVariables false
set_option linter.unusedSimpArgs false
theorem cn_zero : cn 0 = (0, []) := by simp [cn, sgn, limbs_zero]
theorem wv_bound {s : Int} {l : List Int} (h : isW s l = true) : (wv s l).natAbs < 16777216 ^ 200 := by
 have hc := isW_cw h
 have h1 := lv_lt hc.ok
 have h0 := lv_nonneg hc.ok
 have h2 := lpow_mono (isW_len h)
 have h3 := lpow_cast 200
 rw [hc.natAbs]
 generalize (16777216 : Nat) ^ 200 = p at h3 ⊢
 generalize (16777216 : Int) ^ 200 = q at h2 h3
 generalize (16777216 : Int) ^ l.length = r at h1 h2
 generalize lv l = v at h0 h1 ⊢
 omega
theorem limbs_len_of {n : Int} (h : n.natAbs < 2 * 16777216 ^ 200) : (limbs n.natAbs).length ≤ 1000000000 := by
 refine Nat.le_trans (limbs_length_le (k := 201) ?_) (by omega)
 have e : (16777216 : Nat) ^ 201 = 16777216 ^ 200 * 16777216 := Nat.pow_succ ..
 rw [e]
 generalize (16777216 : Nat) ^ 200 = p at h
 omega
theorem natAbs_sub_le (a b : Int) : (a - b).natAbs ≤ a.natAbs + b.natAbs := by omega
theorem nat_two {f : Int → Int → Int} {n k : Int} (hf : ∀ a b, (f a b).natAbs ≤ a.natAbs + b.natAbs) (h : n.natAbs < 16777216 ^ 200) (g : k.natAbs < 16777216 ^ 200) : (f n k).natAbs < 2 * 16777216 ^ 200 := by
 have := hf n k
 generalize (16777216 : Nat) ^ 200 = p at h g ⊢
 omega
theorem l02Make_cw {s : Int} {l : List Int} (h : CW s l) (hl : l.length ≤ 1000000000) : Ev (fun k => spec_l02Make.f k s l) (cn (wv s l)) := by
 by_cases e : l = []
 ·have hs := h.z e
  subst e hs
  refine ⟨1, fun k hk => ?_⟩
  obtain ⟨k, rfl⟩ : ∃ m, k = m + 1 := ⟨k - 1, by omega⟩
  show spec_l02Make.f (k + 1) 0 [] = _
  unfold spec_l02Make.f
  simp only [spec_l02Make.l0, List.length_nil]
  rw [if_neg (by omega), if_pos (by omega), wv_zero, cn_zero]
 ·rw [h.val]
  exact l02Make (h.nz e) h.ok hl
theorem lv_zero_getD {l : List Int} (ol : Okl l) (h : lv l = 0) : ∀ n, l.getD n 0 = 0 := by
 induction l with
 | nil => intro n; simp
 | cons x xs ih =>
  have h1 := ol.head
  have h2 := lv_nonneg ol.tail
  simp only [lv] at h
  intro n
  cases n with
  | zero => simp only [List.getD_cons_zero]; omega
  | succ n => rw [List.getD_cons_succ]; exact ih ol.tail (by omega) n
theorem l02Make_zero_loop {s : Int} {l : List Int} (hz : ∀ n, l.getD n 0 = 0) (hl : l.length ≤ 1000000000) (n : Nat) : ∀ k, n ≤ l.length → n < k → spec_l02Make.l0 k s l (n : Int) = some (0, []) := by
 induction n with
 | zero =>
  intro k h0 hk
  obtain ⟨k, rfl⟩ : ∃ m, k = m + 1 := ⟨k - 1, by omega⟩
  simp only [spec_l02Make.l0]
  rw [if_neg (by omega), if_pos (by omega)]
 | succ n ih =>
  intro k h0 hk
  obtain ⟨k, rfl⟩ : ∃ m, k = m + 1 := ⟨k - 1, by omega⟩
  simp only [spec_l02Make.l0]
  rw [if_pos (by omega), w64s (by omega) (by omega), show ((n + 1 : Nat) : Int) - 1 = (n : Int) from by omega, if_pos (by omega), if_pos (by omega), rd_cast, if_pos (hz n)]
  exact ih k (by omega) (by omega)
theorem l02Make_zero {s : Int} {l : List Int} (ol : Okl l) (h : lv l = 0) (hl : l.length ≤ 1000000000) : Ev (fun k => spec_l02Make.f k s l) (cn 0) := by
 rw [cn_zero]
 refine ⟨l.length + 1, fun k hk => ?_⟩
 show spec_l02Make.f k s l = _
 unfold spec_l02Make.f
 exact l02Make_zero_loop (lv_zero_getD ol h) hl l.length k (Nat.le_refl _) (by omega)
theorem wfit_cn (n : Int) : wfit n = if (limbs n.natAbs).length ≤ 200 then (sgn n, limbs n.natAbs, 0) else (0, [], 3) := by
 unfold wfit
 by_cases h : blen n ≤ 4800
 ·rw [if_pos h, if_pos ((limbs_len_iff n 200).2 h)]
 ·rw [if_neg h, if_neg (fun g => h ((limbs_len_iff n 200).1 g))]
theorem l02Fit (n : Int) (hl : (limbs n.natAbs).length ≤ 1000000000) : Ev (fun k => spec_l02Fit.f k (cn n).1 (cn n).2) (wfit n) := by
 unfold spec_l02Fit.f
 refine Ev.bind (l02Is _ _ hl) ?_
 rw [cw_isW_iff (cw_cn n), wfit_cn]
 by_cases h : (limbs n.natAbs).length ≤ 200
 ·rw [if_pos h, decide_eq_true (show (cn n).2.length ≤ 200 from h)]
  exact Ev.now _
 ·rw [if_neg h, decide_eq_false (show ¬ (cn n).2.length ≤ 200 from h)]
  exact Ev.now _
theorem tdm {t : Int} (h : 0 ≤ t) : Int.tmod t 16777216 = t % 16777216 ∧ Int.tdiv t 16777216 = t / 16777216 := ⟨Int.tmod_eq_emod_of_nonneg h, Int.tdiv_eq_ediv_of_nonneg h⟩
theorem getD_out {l : List Int} {k : Nat} (h : l.length ≤ k) : l.getD k 0 = 0 := by
 rw [List.getD_eq_getElem?_getD, List.getElem?_eq_none h]
 rfl
set_option maxHeartbeats 1000000 in
theorem l02Plus_loop {a b : List Int} (oa : Okl a) (ob : Okl b) {M : Nat} (ha : a.length ≤ M) (hb : b.length ≤ M) (hM : M ≤ 1000000) (d : Nat) : ∀ (k : Nat) (carry : Int) (ds : List Int), k ≤ M + 1 → M + 1 - k = d → (k = M + 1 → carry = 0) → PlusRel a b k carry ds →
  ∃ r, Ev (fun f => spec_l02Plus.l0 f a b ds carry (k : Int)) r ∧ Okl r ∧ lv r = lv a + lv b ∧ r.length ≤ M + 1 := by
 induction d with
 | zero =>
  intro k carry ds h0 hd hc hr
  obtain rfl : k = M + 1 := by omega
  have := hc rfl
  subst this
  refine ⟨ds, ?_, hr.ok, hr.done (by omega) (by omega), by rw [hr.len]; omega⟩
  refine Ev.step (g := fun f => spec_l02Plus.j1 f a b ds 0 ((M + 1 : Nat) : Int) false) (fun f => by simp only [spec_l02Plus.l0]; rw [if_neg (by omega), if_neg (by omega), decide_eq_false (show ¬ (0 : Int) > 0 from by omega)]) ?_
  exact Ev.step (g := fun _ => some ds) (fun f => by simp [spec_l02Plus.j1]) (Ev.now _)
 | succ d ih =>
  intro k carry ds h0 hd hc hr
  have hx := okl_getD oa k
  have hy := okl_getD ob k
  have hcb := hr.c
  obtain ⟨t, ht⟩ : ∃ t, t = carry + a.getD k 0 + b.getD k 0 := ⟨_, rfl⟩
  have hstep := hr.step oa ob ht
  have hdl : ds.length < 17592186044416 := by rw [hr.len]; omega
  by_cases hrun : k < a.length ∨ k < b.length ∨ 0 < carry
  ·obtain ⟨r, h1, h2⟩ := ih (k + 1) (t / 16777216) (ds ++ [t % 16777216]) (by omega) (by omega) (fun e => by
    rw [getD_out (show a.length ≤ k from by omega), getD_out (show b.length ≤ k from by omega)] at ht
    omega) hstep
   have HC := Aside0.mk (show ¬ k < a.length → ¬ k < b.length → carry > 0 from by omega)
   refine ⟨r, ?_, h2⟩
   have hw : wrap64 ((k : Int) + 1) = ((k + 1 : Nat) : Int) := by rw [w64s (by omega) (by omega)]; omega
   have ha1 : wrap64 (carry + a.getD k 0) = carry + a.getD k 0 := w64s (by omega) (by omega)
   have hb1 : wrap64 (carry + b.getD k 0) = carry + b.getD k 0 := w64s (by omega) (by omega)
   have hab : wrap64 (carry + a.getD k 0 + b.getD k 0) = carry + a.getD k 0 + b.getD k 0 := w64s (by omega) (by omega)
   have htw : wrap64 (t / 16777216) = t / 16777216 := w64s (by omega) (by omega)
   have ht0 : 0 ≤ t := by omega
   have hq := tdm ht0
   have hk0 : (0 : Int) ≤ (k : Int) := Int.natCast_nonneg k
   have L : ∀ {n : Nat}, k < n → (k : Int) < (n : Int) := fun h => Int.ofNat_lt.2 h
   have G : ∀ {n : Nat}, ¬ k < n → ¬ (k : Int) < (n : Int) := fun h g => h (Int.ofNat_lt.1 g)
   refine Ev.step (g := fun f => spec_l02Plus.j1 f a b ds carry (k : Int) true) (fun f => ?_) (Ev.step (fun f => ?_) h1)
   ·simp only [spec_l02Plus.l0]
    by_cases e1 : k < a.length
    ·rw [if_pos (L e1)]
    ·rw [if_neg (G e1)]
     by_cases e2 : k < b.length
     ·rw [if_pos (L e2)]
     ·rw [if_neg (G e2), decide_eq_true (HC.out e1 e2)]
   ·simp only [spec_l02Plus.j1, if_true]
    by_cases e1 : k < a.length
    ·rw [if_pos (L e1), if_pos hk0]
     by_cases e2 : k < b.length
     ·rw [if_pos (L e2), if_pos hdl, rd_cast, rd_cast, ha1, hab, ← ht, hq.1, hq.2, htw, hw]
     ·rw [getD_out (Nat.le_of_not_lt e2), Int.add_zero] at ht
      rw [if_neg (G e2), if_pos hdl, rd_cast, ha1, ← ht, hq.1, hq.2, htw, hw]
    ·rw [if_neg (G e1)]
     rw [getD_out (Nat.le_of_not_lt e1), Int.add_zero] at ht
     by_cases e2 : k < b.length
     ·rw [if_pos (L e2), if_pos hk0, if_pos hdl, rd_cast, hb1, ← ht, hq.1, hq.2, htw, hw]
     ·rw [getD_out (Nat.le_of_not_lt e2), Int.add_zero] at ht
      rw [if_neg (G e2), if_pos hdl, ← ht, hq.1, hq.2, htw, hw]
  ·have : carry = 0 := by omega
   subst this
   refine ⟨ds, ?_, hr.ok, hr.done (by omega) (by omega), by rw [hr.len]; omega⟩
   refine Ev.step (g := fun f => spec_l02Plus.j1 f a b ds 0 (k : Int) false) (fun f => by simp only [spec_l02Plus.l0]; rw [if_neg (by omega), if_neg (by omega), decide_eq_false (show ¬ (0 : Int) > 0 from by omega)]) ?_
   exact Ev.step (g := fun _ => some ds) (fun f => by simp [spec_l02Plus.j1]) (Ev.now _)
theorem l02Plus {a b : List Int} (oa : Okl a) (ob : Okl b) (ha : a.length ≤ 1000000) (hb : b.length ≤ 1000000) :
  ∃ r, Ev (fun f => spec_l02Plus.f f a b) r ∧ Okl r ∧ lv r = lv a + lv b ∧ r.length ≤ max a.length b.length + 1 := by
 unfold spec_l02Plus.f
 exact l02Plus_loop oa ob (M := max a.length b.length) (by omega) (by omega) (by omega) _ 0 0 [] (by omega) rfl (by omega) (PlusRel.start a b)
set_option maxHeartbeats 1000000 in
theorem l02Minus_loop {a b : List Int} (oa : Okl a) (ob : Okl b) (ha : a.length ≤ 1000000) (hl : b.length ≤ a.length) (hv : lv b ≤ lv a) (d : Nat) : ∀ (k : Nat) (borrow : Int) (ds : List Int), k ≤ a.length → a.length - k = d → MinusRel a b k borrow ds →
  ∃ r, Ev (fun f => spec_l02Minus.l0 f a b ds borrow (k : Int)) r ∧ Okl r ∧ lv r = lv a - lv b ∧ r.length = a.length := by
 induction d with
 | zero =>
  intro k borrow ds h0 hd hr
  obtain rfl : k = a.length := by omega
  refine ⟨ds, ?_, hr.ok, hr.done hl hv, hr.len⟩
  exact Ev.step (g := fun _ => some ds) (fun f => by simp only [spec_l02Minus.l0]; rw [if_neg (by omega)]) (Ev.now _)
 | succ d ih =>
  intro k borrow ds h0 hd hr
  clear hv
  have hx := okl_getD oa k
  have hy := okl_getD ob k
  have hcb := hr.c
  have hdl : ds.length < 17592186044416 := by rw [hr.len]; omega
  have hw : wrap64 ((k : Int) + 1) = ((k + 1 : Nat) : Int) := by rw [w64s (by omega) (by omega)]; omega
  have hk0 : (0 : Int) ≤ (k : Int) := Int.natCast_nonneg k
  have L : ∀ {n : Nat}, k < n → (k : Int) < (n : Int) := fun h => Int.ofNat_lt.2 h
  have G : ∀ {n : Nat}, ¬ k < n → ¬ (k : Int) < (n : Int) := fun h g => h (Int.ofNat_lt.1 g)
  have hka : k < a.length := by omega
  have ha1 : wrap64 (a.getD k 0 - borrow) = a.getD k 0 - borrow := w64s (by omega) (by omega)
  have hab : wrap64 (a.getD k 0 - borrow - b.getD k 0) = a.getD k 0 - borrow - b.getD k 0 := w64s (by omega) (by omega)
  obtain ⟨t, ht⟩ : ∃ t, t = a.getD k 0 - borrow - b.getD k 0 := ⟨_, rfl⟩
  have htw : wrap64 (t + 16777216) = t + 16777216 := w64s (by omega) (by omega)
  by_cases hneg : t < 0
  ·obtain ⟨r, h1, h2⟩ := ih (k + 1) 1 (ds ++ [t + 16777216]) (by omega) (by omega) (hr.step (b := 1) (by omega) (by omega) (by omega))
   refine ⟨r, Ev.step (fun f => ?_) h1, h2⟩
   simp only [spec_l02Minus.l0]
   rw [if_pos (L hka), if_pos hk0]
   by_cases e2 : k < b.length
   ·rw [if_pos (L e2), rd_cast, rd_cast, ha1, hab, ← ht, if_pos hneg, if_pos hdl, htw, hw]
   ·rw [getD_out (Nat.le_of_not_lt e2), Int.sub_zero] at ht
    rw [if_neg (G e2), rd_cast, ha1, ← ht, if_pos hneg, if_pos hdl, htw, hw]
  ·obtain ⟨r, h1, h2⟩ := ih (k + 1) 0 (ds ++ [t]) (by omega) (by omega) (hr.step (b := 0) (by omega) (by omega) (by omega))
   refine ⟨r, Ev.step (fun f => ?_) h1, h2⟩
   simp only [spec_l02Minus.l0]
   rw [if_pos (L hka), if_pos hk0]
   by_cases e2 : k < b.length
   ·rw [if_pos (L e2), rd_cast, rd_cast, ha1, hab, ← ht, if_neg hneg, if_pos hdl, hw]
   ·rw [getD_out (Nat.le_of_not_lt e2), Int.sub_zero] at ht
    rw [if_neg (G e2), rd_cast, ha1, ← ht, if_neg hneg, if_pos hdl, hw]
theorem l02Minus {a b : List Int} (oa : Okl a) (ob : Okl b) (ha : a.length ≤ 1000000) (hl : b.length ≤ a.length) (hv : lv b ≤ lv a) :
  ∃ r, Ev (fun f => spec_l02Minus.f f a b) r ∧ Okl r ∧ lv r = lv a - lv b ∧ r.length = a.length := by
 unfold spec_l02Minus.f
 exact l02Minus_loop oa ob ha hl hv _ 0 0 [] (by omega) rfl (MinusRel.start a b)
theorem len_of_le {a b : List Int} (oa : Okl a) (ob : Okl b) (ta : Tight a) (tb : Tight b) (h : lv a ≤ lv b) : a.length ≤ b.length := by
 rcases Nat.lt_or_ge b.length a.length with g | g
 ·have := lv_lt_of_length ob oa ta g
  omega
 ·exact g
theorem l02Add {s t : Int} {l m : List Int} (h : CW s l) (g : CW t m) (hl : l.length ≤ 1000000) (hm : m.length ≤ 1000000) : Ev (fun k => spec_l02Add.f k s l t m) (cn (wv s l + wv t m)) := by
 have hs := h.sign
 have ht := g.sign
 unfold spec_l02Add.f
 by_cases e1 : s = 0
 ·have := h.szero.1 e1
  subst e1 this
  simp only [if_true]
  rw [wv_zero, Int.zero_add]
  exact Ev.bind (f := fun _ bt => some (bt.1, bt.2)) (l02Make_cw g (by omega)) (Ev.now _)
 ·simp only [if_neg e1]
  by_cases e2 : t = 0
  ·have := g.szero.1 e2
   subst e2 this
   simp only [if_true]
   rw [wv_zero, Int.add_zero]
   exact Ev.bind (f := fun _ bt => some (bt.1, bt.2)) (l02Make_cw h (by omega)) (Ev.now _)
  ·simp only [if_neg e2]
   by_cases e3 : s = t
   ·subst e3
    simp only [if_true]
    obtain ⟨r, h1, h2, h3, h4⟩ := l02Plus h.ok g.ok hl hm
    refine Ev.bind h1 ?_
    rw [h.val, g.val, ← Int.mul_add, ← h3]
    exact Ev.bind (f := fun _ bt => some (bt.1, bt.2)) (l02Make (s := s) (by omega) h2 (by omega)) (Ev.now _)
   ·simp only [if_neg e3]
    refine Ev.bind (l02CompareLimbs h.ok g.ok h.ti g.ti (by omega) (by omega)) ?_
    by_cases e4 : lv m ≤ lv l
    ·have hsg : sgn (lv l - lv m) ≥ 0 := by unfold sgn; rw [if_neg (by omega)]; split <;> omega
     simp only [if_pos hsg]
     obtain ⟨r, h1, h2, h3, h4⟩ := l02Minus h.ok g.ok hl (len_of_le g.ok h.ok g.ti h.ti e4) e4
     refine Ev.bind h1 ?_
     have hv : wv s l + wv t m = s * lv r := by
      rw [h.val, g.val, h3, Int.mul_sub]
      rcases (show t = -s from by omega) with rfl
      rw [Int.neg_mul]
      omega
     rw [hv]
     exact Ev.bind (f := fun _ bt => some (bt.1, bt.2)) (l02Make (s := s) (by omega) h2 (by omega)) (Ev.now _)
    ·have hsg : ¬ sgn (lv l - lv m) ≥ 0 := by unfold sgn; rw [if_pos (by omega)]; omega
     simp only [if_neg hsg]
     obtain ⟨r, h1, h2, h3, h4⟩ := l02Minus g.ok h.ok hm (len_of_le h.ok g.ok h.ti g.ti (by omega)) (by omega)
     refine Ev.bind h1 ?_
     have hv : wv s l + wv t m = t * lv r := by
      rw [h.val, g.val, h3, Int.mul_sub]
      rcases (show s = -t from by omega) with rfl
      rw [Int.neg_mul]
      omega
     rw [hv]
     exact Ev.bind (f := fun _ bt => some (bt.1, bt.2)) (l02Make (s := t) (by omega) h2 (by omega)) (Ev.now _)
theorem cw_neg {s : Int} {l : List Int} (h : CW s l) : CW (-s) l := ⟨h.ok, h.ti, fun e => by rw [h.z e]; rfl, fun e => by have := h.nz e; omega⟩
theorem wv_neg {s : Int} {l : List Int} (h : CW s l) : wv (-s) l = -wv s l := by rw [(cw_neg h).val, h.val, Int.neg_mul]
theorem l02Neg {s : Int} {l : List Int} (h : CW s l) (hl : l.length ≤ 1000000) : Ev (fun k => spec_l02Neg.f k s l) (cn (-wv s l)) := by
 have hs := h.sign
 unfold spec_l02Neg.f
 rw [← wv_neg h, w64s (by omega) (by omega)]
 exact Ev.bind (f := fun _ bt => some (bt.1, bt.2)) (l02Make_cw (cw_neg h) (by omega)) (Ev.now _)
theorem l02Sub {s t : Int} {l m : List Int} (h : CW s l) (g : CW t m) (hl : l.length ≤ 1000000) (hm : m.length ≤ 1000000) : Ev (fun k => spec_l02Sub.f k s l t m) (cn (wv s l - wv t m)) := by
 unfold spec_l02Sub.f
 refine Ev.bind (l02Neg g hm) ?_
 have hc := cw_cn (-wv t m)
 have hlen : (cn (-wv t m)).2.length ≤ 1000000 := by
  have := g.limbs
  simp only [cn, Int.natAbs_neg]
  rw [← this]
  exact hm
 have := l02Add h hc hl hlen
 rw [wv_cn, ← Int.sub_eq_add_neg] at this
 exact Ev.bind (f := fun _ bt => some (bt.1, bt.2)) this (Ev.now _)
end Go.Proofs.YtlkomiiijhphnaaDoor.Pur
namespace Go.Proofs.YtlkomiiijhphnaaDoor.Pur
open Go.RowKit Go.Proofs.YtlkomiiijhphnaaDoor Go.Proofs.YtlkomiiijhphnaaDoor.Big Go.Proofs.YtlkomiiijhphnaaDoor.X Go.Proofs.YtlkomiiijhphnaaDoorW.PrintWords Go.Proofs.YtlkomiiijhphnaaDoorW.PrintLast Go.Proofs.YtlkomiiijhphnaaDoorW.PrintMore Go.Proofs.YtlkomiiijhphnaaDoor.Math
set_option linter.unusedVariables false
set_option linter.unusedSimpArgs false
theorem and_one (n : Int) : Go.bits .and .i64 n 1 = n % 2 := by
 have h127 : (BitVec.ofInt 64 1).toNat = 2 ^ 1 - 1 := by decide
 have key : (BitVec.ofInt 64 n &&& BitVec.ofInt 64 1).toNat = (n % ((2 ^ 64 : Nat) : Int)).toNat % 2 ^ 1 := by
  rw [BitVec.toNat_and, BitVec.toNat_ofInt, h127, Nat.and_two_pow_sub_one_eq_mod]
 show IntKind.i64.wrap ((BitVec.ofInt 64 n &&& BitVec.ofInt 64 1).toNat : Nat) = n % 2
 rw [key, IntKind.wrap_i64]
 omega
theorem shr_small (x : Int) {r : Nat} (hr : r < 64) : shr .i64 x (r : Int) = x / 2 ^ r := by
 unfold shr
 rw [Int.toNat_natCast, show min r (IntKind.bits .i64) = r from Nat.min_eq_left (Nat.le_of_lt hr)]
theorem shl_small {x : Int} {r : Nat} (hr : r ≤ 24) (h0 : 0 ≤ x) (h1 : x < 16777216) : shl .i64 x (r : Int) = x * 2 ^ r ∧ 0 ≤ x * 2 ^ r ∧ x * 2 ^ r ≤ 281474976710656 := by
 have hp := two_pow_pos r
 have hq : (2 : Int) ^ r ≤ 16777216 := two_pow_le (s := 24) hr
 have h2 : 0 ≤ x * 2 ^ r := Int.mul_nonneg h0 (Int.le_of_lt hp)
 have h3 : x * 2 ^ r ≤ 16777215 * 16777216 := Int.mul_le_mul (by omega) hq (Int.le_of_lt hp) (by omega)
 unfold shl
 rw [Int.toNat_natCast, show min r (IntKind.bits .i64) = r from Nat.min_eq_left (Nat.le_trans hr (by decide))]
 generalize x * 2 ^ r = p at h2 h3 ⊢
 refine ⟨?_, h2, by omega⟩
 rw [IntKind.wrap_i64]
 omega
theorem left_num {carry x : Int} {r : Nat} (hr : r < 24) (hc : 0 ≤ carry ∧ carry < 16777216) (hx : 0 ≤ x ∧ x < 16777216) :
  wrap64 (Int.tdiv (wrap64 (carry + shl .i64 x (r : Int))) 16777216) = (carry + x * 2 ^ r) / 16777216 ∧ Int.tmod (wrap64 (carry + shl .i64 x (r : Int))) 16777216 = (carry + x * 2 ^ r) % 16777216 := by
 obtain ⟨e1, e2, e3⟩ := shl_small (r := r) (Nat.le_of_lt hr) hx.1 hx.2
 rw [e1]
 clear e1 hx hr
 generalize x * 2 ^ r = p at e2 e3 ⊢
 have f1 : wrap64 (carry + p) = carry + p := w64s (by omega) (by omega)
 have f2 : wrap64 ((carry + p) / 16777216) = (carry + p) / 16777216 := w64s (by omega) (by omega)
 have f0 : 0 ≤ carry + p := by omega
 have f3 := tdm f0
 rw [f1, f3.1, f3.2, f2]
 exact ⟨rfl, rfl⟩
theorem succ_i {i : Nat} (h : i ≤ 10000000) : wrap64 ((i : Int) + 1) = ((i + 1 : Nat) : Int) := by rw [w64s (by omega) (by omega)]; omega
theorem qr {k : Nat} (hk : k ≤ 1000000) : Int.tdiv (k : Int) 24 = ((k / 24 : Nat) : Int) ∧ Int.tmod (k : Int) 24 = ((k % 24 : Nat) : Int) ∧ wrap64 ((k / 24 : Nat) : Int) = ((k / 24 : Nat) : Int) ∧ IntKind.u64.wrap ((k % 24 : Nat) : Int) = ((k % 24 : Nat) : Int) := by
 refine ⟨?_, ?_, w64s (by omega) (by omega), ?_⟩
 ·rw [Int.tdiv_eq_ediv_of_nonneg (by omega)]
  omega
 ·rw [Int.tmod_eq_emod_of_nonneg (by omega)]
  omega
 ·rw [wrapU]
  omega
theorem lpow_two_int (n : Nat) : (16777216 : Int) ^ n = 2 ^ (24 * n) := by
 rw [Int.pow_mul]
 rfl
theorem lv_small {l : List Int} (ol : Okl l) {k : Nat} (h : l.length ≤ k / 24) : lv l / 2 ^ k = 0 := by
 refine Int.ediv_eq_zero_of_lt (lv_nonneg ol) (Int.lt_of_lt_of_le (lv_lt ol) ?_)
 rw [lpow_two_int]
 exact two_pow_le (by omega)
theorem l02Bit (s : Int) {l : List Int} (ol : Okl l) (hl : l.length ≤ 1000000) {k : Nat} (hk : k ≤ 1000000) : spec_l02Bit.f s l (k : Int) = some ((lv l / 2 ^ k) % 2) := by
 obtain ⟨q1, q2, q3, q4⟩ := qr hk
 unfold spec_l02Bit.f
 rw [q1, q2, q3, q4]
 by_cases hq : k / 24 < l.length
 ·have hlt : ((k / 24 : Nat) : Int) < (l.length : Int) := Int.ofNat_lt.2 hq
  rw [if_neg (Int.not_le.2 hlt), if_pos (Int.natCast_nonneg _), if_pos hlt, if_pos (Int.natCast_nonneg _), rd_cast, shr_small _ (by omega), and_one, limb_bit ol (k / 24) (r := k % 24) (by omega) hq, show 24 * (k / 24) + k % 24 = k from by omega]
 ·rw [if_pos (show ((k / 24 : Nat) : Int) ≥ (l.length : Int) from Int.ofNat_le.2 (by omega)), lv_small ol (by omega)]
  rfl
theorem l02Make_any {s : Int} {l : List Int} (hs : -1 ≤ s ∧ s ≤ 1) (hz : s = 0 → lv l = 0) (ol : Okl l) (hl : l.length ≤ 1000000000) : Ev (fun k => spec_l02Make.f k s l) (cn (s * lv l)) := by
 by_cases e : s = 0
 ·have := hz e
  rw [this, Int.mul_zero]
  exact l02Make_zero ol this hl
 ·exact l02Make (by omega) ol hl
theorem l02Left_loop {s : Int} {l : List Int} (h : CW s l) (hl : l.length ≤ 1000000) {k : Nat} (hk : k ≤ 100000) (d : Nat) : ∀ (i : Nat) (carry : Int) (ds : List Int), i ≤ l.length → l.length - i = d → LeftRel l (k % 24) i carry ds →
  Ev (fun f => spec_l02Left.l0 f (k : Int) (List.replicate (k / 24) 0 ++ ds) carry (i : Int) s l) (cn (wv s l * 2 ^ k)) := by
 obtain ⟨q1, q2, q3, q4⟩ := qr (show k ≤ 1000000 from by omega)
 have hr : k % 24 < 24 := by omega
 have hkk : 24 * (k / 24) + k % 24 = k := by omega
 have hq : k / 24 ≤ 100000 := by omega
 have hs := h.sign
 have Q2 := Aside0.mk q2
 have Q4 := Aside0.mk q4
 clear q1 q2 q3 q4
 generalize k % 24 = r at *
 generalize k / 24 = q at *
 induction d with
 | zero =>
  intro i carry ds h0 hd hrel
  obtain rfl : i = l.length := by omega
  have hlen : (List.replicate q (0 : Int) ++ ds).length < 17592186044416 := by rw [List.length_append, List.length_replicate, hrel.len]; omega
  have hlen2 : (List.replicate q (0 : Int) ++ ds ++ [carry]).length ≤ 1000000000 := by rw [List.length_append, List.length_append, List.length_replicate, hrel.len, List.length_singleton]; omega
  obtain ⟨d1, d2⟩ := hrel.done q
  rw [hkk] at d2
  refine Ev.step (g := fun f => (spec_l02Make.f f s (List.replicate q 0 ++ ds ++ [carry])).bind fun bt268 => (some (bt268.1, bt268.2))) (fun f => by simp only [spec_l02Left.l0]; rw [if_neg (Int.lt_irrefl _), if_pos hlen]) ?_
  have hv : wv s l * 2 ^ k = s * lv (List.replicate q 0 ++ ds ++ [carry]) := by rw [h.val, d2, Int.mul_assoc]
  rw [hv]
  exact Ev.bind (f := fun _ bt => some (bt.1, bt.2)) (l02Make_any hs (fun e => by have := h.szero.1 e; rw [d2, this]; simp [lv]) d1 hlen2) (Ev.now _)
 | succ d ih =>
  intro i carry ds h0 hd hrel
  have hi : i < l.length := by omega
  have hlen : (List.replicate q (0 : Int) ++ ds).length < 17592186044416 := by rw [List.length_append, List.length_replicate, hrel.len]; omega
  have hw := succ_i (show i ≤ 10000000 from by omega)
  have hd2 : l.length - (i + 1) = d := by omega
  have hi1 : i + 1 ≤ l.length := hi
  have hx := okl_getD h.ok i
  have hn := left_num hr hrel.c hx
  have := ih (i + 1) _ _ hi1 hd2 (hrel.step h.ok hr hi rfl)
  rw [← List.append_assoc] at this
  refine Ev.step (fun f => ?_) this
  simp only [spec_l02Left.l0]
  rw [if_pos (Int.ofNat_lt.2 hi), if_pos (Int.natCast_nonneg _), Q2.out, Q4.out, if_pos (Int.natCast_nonneg _), if_pos hlen, rd_cast, hn.1, hn.2, hw]
theorem l02Left {s : Int} {l : List Int} (h : CW s l) (hl : l.length ≤ 1000000) {k : Nat} (hk : k ≤ 100000) : Ev (fun f => spec_l02Left.f f s l (k : Int)) (cn (wv s l * 2 ^ k)) := by
 obtain ⟨q1, q2, q3, q4⟩ := qr (show k ≤ 1000000 from by omega)
 have := l02Left_loop h hl hk l.length 0 0 [] (Nat.zero_le _) rfl (LeftRel.start _ _)
 rw [List.append_nil] at this
 unfold spec_l02Left.f
 simp only [q1, q3, Int.toNat_natCast]
 simp only [if_pos (Int.natCast_nonneg (k / 24)), if_pos (show k / 24 ≤ 35184372088832 from by omega)]
 exact this
end Go.Proofs.YtlkomiiijhphnaaDoor.Pur
namespace Go.Proofs.YtlkomiiijhphnaaDoor.Pur
open Go Go.RowKit Go.Proofs.YtlkomiiijhphnaaDoor Go.Proofs.YtlkomiiijhphnaaDoor.Big Go.Proofs.YtlkomiiijhphnaaDoor.X Go.Proofs.YtlkomiiijhphnaaDoorW.PrintWords Go.Proofs.YtlkomiiijhphnaaDoorW.PrintLast Go.Proofs.YtlkomiiijhphnaaDoor.Math
set_option linter.unusedVariables false
set_option linter.unusedSimpArgs false
structure Code (l : List Int) : Prop where
 len : l.length ≤ 140737488351232
 byte : ∀ x ∈ l, 0 ≤ x ∧ x < 256
theorem mask_range {X : Int} (h0 : 0 ≤ X) (h1 : X < 2 ^ 64) : 0 ≤ bits .and .u64 X 16777215 ∧ bits .and .u64 X 16777215 < 16777216 := by
 have := bits_mask .u64 64 (by decide) (fun n h0 h1 => by simp [IntKind.wrap, IntKind.bits, IntKind.signed]; omega) 24 (by decide) X h0 h1
 rw [show ((2 : Int) ^ 24 - 1) = 16777215 from rfl] at this
 rw [this]
 omega
theorem u64_range (z : Int) : 0 ≤ IntKind.u64.wrap z ∧ IntKind.u64.wrap z < 2 ^ 64 := by
 simp only [IntKind.wrap, IntKind.bits, IntKind.signed]
 simp
 omega
theorem tmod_range {x n : Int} (h0 : 0 ≤ x) (h1 : 1 ≤ n) : 0 ≤ Int.tmod x n ∧ Int.tmod x n < n := by
 rw [Int.tmod_eq_emod_of_nonneg h0]
 exact ⟨Int.emod_nonneg _ (by omega), Int.emod_lt_of_pos _ (by omega)⟩
theorem rd_byte {l : List Int} (hl : ∀ x ∈ l, 0 ≤ x ∧ x < 256) (a : Int) : 0 ≤ rd l a ∧ rd l a < 256 := by
 unfold rd
 rw [List.getD_eq_getElem?_getD]
 cases h : l[a.toNat]? with
 | none => exact ⟨by decide, by decide⟩
 | some x => exact hl x (List.mem_of_getElem? h)
theorem mask_all (X : Int) : 0 ≤ bits .and .u64 (IntKind.u64.wrap X / 8589934592) 16777215 ∧ bits .and .u64 (IntKind.u64.wrap X / 8589934592) 16777215 < 16777216 := by
 have := u64_range X
 refine mask_range ?_ ?_
 ·omega
 ·omega
theorem next_key {l : List Int} (hc : Code l) (a k n : Int) (ha : 0 ≤ a) :
  ∃ r1 r2 r3, spec_l01Next.f l a k n = some (r1, r2, r3) ∧ 0 ≤ r2 ∧ (1 ≤ n → 0 ≤ r1 ∧ r1 < n) := by
 have hl := hc.len
 unfold spec_l01Next.f
 by_cases h1 : n < 1
 ·rw [if_pos h1]
  exact ⟨_, _, _, rfl, ha, fun h => by omega⟩
 ·rw [if_neg h1]
  have hX := mask_all (IntKind.u64.wrap (k * 6364136223846793005) + 1442695040888963407)
  generalize bits .and .u64 (IntKind.u64.wrap (IntKind.u64.wrap (k * 6364136223846793005) + 1442695040888963407) / 8589934592) 16777215 = X at hX
  have hr := rd_byte hc.byte a
  have e1 : wrap64 X = X := w64s (by omega) (by omega)
  by_cases h2 : a < (l.length : Int)
  ·rw [if_pos h2, if_pos ha, if_neg (by omega)]
   have e2 : wrap64 (rd l a) = rd l a := w64s (by omega) (by omega)
   have e3 : wrap64 (X + rd l a) = X + rd l a := w64s (by omega) (by omega)
   rw [e1, e2, e3]
   refine ⟨_, _, _, rfl, ?_, fun h => tmod_range (by omega) h⟩
   rw [w64s (by omega) (by omega)]
   omega
  ·rw [if_neg h2, if_neg (by omega), e1]
   exact ⟨_, _, _, rfl, ha, fun h => tmod_range (by omega) h⟩
theorem rd_mem {l : List Int} {a : Int} (h0 : 0 ≤ a) (h1 : a < (l.length : Int)) : rd l a ∈ l := by
 unfold rd
 rw [List.getD_eq_getElem?_getD, List.getElem?_eq_getElem (by omega)]
 exact List.getElem_mem _
theorem pick_key {l : List Int} (hc : Code l) (a k : Int) (ha : 0 ≤ a) (xs : List Int) (h0 : 0 < xs.length) :
  ∃ r1 r2 r3, spec_l01Pick.f l a k xs = some (r1, r2, r3) ∧ 0 ≤ r2 ∧ r1 ∈ xs := by
 obtain ⟨r1, r2, r3, hf, h2, h3⟩ := next_key hc a k (xs.length : Int) ha
 obtain ⟨p0, p1⟩ := h3 (by omega)
 refine ⟨rd xs r1, r2, r3, ?_, h2, rd_mem p0 p1⟩
 unfold spec_l01Pick.f
 rw [hf, Option.bind_some, if_pos p0, if_pos p1]
theorem from_loop {l : List Int} (hc : Code l) (d : Nat) : ∀ (i : Nat) (h : Int), i ≤ l.length → l.length - i = d → ∃ h', Ev (fun k => spec_l01From.l0 k l (i : Int) l 0 h) (l, 0, h') := by
 have hl := hc.len
 induction d with
 | zero =>
  intro i h h0 h1
  refine ⟨h, Ev.step (g := fun _ => some (l, 0, h)) (fun k => ?_) (Ev.now _)⟩
  simp only [spec_l01From.l0]
  rw [if_neg (by omega)]
 | succ d ih =>
  intro i h h0 h1
  by_cases h2 : (i : Int) < 4096
  ·obtain ⟨h', e⟩ := ih (i + 1) (IntKind.u64.wrap ((IntKind.u64.wrap ((IntKind.u64.wrap (h * 1099511628211)) + (IntKind.u64.wrap (rd l i)))) + 11)) (by omega) (by omega)
   refine ⟨h', Ev.step (fun k => ?_) e⟩
   simp only [spec_l01From.l0]
   rw [if_pos (by omega), if_pos h2, if_pos (by omega), w64s (by omega) (by omega), show (i : Int) + 1 = ((i + 1 : Nat) : Int) from by omega]
  ·refine ⟨h, Ev.step (g := fun _ => some (l, 0, h)) (fun k => ?_) (Ev.now _)⟩
   simp only [spec_l01From.l0]
   rw [if_pos (by omega), if_neg h2]
theorem from_key {l : List Int} (hc : Code l) : ∃ h, Ev (fun k => spec_l01From.f k l) (l, 0, h) := by
 unfold spec_l01From.f
 exact from_loop hc l.length 0 _ (Nat.zero_le _) rfl
theorem cn_len {s : Int} (hs : s = 1 ∨ s = -1) {ds : List Int} (o : Okl ds) : (cn (s * lv ds)).2.length ≤ ds.length := by
 refine limbs_length_le ?_
 have h1 := lv_lt o
 have h0 := lv_nonneg o
 have h3 := lpow_cast ds.length
 have e : (s * lv ds).natAbs = (lv ds).natAbs := by
  rcases hs with rfl | rfl
  ·rw [Int.one_mul]
  ·rw [Int.neg_mul, Int.one_mul, Int.natAbs_neg]
 rw [e]
 generalize (16777216 : Nat) ^ ds.length = p at h3 ⊢
 generalize (16777216 : Int) ^ ds.length = q at h1 h3
 omega
theorem okl_snoc {ds : List Int} (o : Okl ds) {x : Int} (h : 0 ≤ x ∧ x < 16777216) : Okl (ds ++ [x]) := by
 intro y hy
 rcases List.mem_append.1 hy with hy | hy
 ·exact o y hy
 ·rw [List.mem_singleton] at hy
  rw [hy]
  exact h
theorem draw_loop {l : List Int} (hc : Code l) (n : Nat) : ∀ (ds : List Int) (a h : Int), 0 ≤ a → Okl ds → ds.length + n ≤ 100000 →
  ∃ z a' h', Ev (fun k => spec_l02Draw.l0 k ds (n : Int) l a h) ((cn z).1, (cn z).2, a', h') ∧ 0 ≤ a' ∧ (cn z).2.length ≤ ds.length + n := by
 induction n with
 | zero =>
  intro ds a h ha o hd
  obtain ⟨s, a1, h1, e1, p1, q1⟩ := pick_key hc a h ha [1, -1] (by decide)
  have hs : s = 1 ∨ s = -1 := by simpa using q1
  refine ⟨s * lv ds, a1, h1, Ev.step (fun k => ?_) (Ev.bind (f := fun _ bt => some (bt.1, bt.2, a1, h1)) (l02Make hs o (by omega)) (Ev.now _)), p1, cn_len hs o⟩
  simp only [spec_l02Draw.l0]
  rw [if_neg (by omega), e1, Option.bind_some]
 | succ n ih =>
  intro ds a h ha o hd
  obtain ⟨x1, a1, h1, e1, p1, q1⟩ := next_key hc a h 16777216 ha
  obtain ⟨x2, a2, h2, e2, p2, q2⟩ := next_key hc a1 h1 16777216 p1
  obtain ⟨x3, a3, h3, e3, p3, q3⟩ := next_key hc a2 h2 1000 p2
  have q1 := q1 (by omega)
  have q2 := q2 (by omega)
  have q3 := q3 (by omega)
  obtain ⟨x, a4, h4, e4, p4, q4⟩ := pick_key hc a3 h3 p3 [0, 1, 16777215, 8388608, x1, x2, x3] (by simp)
  have hx : 0 ≤ x ∧ x < 16777216 := by
   simp only [List.mem_cons, List.not_mem_nil, or_false] at q4
   omega
  obtain ⟨z, a5, h5, e5, p5, q5⟩ := ih (ds ++ [x]) a4 h4 p4 (okl_snoc o hx) (by rw [List.length_append, List.length_singleton]; omega)
  rw [List.length_append, List.length_singleton] at q5
  refine ⟨z, a5, h5, Ev.step (fun k => ?_) e5, p5, by omega⟩
  simp only [spec_l02Draw.l0]
  rw [if_pos (by omega), e1, Option.bind_some, e2, Option.bind_some, e3, Option.bind_some, e4, Option.bind_some, if_pos (by omega), w64s (by omega) (by omega), show ((n + 1 : Nat) : Int) - 1 = (n : Int) from by omega]
theorem draw_key {l : List Int} (hc : Code l) (a h most : Int) (ha : 0 ≤ a) (h0 : 0 ≤ most) (h1 : most ≤ 10000) :
  ∃ z a' h', Ev (fun k => spec_l02Draw.f k l a h most) ((cn z).1, (cn z).2, a', h') ∧ 0 ≤ a' ∧ ((cn z).2.length : Int) ≤ most := by
 obtain ⟨x, a1, h1_, e1, p1, q1⟩ := next_key hc a h (most + 1) ha
 have q1 := q1 (by omega)
 obtain ⟨n, rfl⟩ : ∃ n : Nat, x = n := ⟨x.toNat, by omega⟩
 obtain ⟨z, a2, h2, e2, p2, q2⟩ := draw_loop hc n [] a1 h1_ p1 Okl.nil (by simp only [List.length_nil]; omega)
 refine ⟨z, a2, h2, ?_, p2, by simp only [List.length_nil] at q2; omega⟩
 unfold spec_l02Draw.f
 rw [w64s (by omega) (by omega), e1]
 simp only [Option.bind_some]
 exact e2
theorem len_pow {x : Int} {j : Nat} (hx : x.natAbs ≤ 3) (hj : j ≤ 4800) : (cn (x * 2 ^ j)).2.length ≤ 300 := by
 refine (limbs_len_iff _ _).2 (blen_le.2 ?_)
 obtain ⟨E, hE⟩ : ∃ E, E = 24 * 300 := ⟨_, rfl⟩
 rw [← hE]
 have h1 : 2 ^ (j + 2) ≤ 2 ^ E := Nat.pow_le_pow_right (by omega) (by omega)
 have h2 : 2 ^ (j + 2) = 2 ^ j * 4 := by rw [Nat.pow_add]
 have h3 : 0 < 2 ^ j := Nat.pow_pos (by omega)
 have h4 : (x * 2 ^ j).natAbs = x.natAbs * 2 ^ j := by
  rw [Int.natAbs_mul, Int.natAbs_pow]
  rfl
 rw [h4]
 have h5 : x.natAbs * 2 ^ j ≤ 3 * 2 ^ j := Nat.mul_le_mul_right _ hx
 generalize 2 ^ E = p at h1 ⊢
 generalize 2 ^ (j + 2) = r at h1 h2
 generalize x.natAbs * 2 ^ j = t at h5 ⊢
 generalize 2 ^ j = u at h2 h3 h5
 omega
theorem make_loop {s : Int} {l : List Int} (hl : l.length ≤ 1000000) (n : Nat) : n ≤ l.length → ∃ s' l', Ev (fun k => spec_l02Make.l0 k s l (n : Int)) (s', l') ∧ l'.length ≤ l.length := by
 induction n with
 | zero =>
  intro h
  refine ⟨0, [], Ev.step (g := fun _ => some (0, [])) (fun k => ?_) (Ev.now _), Nat.zero_le _⟩
  simp only [spec_l02Make.l0]
  rw [if_neg (by omega), if_pos (by omega)]
 | succ n ih =>
  intro h
  have e1 : wrap64 (((n + 1 : Nat) : Int) - 1) = (n : Int) := by rw [w64s (by omega) (by omega)]; omega
  by_cases hz : rd l (n : Int) = 0
  ·obtain ⟨s', l', h1, h2⟩ := ih (by omega)
   refine ⟨s', l', Ev.step (fun k => ?_) h1, h2⟩
   simp only [spec_l02Make.l0]
   rw [if_pos (by omega), e1, if_pos (by omega), if_pos (by omega), if_pos hz]
  ·refine ⟨s, l.take (n + 1), Ev.step (g := fun _ => some (s, l.take (n + 1))) (fun k => ?_) (Ev.now _), by rw [List.length_take]; omega⟩
   simp only [spec_l02Make.l0]
   rw [if_pos (by omega), e1, if_pos (by omega), if_pos (by omega), if_neg hz, if_neg (by omega), if_pos (by omega), if_pos (by omega), Int.toNat_natCast, l01Own _ (by rw [List.length_take]; omega), Option.bind_some]
theorem make_key (s : Int) {l : List Int} (hl : l.length ≤ 1000000) : ∃ s' l', Ev (fun k => spec_l02Make.f k s l) (s', l') ∧ l'.length ≤ l.length := by
 unfold spec_l02Make.f
 exact make_loop hl l.length (Nat.le_refl _)
theorem small_three {s : Int} (h : s ∈ ([1, -1, 3] : List Int)) : s.natAbs ≤ 3 := by
 simp only [List.mem_cons, List.not_mem_nil, or_false] at h
 rcases h with rfl | rfl | rfl <;> decide
theorem small_shift {t : Int} (h : t ∈ ([4799, 4798, 4800, 2400] : List Int)) : ∃ j : Nat, t = j ∧ j ≤ 4800 := by
 simp only [List.mem_cons, List.not_mem_nil, or_false] at h
 exact ⟨t.toNat, by omega, by omega⟩
theorem small_len {s : Int} (h : s.natAbs ≤ 3) : (cn s).2.length ≤ 1000000 :=
 Nat.le_trans (limbs_length_le (k := 1) (show s.natAbs < 16777216 ^ 1 from by omega)) (by omega)
theorem small_left {s : Int} (h : s.natAbs ≤ 3) {j : Nat} (hj : j ≤ 4800) : Ev (fun f => spec_l02Left.f f (cn s).1 (cn s).2 (j : Int)) (cn (s * 2 ^ j)) := by
 have hL := l02Left (cw_cn s) (small_len h) (k := j) (by omega)
 rw [wv_cn] at hL
 exact hL
theorem obind {α β : Type} {o : Option α} {a : α} (h : o = some a) (f : α → Option β) : o.bind f = f a := by
 rw [h]
 rfl
theorem spoil3 {l : List Int} (hc : Code l) (a h : Int) (ha : 0 ≤ a) : ∃ s m a' h', Ev (fun k => (spec_l01Pick.f l a h (([1, (-1), 3] : List Int))).bind fun bt227 => ((spec_l02Of.f k bt227.1).bind fun bt230 => ((spec_l01Pick.f l bt227.2.1 bt227.2.2 (([4799, 4798, 4800, 2400] : List Int))).bind fun bt237 => ((spec_l02Left.f k bt230.1 bt230.2 bt237.1).bind fun bt240 => (some (bt240.1, bt240.2, bt237.2.1, bt237.2.2)))))) (s, m, a', h') ∧ 0 ≤ a' ∧ m.length ≤ 300 := by
 obtain ⟨s, a4, h4, e4, p4, q4⟩ := pick_key hc a h ha [1, -1, 3] (by decide)
 obtain ⟨t, a5, h5, e5, p5, q5⟩ := pick_key hc a4 h4 p4 [4799, 4798, 4800, 2400] (by decide)
 have hs := small_three q4
 obtain ⟨j, rfl, hj⟩ := small_shift q5
 clear q4 q5
 have hL := small_left hs hj
 have hN := len_pow hs hj
 generalize cn (s * 2 ^ j) = C at hL hN
 obtain ⟨c1, c2⟩ := C
 have hO := l02Of (x := s) (by omega) (by omega)
 generalize cn s = D at hO hL
 refine ⟨c1, c2, a5, h5, ?_, p5, hN⟩
 refine Ev.as (fun k => obind e4 _) ?_
 refine Ev.bind hO ?_
 refine Ev.as (fun k => obind e5 _) ?_
 exact Ev.bind (f := fun _ bt => some (bt.1, bt.2, a5, h5)) hL (Ev.now _)
theorem spoil_key {l : List Int} (hc : Code l) (a h : Int) (ha : 0 ≤ a) :
  ∃ s m a' h', Ev (fun k => spec_l02Spoil.f k l a h) (s, m, a', h') ∧ 0 ≤ a' ∧ m.length ≤ 300 := by
 unfold spec_l02Spoil.f
 obtain ⟨x, a1, h1, e1, p1, q1⟩ := pick_key hc a h ha [1, 2, 4, 8, 8, 20, 200] (by decide)
 have hx : 0 ≤ x ∧ x ≤ 200 := by
  simp only [List.mem_cons, List.not_mem_nil, or_false] at q1
  omega
 obtain ⟨z, a2, h2, e2, p2, q2⟩ := draw_key hc a1 h1 x p1 hx.1 (by omega)
 obtain ⟨y, a3, h3, e3, p3, q3⟩ := next_key hc a2 h2 30 p2
 have hz : (cn z).2.length ≤ 200 := by omega
 simp only [e1, Option.bind_some]
 suffices hs : ∃ s m a' h', Ev (fun k => if y = 0 then ((spec_l01Pick.f l a3 h3 (([0, 2, (-2)] : List Int))).bind fun bt209 => (some (bt209.1, (cn z).2, bt209.2.1, bt209.2.2))) else (if y = 1 then (if (cn z).2.length < 17592186044416 then (some ((cn z).1, ((cn z).2 ++ [0]), a3, h3)) else (none)) else (if y = 2 then ((spec_l01Pick.f l a3 h3 (([16777216, (-1), 1099511627776] : List Int))).bind fun bt218 => (if (cn z).2.length < 17592186044416 then (some ((cn z).1, ((cn z).2 ++ [bt218.1]), bt218.2.1, bt218.2.2)) else (none))) else (if y = 3 then ((spec_l01Pick.f l a3 h3 (([1, (-1), 3] : List Int))).bind fun bt227 => ((spec_l02Of.f k bt227.1).bind fun bt230 => ((spec_l01Pick.f l bt227.2.1 bt227.2.2 (([4799, 4798, 4800, 2400] : List Int))).bind fun bt237 => ((spec_l02Left.f k bt230.1 bt230.2 bt237.1).bind fun bt240 => (some (bt240.1, bt240.2, bt237.2.1, bt237.2.2)))))) else (some ((cn z).1, (cn z).2, a3, h3)))))) (s, m, a', h') ∧ 0 ≤ a' ∧ m.length ≤ 300 by
  obtain ⟨s, m, a', h', e, p, q⟩ := hs
  refine ⟨s, m, a', h', Ev.bind e2 ?_, p, q⟩
  simp only [e3, Option.bind_some]
  exact e
 by_cases y0 : y = 0
 ·obtain ⟨s, a4, h4, e4, p4, q4⟩ := pick_key hc a3 h3 p3 [0, 2, -2] (by decide)
  simp only [if_pos y0, e4, Option.bind_some]
  exact ⟨_, _, _, _, Ev.now _, p4, by omega⟩
 simp only [if_neg y0]
 by_cases y1 : y = 1
 ·simp only [if_pos y1, if_pos (show (cn z).2.length < 17592186044416 from by omega)]
  exact ⟨_, _, _, _, Ev.now _, p3, by rw [List.length_append, List.length_singleton]; omega⟩
 simp only [if_neg y1]
 by_cases y2 : y = 2
 ·obtain ⟨s, a4, h4, e4, p4, q4⟩ := pick_key hc a3 h3 p3 [16777216, -1, 1099511627776] (by decide)
  simp only [if_pos y2, e4, Option.bind_some, if_pos (show (cn z).2.length < 17592186044416 from by omega)]
  exact ⟨_, _, _, _, Ev.now _, p4, by rw [List.length_append, List.length_singleton]; omega⟩
 simp only [if_neg y2]
 by_cases y3 : y = 3
 ·simp only [if_pos y3]
  exact spoil3 hc a3 h3 p3
 simp only [if_neg y3]
 exact ⟨_, _, _, _, Ev.now _, p3, by omega⟩
theorem two_key {l : List Int} (hc : Code l) : ∃ s m t n, Ev (fun k => spec_l02Two.f k l) (s, m, t, n) ∧ m.length ≤ 300 ∧ n.length ≤ 300 := by
 unfold spec_l02Two.f
 obtain ⟨h, e0⟩ := from_key hc
 obtain ⟨s, m, a1, h1, e1, p1, q1⟩ := spoil_key hc 0 h (by omega)
 obtain ⟨t, n, a2, h2, e2, p2, q2⟩ := spoil_key hc a1 h1 p1
 obtain ⟨y, a3, h3, e3, p3, q3⟩ := next_key hc a2 h2 8 p2
 suffices hs : ∃ s' m' t' n', Ev (fun k => (if y = 0 then ((spec_l02Make.f k s m).bind fun bt267 => (some (s, m, bt267.1, bt267.2))) else (if y = 1 then ((spec_l02Draw.f k l a3 h3 1).bind fun bt271 => (some (s, m, bt271.1, bt271.2.1))) else (if y = 2 then (some (s, m, 0, ([] : List Int))) else (some (s, m, t, n)))))) (s', m', t', n') ∧ m'.length ≤ 300 ∧ n'.length ≤ 300 by
  obtain ⟨s', m', t', n', e, p, q⟩ := hs
  refine ⟨s', m', t', n', Ev.bind e0 (Ev.bind e1 (Ev.bind e2 ?_)), p, q⟩
  simp only [e3, Option.bind_some]
  exact e
 by_cases y0 : y = 0
 ·obtain ⟨s', m', e4, q4⟩ := make_key s (l := m) (by omega)
  simp only [if_pos y0]
  exact ⟨s, m, s', m', Ev.bind (f := fun _ bt => some (s, m, bt.1, bt.2)) e4 (Ev.now _), q1, by omega⟩
 simp only [if_neg y0]
 by_cases y1 : y = 1
 ·obtain ⟨z, a4, h4, e4, p4, q4⟩ := draw_key hc a3 h3 1 p3 (by omega) (by omega)
  simp only [if_pos y1]
  exact ⟨s, m, (cn z).1, (cn z).2, Ev.bind (f := fun _ bt => some (s, m, bt.1, bt.2.1)) e4 (Ev.now _), q1, by omega⟩
 simp only [if_neg y1]
 by_cases y2 : y = 2
 ·simp only [if_pos y2]
  exact ⟨_, _, _, _, Ev.now _, q1, by simp⟩
 simp only [if_neg y2]
 exact ⟨_, _, _, _, Ev.now _, q1, q2⟩
end Go.Proofs.YtlkomiiijhphnaaDoor.Pur
