/- The reference's sums, differences and products of whole numbers, as plain mathematics. Conditions: limbs in range, lengths to 10^6. -/
import Derived.Test.YtghhphndbbefjaaDoorPurA
import Derived.Test.YtghhphndbbefjaaDoorMathM
import Derived.Test.YtghhphndbbefjaaDoorBigD
import Derived.Test.YtghhphndbbefjaaDoorG16
import Derived.Test.YtghhphndbbefjaaDoorG19
import Derived.Test.YtghhphndbbefjaaDoorX3
import Derived.Test.YtghhphndbbefjaaDoorBndB
import Derived.Laws.Bits128
/- The reference's bits, trailing zeros and shifts of whole numbers, as plain mathematics. Conditions: limbs in range, lengths to 10^6, shifts to 10^5. -/
namespace Go.Proofs.YtghhphndbbefjaaDoor.Pur
open Go.RowKit Go.Proofs.YtghhphndbbefjaaDoor Go.Proofs.YtghhphndbbefjaaDoor.Big Go.Proofs.YtghhphndbbefjaaDoor.X Go.Proofs.YtghhphndbbefjaaDoorW.PrintWords Go.Proofs.YtghhphndbbefjaaDoorW.PrintLast Go.Proofs.YtghhphndbbefjaaDoor.Math
set_option linter.unusedVariables false
set_option linter.unusedSimpArgs false
theorem cn_zero : cn 0 = (0, []) := by simp [cn, sgn, limbs_zero]
theorem wv_bound {s : Int} {l : List Int} (h : isW s l = true) : (wv s l).natAbs < 16777216 ^ 200 := by
 have hc := isW_cw h
 have h1 := lv_lt hc.ok
 have h0 := lv_nonneg hc.ok
 have h2 := lpow_mono (isW_len h)
 have h3 := lpow_cast 200
 rw [hc.natAbs]
 generalize (16777216 : Nat) ^ 200 = p at h3 ⊢
 generalize (16777216 : Int) ^ 200 = q at h2 h3
 generalize (16777216 : Int) ^ l.length = r at h1 h2
 generalize lv l = v at h0 h1 ⊢
 omega
theorem l02Make_cw {s : Int} {l : List Int} (h : CW s l) (hl : l.length ≤ 1000000000) : Ev (fun k => spec_l02Make.f k s l) (cn (wv s l)) := by
 by_cases e : l = []
 ·have hs := h.z e
  subst e hs
  refine ⟨1, fun k hk => ?_⟩
  obtain ⟨k, rfl⟩ : ∃ m, k = m + 1 := ⟨k - 1, by omega⟩
  show spec_l02Make.f (k + 1) 0 [] = _
  unfold spec_l02Make.f
  simp only [spec_l02Make.l0, List.length_nil]
  rw [if_neg (by omega), if_pos (by omega), wv_zero, cn_zero]
 ·rw [h.val]
  exact l02Make (h.nz e) h.ok hl
theorem lv_zero_getD {l : List Int} (ol : Okl l) (h : lv l = 0) : ∀ n, l.getD n 0 = 0 := by
 induction l with
 | nil => intro n; simp
 | cons x xs ih =>
  have h1 := ol.head
  have h2 := lv_nonneg ol.tail
  simp only [lv] at h
  intro n
  cases n with
  | zero => simp only [List.getD_cons_zero]; omega
  | succ n => rw [List.getD_cons_succ]; exact ih ol.tail (by omega) n
theorem l02Make_zero_loop {s : Int} {l : List Int} (hz : ∀ n, l.getD n 0 = 0) (hl : l.length ≤ 1000000000) (n : Nat) : ∀ k, n ≤ l.length → n < k → spec_l02Make.l0 k s l (n : Int) = some (0, []) := by
 induction n with
 | zero =>
  intro k h0 hk
  obtain ⟨k, rfl⟩ : ∃ m, k = m + 1 := ⟨k - 1, by omega⟩
  simp only [spec_l02Make.l0]
  rw [if_neg (by omega), if_pos (by omega)]
 | succ n ih =>
  intro k h0 hk
  obtain ⟨k, rfl⟩ : ∃ m, k = m + 1 := ⟨k - 1, by omega⟩
  simp only [spec_l02Make.l0]
  rw [if_pos (by omega), w64s (by omega) (by omega), show ((n + 1 : Nat) : Int) - 1 = (n : Int) from by omega, if_pos (by omega), if_pos (by omega), rd_cast, if_pos (hz n)]
  exact ih k (by omega) (by omega)
theorem l02Make_zero {s : Int} {l : List Int} (ol : Okl l) (h : lv l = 0) (hl : l.length ≤ 1000000000) : Ev (fun k => spec_l02Make.f k s l) (cn 0) := by
 rw [cn_zero]
 refine ⟨l.length + 1, fun k hk => ?_⟩
 show spec_l02Make.f k s l = _
 unfold spec_l02Make.f
 exact l02Make_zero_loop (lv_zero_getD ol h) hl l.length k (Nat.le_refl _) (by omega)
theorem tdm {t : Int} (h : 0 ≤ t) : Int.tmod t 16777216 = t % 16777216 ∧ Int.tdiv t 16777216 = t / 16777216 := ⟨Int.tmod_eq_emod_of_nonneg h, Int.tdiv_eq_ediv_of_nonneg h⟩
theorem getD_out {l : List Int} {k : Nat} (h : l.length ≤ k) : l.getD k 0 = 0 := by
 rw [List.getD_eq_getElem?_getD, List.getElem?_eq_none h]
 rfl
set_option maxHeartbeats 1000000 in
theorem l02Plus_loop {a b : List Int} (oa : Okl a) (ob : Okl b) {M : Nat} (ha : a.length ≤ M) (hb : b.length ≤ M) (hM : M ≤ 1000000) (d : Nat) : ∀ (k : Nat) (carry : Int) (ds : List Int), k ≤ M + 1 → M + 1 - k = d → (k = M + 1 → carry = 0) → PlusRel a b k carry ds →
  ∃ r, Ev (fun f => spec_l02Plus.l0 f a b ds carry (k : Int)) r ∧ Okl r ∧ lv r = lv a + lv b ∧ r.length ≤ M + 1 := by
 induction d with
 | zero =>
  intro k carry ds h0 hd hc hr
  obtain rfl : k = M + 1 := by omega
  have := hc rfl
  subst this
  refine ⟨ds, ?_, hr.ok, hr.done (by omega) (by omega), by rw [hr.len]; omega⟩
  refine Ev.step (g := fun f => spec_l02Plus.j1 f a b ds 0 ((M + 1 : Nat) : Int) false) (fun f => by simp only [spec_l02Plus.l0]; rw [if_neg (by omega), if_neg (by omega), decide_eq_false (show ¬ (0 : Int) > 0 from by omega)]) ?_
  exact Ev.step (g := fun _ => some ds) (fun f => by simp [spec_l02Plus.j1]) (Ev.now _)
 | succ d ih =>
  intro k carry ds h0 hd hc hr
  have hx := okl_getD oa k
  have hy := okl_getD ob k
  have hcb := hr.c
  obtain ⟨t, ht⟩ : ∃ t, t = carry + a.getD k 0 + b.getD k 0 := ⟨_, rfl⟩
  have hstep := hr.step oa ob ht
  have hdl : ds.length < 17592186044416 := by rw [hr.len]; omega
  by_cases hrun : k < a.length ∨ k < b.length ∨ 0 < carry
  ·obtain ⟨r, h1, h2⟩ := ih (k + 1) (t / 16777216) (ds ++ [t % 16777216]) (by omega) (by omega) (fun e => by
    rw [getD_out (show a.length ≤ k from by omega), getD_out (show b.length ≤ k from by omega)] at ht
    omega) hstep
   have HC := Aside0.mk (show ¬ k < a.length → ¬ k < b.length → carry > 0 from by omega)
   refine ⟨r, ?_, h2⟩
   have hw : wrap64 ((k : Int) + 1) = ((k + 1 : Nat) : Int) := by rw [w64s (by omega) (by omega)]; omega
   have ha1 : wrap64 (carry + a.getD k 0) = carry + a.getD k 0 := w64s (by omega) (by omega)
   have hb1 : wrap64 (carry + b.getD k 0) = carry + b.getD k 0 := w64s (by omega) (by omega)
   have hab : wrap64 (carry + a.getD k 0 + b.getD k 0) = carry + a.getD k 0 + b.getD k 0 := w64s (by omega) (by omega)
   have htw : wrap64 (t / 16777216) = t / 16777216 := w64s (by omega) (by omega)
   have ht0 : 0 ≤ t := by omega
   have hq := tdm ht0
   have hk0 : (0 : Int) ≤ (k : Int) := Int.natCast_nonneg k
   have L : ∀ {n : Nat}, k < n → (k : Int) < (n : Int) := fun h => Int.ofNat_lt.2 h
   have G : ∀ {n : Nat}, ¬ k < n → ¬ (k : Int) < (n : Int) := fun h g => h (Int.ofNat_lt.1 g)
   refine Ev.step (g := fun f => spec_l02Plus.j1 f a b ds carry (k : Int) true) (fun f => ?_) (Ev.step (fun f => ?_) h1)
   ·simp only [spec_l02Plus.l0]
    by_cases e1 : k < a.length
    ·rw [if_pos (L e1)]
    ·rw [if_neg (G e1)]
     by_cases e2 : k < b.length
     ·rw [if_pos (L e2)]
     ·rw [if_neg (G e2), decide_eq_true (HC.out e1 e2)]
   ·simp only [spec_l02Plus.j1, if_true]
    by_cases e1 : k < a.length
    ·rw [if_pos (L e1), if_pos hk0]
     by_cases e2 : k < b.length
     ·rw [if_pos (L e2), if_pos hdl, rd_cast, rd_cast, ha1, hab, ← ht, hq.1, hq.2, htw, hw]
     ·rw [getD_out (Nat.le_of_not_lt e2), Int.add_zero] at ht
      rw [if_neg (G e2), if_pos hdl, rd_cast, ha1, ← ht, hq.1, hq.2, htw, hw]
    ·rw [if_neg (G e1)]
     rw [getD_out (Nat.le_of_not_lt e1), Int.add_zero] at ht
     by_cases e2 : k < b.length
     ·rw [if_pos (L e2), if_pos hk0, if_pos hdl, rd_cast, hb1, ← ht, hq.1, hq.2, htw, hw]
     ·rw [getD_out (Nat.le_of_not_lt e2), Int.add_zero] at ht
      rw [if_neg (G e2), if_pos hdl, ← ht, hq.1, hq.2, htw, hw]
  ·have : carry = 0 := by omega
   subst this
   refine ⟨ds, ?_, hr.ok, hr.done (by omega) (by omega), by rw [hr.len]; omega⟩
   refine Ev.step (g := fun f => spec_l02Plus.j1 f a b ds 0 (k : Int) false) (fun f => by simp only [spec_l02Plus.l0]; rw [if_neg (by omega), if_neg (by omega), decide_eq_false (show ¬ (0 : Int) > 0 from by omega)]) ?_
   exact Ev.step (g := fun _ => some ds) (fun f => by simp [spec_l02Plus.j1]) (Ev.now _)
theorem l02Plus {a b : List Int} (oa : Okl a) (ob : Okl b) (ha : a.length ≤ 1000000) (hb : b.length ≤ 1000000) :
  ∃ r, Ev (fun f => spec_l02Plus.f f a b) r ∧ Okl r ∧ lv r = lv a + lv b ∧ r.length ≤ max a.length b.length + 1 := by
 unfold spec_l02Plus.f
 exact l02Plus_loop oa ob (M := max a.length b.length) (by omega) (by omega) (by omega) _ 0 0 [] (by omega) rfl (by omega) (PlusRel.start a b)
set_option maxHeartbeats 1000000 in
theorem l02Minus_loop {a b : List Int} (oa : Okl a) (ob : Okl b) (ha : a.length ≤ 1000000) (hl : b.length ≤ a.length) (hv : lv b ≤ lv a) (d : Nat) : ∀ (k : Nat) (borrow : Int) (ds : List Int), k ≤ a.length → a.length - k = d → MinusRel a b k borrow ds →
  ∃ r, Ev (fun f => spec_l02Minus.l0 f a b ds borrow (k : Int)) r ∧ Okl r ∧ lv r = lv a - lv b ∧ r.length = a.length := by
 induction d with
 | zero =>
  intro k borrow ds h0 hd hr
  obtain rfl : k = a.length := by omega
  refine ⟨ds, ?_, hr.ok, hr.done hl hv, hr.len⟩
  exact Ev.step (g := fun _ => some ds) (fun f => by simp only [spec_l02Minus.l0]; rw [if_neg (by omega)]) (Ev.now _)
 | succ d ih =>
  intro k borrow ds h0 hd hr
  clear hv
  have hx := okl_getD oa k
  have hy := okl_getD ob k
  have hcb := hr.c
  have hdl : ds.length < 17592186044416 := by rw [hr.len]; omega
  have hw : wrap64 ((k : Int) + 1) = ((k + 1 : Nat) : Int) := by rw [w64s (by omega) (by omega)]; omega
  have hk0 : (0 : Int) ≤ (k : Int) := Int.natCast_nonneg k
  have L : ∀ {n : Nat}, k < n → (k : Int) < (n : Int) := fun h => Int.ofNat_lt.2 h
  have G : ∀ {n : Nat}, ¬ k < n → ¬ (k : Int) < (n : Int) := fun h g => h (Int.ofNat_lt.1 g)
  have hka : k < a.length := by omega
  have ha1 : wrap64 (a.getD k 0 - borrow) = a.getD k 0 - borrow := w64s (by omega) (by omega)
  have hab : wrap64 (a.getD k 0 - borrow - b.getD k 0) = a.getD k 0 - borrow - b.getD k 0 := w64s (by omega) (by omega)
  obtain ⟨t, ht⟩ : ∃ t, t = a.getD k 0 - borrow - b.getD k 0 := ⟨_, rfl⟩
  have htw : wrap64 (t + 16777216) = t + 16777216 := w64s (by omega) (by omega)
  by_cases hneg : t < 0
  ·obtain ⟨r, h1, h2⟩ := ih (k + 1) 1 (ds ++ [t + 16777216]) (by omega) (by omega) (hr.step (b := 1) (by omega) (by omega) (by omega))
   refine ⟨r, Ev.step (fun f => ?_) h1, h2⟩
   simp only [spec_l02Minus.l0]
   rw [if_pos (L hka), if_pos hk0]
   by_cases e2 : k < b.length
   ·rw [if_pos (L e2), rd_cast, rd_cast, ha1, hab, ← ht, if_pos hneg, if_pos hdl, htw, hw]
   ·rw [getD_out (Nat.le_of_not_lt e2), Int.sub_zero] at ht
    rw [if_neg (G e2), rd_cast, ha1, ← ht, if_pos hneg, if_pos hdl, htw, hw]
  ·obtain ⟨r, h1, h2⟩ := ih (k + 1) 0 (ds ++ [t]) (by omega) (by omega) (hr.step (b := 0) (by omega) (by omega) (by omega))
   refine ⟨r, Ev.step (fun f => ?_) h1, h2⟩
   simp only [spec_l02Minus.l0]
   rw [if_pos (L hka), if_pos hk0]
   by_cases e2 : k < b.length
   ·rw [if_pos (L e2), rd_cast, rd_cast, ha1, hab, ← ht, if_neg hneg, if_pos hdl, hw]
   ·rw [getD_out (Nat.le_of_not_lt e2), Int.sub_zero] at ht
    rw [if_neg (G e2), rd_cast, ha1, ← ht, if_neg hneg, if_pos hdl, hw]
theorem l02Minus {a b : List Int} (oa : Okl a) (ob : Okl b) (ha : a.length ≤ 1000000) (hl : b.length ≤ a.length) (hv : lv b ≤ lv a) :
  ∃ r, Ev (fun f => spec_l02Minus.f f a b) r ∧ Okl r ∧ lv r = lv a - lv b ∧ r.length = a.length := by
 unfold spec_l02Minus.f
 exact l02Minus_loop oa ob ha hl hv _ 0 0 [] (by omega) rfl (MinusRel.start a b)
theorem len_of_le {a b : List Int} (oa : Okl a) (ob : Okl b) (ta : Tight a) (tb : Tight b) (h : lv a ≤ lv b) : a.length ≤ b.length := by
 rcases Nat.lt_or_ge b.length a.length with g | g
 ·have := lv_lt_of_length ob oa ta g
  omega
 ·exact g
theorem l02Add {s t : Int} {l m : List Int} (h : CW s l) (g : CW t m) (hl : l.length ≤ 1000000) (hm : m.length ≤ 1000000) : Ev (fun k => spec_l02Add.f k s l t m) (cn (wv s l + wv t m)) := by
 have hs := h.sign
 have ht := g.sign
 unfold spec_l02Add.f
 by_cases e1 : s = 0
 ·have := h.szero.1 e1
  subst e1 this
  simp only [if_true]
  rw [wv_zero, Int.zero_add]
  exact Ev.bind (f := fun _ bt => some (bt.1, bt.2)) (l02Make_cw g (by omega)) (Ev.now _)
 ·simp only [if_neg e1]
  by_cases e2 : t = 0
  ·have := g.szero.1 e2
   subst e2 this
   simp only [if_true]
   rw [wv_zero, Int.add_zero]
   exact Ev.bind (f := fun _ bt => some (bt.1, bt.2)) (l02Make_cw h (by omega)) (Ev.now _)
  ·simp only [if_neg e2]
   by_cases e3 : s = t
   ·subst e3
    simp only [if_true]
    obtain ⟨r, h1, h2, h3, h4⟩ := l02Plus h.ok g.ok hl hm
    refine Ev.bind h1 ?_
    rw [h.val, g.val, ← Int.mul_add, ← h3]
    exact Ev.bind (f := fun _ bt => some (bt.1, bt.2)) (l02Make (s := s) (by omega) h2 (by omega)) (Ev.now _)
   ·simp only [if_neg e3]
    refine Ev.bind (l02CompareLimbs h.ok g.ok h.ti g.ti (by omega) (by omega)) ?_
    by_cases e4 : lv m ≤ lv l
    ·have hsg : sgn (lv l - lv m) ≥ 0 := by unfold sgn; rw [if_neg (by omega)]; split <;> omega
     simp only [if_pos hsg]
     obtain ⟨r, h1, h2, h3, h4⟩ := l02Minus h.ok g.ok hl (len_of_le g.ok h.ok g.ti h.ti e4) e4
     refine Ev.bind h1 ?_
     have hv : wv s l + wv t m = s * lv r := by
      rw [h.val, g.val, h3, Int.mul_sub]
      rcases (show t = -s from by omega) with rfl
      rw [Int.neg_mul]
      omega
     rw [hv]
     exact Ev.bind (f := fun _ bt => some (bt.1, bt.2)) (l02Make (s := s) (by omega) h2 (by omega)) (Ev.now _)
    ·have hsg : ¬ sgn (lv l - lv m) ≥ 0 := by unfold sgn; rw [if_pos (by omega)]; omega
     simp only [if_neg hsg]
     obtain ⟨r, h1, h2, h3, h4⟩ := l02Minus g.ok h.ok hm (len_of_le h.ok g.ok h.ti g.ti (by omega)) (by omega)
     refine Ev.bind h1 ?_
     have hv : wv s l + wv t m = t * lv r := by
      rw [h.val, g.val, h3, Int.mul_sub]
      rcases (show s = -t from by omega) with rfl
      rw [Int.neg_mul]
      omega
     rw [hv]
     exact Ev.bind (f := fun _ bt => some (bt.1, bt.2)) (l02Make (s := t) (by omega) h2 (by omega)) (Ev.now _)
theorem cw_neg {s : Int} {l : List Int} (h : CW s l) : CW (-s) l := ⟨h.ok, h.ti, fun e => by rw [h.z e]; rfl, fun e => by have := h.nz e; omega⟩
theorem wv_neg {s : Int} {l : List Int} (h : CW s l) : wv (-s) l = -wv s l := by rw [(cw_neg h).val, h.val, Int.neg_mul]
theorem l02Neg {s : Int} {l : List Int} (h : CW s l) (hl : l.length ≤ 1000000) : Ev (fun k => spec_l02Neg.f k s l) (cn (-wv s l)) := by
 have hs := h.sign
 unfold spec_l02Neg.f
 rw [← wv_neg h, w64s (by omega) (by omega)]
 exact Ev.bind (f := fun _ bt => some (bt.1, bt.2)) (l02Make_cw (cw_neg h) (by omega)) (Ev.now _)
theorem l02Mul_inner {l m : List Int} (ol : Okl l) (om : Okl m) (hl : l.length ≤ 1000000) (hm : m.length ≤ 1000000) (s t : Int) {k : Nat} (hk : k < l.length) (d : Nat) : ∀ (i : Nat) (carry : Int) (os : List Int), i ≤ m.length → m.length - i = d → 0 ≤ carry → carry < 16777216 → LMulIn l m k i carry os →
  ∃ os', LMulRel l m (k + 1) os' ∧ ∀ r, Ev (fun f => spec_l02Mul.l0 f os' ((k + 1 : Nat) : Int) s l t m) r → Ev (fun f => spec_l02Mul.l1 f os (k : Int) carry (i : Int) s l t m) r := by
 induction d with
 | zero =>
  intro i carry os h0 hd c0 c1 hr
  obtain rfl : i = m.length := by omega
  refine ⟨_, hr.done hk ⟨c0, c1⟩, fun r h => Ev.step (fun f => ?_) h⟩
  have hlen := hr.len
  have e1 : wrap64 ((k : Int) + (m.length : Int)) = ((k + m.length : Nat) : Int) := by rw [w64s (by omega) (by omega)]; omega
  have e2 : wrap64 ((k : Int) + 1) = ((k + 1 : Nat) : Int) := by rw [w64s (by omega) (by omega)]; omega
  have e3 : ((k + m.length : Nat) : Int) < (os.length : Int) := by omega
  simp only [spec_l02Mul.l1]
  rw [if_neg (Int.lt_irrefl _), e1, if_pos (Int.natCast_nonneg _), if_pos e3, Int.toNat_natCast, e2]
 | succ d ih =>
  intro i carry os h0 hd c0 c1 hr
  have hi : i < m.length := by omega
  have hlen := hr.len
  have e3 : ((k + i : Nat) : Int) < (os.length : Int) := Int.ofNat_lt.2 (by omega)
  have e1 : wrap64 ((k : Int) + (i : Int)) = ((k + i : Nat) : Int) := by rw [w64s (by omega) (by omega)]; omega
  have e2 : wrap64 ((i : Int) + 1) = ((i + 1 : Nat) : Int) := by rw [w64s (by omega) (by omega)]; omega
  have hik : i + 1 ≤ m.length ∧ m.length - (i + 1) = d := by omega
  clear hlen
  have hsm := hr.small ol om hi ⟨c0, c1⟩
  have hp := lmul_bound (okl_getD ol k) (okl_getD om i)
  have ho := okl_getD hr.ok (k + i)
  have hst := hr.step hk hi rfl
  obtain ⟨p, hpe⟩ : ∃ p, p = l.getD k 0 * m.getD i 0 := ⟨_, rfl⟩
  obtain ⟨o, hoe⟩ : ∃ o, o = os.getD (k + i) 0 := ⟨_, rfl⟩
  rw [← hpe, ← hoe] at hsm hst
  rw [← hpe] at hp
  rw [← hoe] at ho
  have hq0 : 0 ≤ (carry + p + o) / 16777216 ∧ (carry + p + o) / 16777216 < 16777216 := by clear ih hst hik e1 e2 e3 hpe hoe; omega
  have e4 : wrap64 (carry + o) = carry + o := w64s (by clear ih hst hik e1 e2 e3 hpe hoe; omega) (by clear ih hst hik e1 e2 e3 hpe hoe; omega)
  have e5 : wrap64 p = p := w64s (by clear ih hst hik e1 e2 e3 hpe hoe; omega) (by clear ih hst hik e1 e2 e3 hpe hoe; omega)
  have e6 : wrap64 (carry + o + p) = carry + p + o := by
   have e : carry + o + p = carry + p + o := by rw [Int.add_assoc, Int.add_comm o, ← Int.add_assoc]
   rw [e]
   exact w64s (Int.le_trans (by omega) hsm.1) (Int.le_trans (Int.le_of_lt hsm.2) (by omega))
  have e8 : wrap64 ((carry + p + o) / 16777216) = (carry + p + o) / 16777216 := w64s (Int.le_trans (by omega) hq0.1) (Int.le_trans (Int.le_of_lt hq0.2) (by omega))
  have e7 := tdm (t := carry + p + o) hsm.1
  obtain ⟨os', h1, h2⟩ := ih (i + 1) ((carry + p + o) / 16777216) (os.set (k + i) ((carry + p + o) % 16777216)) hik.1 hik.2 hq0.1 hq0.2 hst
  refine ⟨os', h1, fun r h => Ev.step (fun f => ?_) (h2 r h)⟩
  simp only [spec_l02Mul.l1]
  rw [if_pos (Int.ofNat_lt.2 hi), e1, if_pos (Int.natCast_nonneg _), if_pos e3, if_pos (Int.natCast_nonneg _), if_pos (Int.ofNat_lt.2 hk), if_pos (Int.natCast_nonneg _), rd_cast, rd_cast, rd_cast, ← hoe, ← hpe, e4, e5, e6, e7.1, e7.2, e8, Int.toNat_natCast, e2]
theorem l02Mul_loop {s t : Int} {l m : List Int} (h : CW s l) (g : CW t m) (hl : l.length ≤ 1000000) (hm : m.length ≤ 1000000) (d : Nat) : ∀ (k : Nat) (os : List Int), k ≤ l.length → l.length - k = d → LMulRel l m k os →
  Ev (fun f => spec_l02Mul.l0 f os (k : Int) s l t m) (cn (wv s l * wv t m)) := by
 induction d with
 | zero =>
  intro k os h0 hd hr
  obtain rfl : k = l.length := by omega
  have hs := h.sign
  have ht := g.sign
  have hlen := hr.len
  have hlo : os.length ≤ 1000000000 := by omega
  have hst : -1 ≤ s * t ∧ s * t ≤ 1 := by
   rcases (show s = -1 ∨ s = 0 ∨ s = 1 from by omega) with rfl | rfl | rfl <;> omega
  refine Ev.step (g := fun f => (spec_l02Make.f f (wrap64 (s * t)) os).bind fun bt159 => (some (bt159.1, bt159.2))) (fun f => by simp only [spec_l02Mul.l0]; rw [if_neg (Int.lt_irrefl _)]) ?_
  have hv : wv s l * wv t m = (s * t) * lv os := by
   rw [h.val, g.val, hr.done]
   simp only [Int.mul_assoc, Int.mul_left_comm t]
  rw [w64s (by omega) (by omega), hv]
  suffices hmk : Ev (fun f => spec_l02Make.f f (s * t) os) (cn ((s * t) * lv os)) from Ev.bind (f := fun _ bt => some (bt.1, bt.2)) hmk (Ev.now _)
  by_cases e1 : s = 0
  ·have := h.szero.1 e1
   subst e1 this
   rw [Int.zero_mul, Int.zero_mul]
   exact l02Make_zero hr.ok (by rw [hr.done]; simp [lv]) hlo
  ·by_cases e2 : t = 0
   ·have := g.szero.1 e2
    subst e2 this
    rw [Int.mul_zero, Int.zero_mul]
    exact l02Make_zero hr.ok (by rw [hr.done]; simp [lv]) hlo
   ·refine l02Make ?_ hr.ok hlo
    rcases (show s = -1 ∨ s = 1 from by omega) with rfl | rfl <;> omega
 | succ d ih =>
  intro k os h0 hd hr
  have hk : k < l.length := by omega
  obtain ⟨os', h1, h2⟩ := l02Mul_inner h.ok g.ok hl hm s t hk m.length 0 0 os (Nat.zero_le _) rfl (Int.le_refl _) (by omega) hr.inner
  have := h2 _ (ih (k + 1) os' (by omega) (by omega) h1)
  refine Ev.step (fun f => ?_) this
  simp only [spec_l02Mul.l0]
  rw [if_pos (Int.ofNat_lt.2 hk)]
  rfl
theorem l02Mul {s t : Int} {l m : List Int} (h : CW s l) (g : CW t m) (hl : l.length ≤ 1000000) (hm : m.length ≤ 1000000) : Ev (fun k => spec_l02Mul.f k s l t m) (cn (wv s l * wv t m)) := by
 unfold spec_l02Mul.f
 have e1 : wrap64 ((l.length : Int) + (m.length : Int)) = ((l.length + m.length : Nat) : Int) := by rw [w64s (by omega) (by omega)]; omega
 have e2 : wrap64 (((l.length + m.length : Nat) : Int) + 1) = ((l.length + m.length + 1 : Nat) : Int) := by rw [w64s (by omega) (by omega)]; omega
 simp only [e1, e2, Int.toNat_natCast]
 simp only [if_pos (show (0 : Int) ≤ ((l.length + m.length + 1 : Nat) : Int) from Int.natCast_nonneg _), if_pos (show l.length + m.length + 1 ≤ 35184372088832 from by omega)]
 exact l02Mul_loop h g hl hm l.length 0 _ (Nat.zero_le _) rfl (LMulRel.start l m)
end Go.Proofs.YtghhphndbbefjaaDoor.Pur
namespace Go.Proofs.YtghhphndbbefjaaDoor.Pur
open Go.RowKit Go.Proofs.YtghhphndbbefjaaDoor Go.Proofs.YtghhphndbbefjaaDoor.Big Go.Proofs.YtghhphndbbefjaaDoor.X Go.Proofs.YtghhphndbbefjaaDoorW.PrintWords Go.Proofs.YtghhphndbbefjaaDoorW.PrintLast Go.Proofs.YtghhphndbbefjaaDoorW.PrintMore Go.Proofs.YtghhphndbbefjaaDoor.Math
set_option linter.unusedVariables false
set_option linter.unusedSimpArgs false
theorem and_one (n : Int) : Go.bits .and .i64 n 1 = n % 2 := by
 have h127 : (BitVec.ofInt 64 1).toNat = 2 ^ 1 - 1 := by decide
 have key : (BitVec.ofInt 64 n &&& BitVec.ofInt 64 1).toNat = (n % ((2 ^ 64 : Nat) : Int)).toNat % 2 ^ 1 := by
  rw [BitVec.toNat_and, BitVec.toNat_ofInt, h127, Nat.and_two_pow_sub_one_eq_mod]
 show IntKind.i64.wrap ((BitVec.ofInt 64 n &&& BitVec.ofInt 64 1).toNat : Nat) = n % 2
 rw [key, IntKind.wrap_i64]
 omega
theorem shr_small (x : Int) {r : Nat} (hr : r < 64) : shr .i64 x (r : Int) = x / 2 ^ r := by
 unfold shr
 rw [Int.toNat_natCast, show min r (IntKind.bits .i64) = r from Nat.min_eq_left (Nat.le_of_lt hr)]
theorem shl_small {x : Int} {r : Nat} (hr : r ≤ 24) (h0 : 0 ≤ x) (h1 : x < 16777216) : shl .i64 x (r : Int) = x * 2 ^ r ∧ 0 ≤ x * 2 ^ r ∧ x * 2 ^ r ≤ 281474976710656 := by
 have hp := two_pow_pos r
 have hq : (2 : Int) ^ r ≤ 16777216 := two_pow_le (s := 24) hr
 have h2 : 0 ≤ x * 2 ^ r := Int.mul_nonneg h0 (Int.le_of_lt hp)
 have h3 : x * 2 ^ r ≤ 16777215 * 16777216 := Int.mul_le_mul (by omega) hq (Int.le_of_lt hp) (by omega)
 unfold shl
 rw [Int.toNat_natCast, show min r (IntKind.bits .i64) = r from Nat.min_eq_left (Nat.le_trans hr (by decide))]
 generalize x * 2 ^ r = p at h2 h3 ⊢
 refine ⟨?_, h2, by omega⟩
 rw [IntKind.wrap_i64]
 omega
theorem left_num {carry x : Int} {r : Nat} (hr : r < 24) (hc : 0 ≤ carry ∧ carry < 16777216) (hx : 0 ≤ x ∧ x < 16777216) :
  wrap64 (Int.tdiv (wrap64 (carry + shl .i64 x (r : Int))) 16777216) = (carry + x * 2 ^ r) / 16777216 ∧ Int.tmod (wrap64 (carry + shl .i64 x (r : Int))) 16777216 = (carry + x * 2 ^ r) % 16777216 := by
 obtain ⟨e1, e2, e3⟩ := shl_small (r := r) (Nat.le_of_lt hr) hx.1 hx.2
 rw [e1]
 clear e1 hx hr
 generalize x * 2 ^ r = p at e2 e3 ⊢
 have f1 : wrap64 (carry + p) = carry + p := w64s (by omega) (by omega)
 have f2 : wrap64 ((carry + p) / 16777216) = (carry + p) / 16777216 := w64s (by omega) (by omega)
 have f0 : 0 ≤ carry + p := by omega
 have f3 := tdm f0
 rw [f1, f3.1, f3.2, f2]
 exact ⟨rfl, rfl⟩
theorem cut_num {a b : Int} {r : Nat} (hr : r < 24) (ha : 0 ≤ a ∧ a < 16777216) (hb : 0 ≤ b ∧ b < 16777216) :
  Int.tmod (wrap64 (shr .i64 a (r : Int) + shl .i64 b ((24 - r : Nat) : Int))) 16777216 = (a / 2 ^ r + b * 2 ^ (24 - r)) % 16777216 := by
 obtain ⟨e1, e2, e3⟩ := shl_small (r := 24 - r) (Nat.sub_le _ _) hb.1 hb.2
 have hs := cut_last hr ha
 rw [e1, shr_small a (by omega)]
 clear e1 ha hb
 generalize b * 2 ^ (24 - r) = p at e2 e3 ⊢
 generalize a / 2 ^ r = o at hs ⊢
 have f1 : wrap64 (o + p) = o + p := w64s (by omega) (by omega)
 have f0 : 0 ≤ o + p := by omega
 rw [f1, (tdm f0).1]
theorem succ_i {i : Nat} (h : i ≤ 10000000) : wrap64 ((i : Int) + 1) = ((i + 1 : Nat) : Int) := by rw [w64s (by omega) (by omega)]; omega
theorem qr {k : Nat} (hk : k ≤ 1000000) : Int.tdiv (k : Int) 24 = ((k / 24 : Nat) : Int) ∧ Int.tmod (k : Int) 24 = ((k % 24 : Nat) : Int) ∧ wrap64 ((k / 24 : Nat) : Int) = ((k / 24 : Nat) : Int) ∧ IntKind.u64.wrap ((k % 24 : Nat) : Int) = ((k % 24 : Nat) : Int) := by
 refine ⟨?_, ?_, w64s (by omega) (by omega), ?_⟩
 ·rw [Int.tdiv_eq_ediv_of_nonneg (by omega)]
  omega
 ·rw [Int.tmod_eq_emod_of_nonneg (by omega)]
  omega
 ·rw [wrapU]
  omega
theorem lpow_two_int (n : Nat) : (16777216 : Int) ^ n = 2 ^ (24 * n) := by
 rw [Int.pow_mul]
 rfl
theorem lv_small {l : List Int} (ol : Okl l) {k : Nat} (h : l.length ≤ k / 24) : lv l / 2 ^ k = 0 := by
 refine Int.ediv_eq_zero_of_lt (lv_nonneg ol) (Int.lt_of_lt_of_le (lv_lt ol) ?_)
 rw [lpow_two_int]
 exact two_pow_le (by omega)
theorem l02Bit (s : Int) {l : List Int} (ol : Okl l) (hl : l.length ≤ 1000000) {k : Nat} (hk : k ≤ 1000000) : spec_l02Bit.f s l (k : Int) = some ((lv l / 2 ^ k) % 2) := by
 obtain ⟨q1, q2, q3, q4⟩ := qr hk
 unfold spec_l02Bit.f
 rw [q1, q2, q3, q4]
 by_cases hq : k / 24 < l.length
 ·have hlt : ((k / 24 : Nat) : Int) < (l.length : Int) := Int.ofNat_lt.2 hq
  rw [if_neg (Int.not_le.2 hlt), if_pos (Int.natCast_nonneg _), if_pos hlt, if_pos (Int.natCast_nonneg _), rd_cast, shr_small _ (by omega), and_one, limb_bit ol (k / 24) (r := k % 24) (by omega) hq, show 24 * (k / 24) + k % 24 = k from by omega]
 ·rw [if_pos (show ((k / 24 : Nat) : Int) ≥ (l.length : Int) from Int.ofNat_le.2 (by omega)), lv_small ol (by omega)]
  rfl
theorem bit_nat {v : Int} (h : 0 ≤ v) (k : Nat) : (v / 2 ^ k) % 2 = ((v.toNat / 2 ^ k % 2 : Nat) : Int) := by
 obtain ⟨m, rfl⟩ := Int.eq_ofNat_of_zero_le h
 rw [Int.toNat_natCast, Int.natCast_emod, Int.natCast_ediv, Int.natCast_pow]
 rfl
theorem l02Twos_loop {s : Int} {l : List Int} (ol : Okl l) (hl : l.length ≤ 1000000) {t : Nat} (ht : IsTz (lv l).toNat t) (ht2 : t ≤ 100000) (d : Nat) : ∀ k, k + d = t → Ev (fun f => spec_l02Twos.l0 f (k : Int) s l) (t : Int) := by
 have h0 := lv_nonneg ol
 induction d with
 | zero =>
  intro k hk
  obtain rfl : k = t := by omega
  have hb := l02Bit s ol hl (k := k) (by omega)
  rw [bit_nat h0, ht.o] at hb
  exact Ev.step (g := fun _ => some (k : Int)) (fun f => by simp only [spec_l02Twos.l0, hb, Option.bind_some]; rw [if_neg (by decide)]) (Ev.now _)
 | succ d ih =>
  intro k hk
  have hb := l02Bit s ol hl (k := k) (by omega)
  have h1 := mod_pow_dvd ht.z (show k + 1 ≤ t from by omega)
  have h2 := mod_pow_dvd ht.z (show k ≤ t from by omega)
  rw [Nat.mod_pow_succ, h2, Nat.zero_add] at h1
  have h3 : (lv l).toNat / 2 ^ k % 2 = 0 := by
   rcases Nat.mul_eq_zero.1 h1 with g | g
   ·have := Nat.two_pow_pos k
    rw [g] at this
    exact absurd this (Nat.lt_irrefl 0)
   ·exact g
  rw [bit_nat h0, h3] at hb
  have hw : wrap64 ((k : Int) + 1) = ((k + 1 : Nat) : Int) := by rw [w64s (by omega) (by omega)]; omega
  exact Ev.step (fun f => by simp only [spec_l02Twos.l0, hb, Option.bind_some]; rw [if_pos (by rfl), hw]) (ih (k + 1) (by omega))
theorem l02Make_any {s : Int} {l : List Int} (hs : -1 ≤ s ∧ s ≤ 1) (hz : s = 0 → lv l = 0) (ol : Okl l) (hl : l.length ≤ 1000000000) : Ev (fun k => spec_l02Make.f k s l) (cn (s * lv l)) := by
 by_cases e : s = 0
 ·have := hz e
  rw [this, Int.mul_zero]
  exact l02Make_zero ol this hl
 ·exact l02Make (by omega) ol hl
theorem l02Left_loop {s : Int} {l : List Int} (h : CW s l) (hl : l.length ≤ 1000000) {k : Nat} (hk : k ≤ 100000) (d : Nat) : ∀ (i : Nat) (carry : Int) (ds : List Int), i ≤ l.length → l.length - i = d → LeftRel l (k % 24) i carry ds →
  Ev (fun f => spec_l02Left.l0 f (k : Int) (List.replicate (k / 24) 0 ++ ds) carry (i : Int) s l) (cn (wv s l * 2 ^ k)) := by
 obtain ⟨q1, q2, q3, q4⟩ := qr (show k ≤ 1000000 from by omega)
 have hr : k % 24 < 24 := by omega
 have hkk : 24 * (k / 24) + k % 24 = k := by omega
 have hq : k / 24 ≤ 100000 := by omega
 have hs := h.sign
 have Q2 := Aside0.mk q2
 have Q4 := Aside0.mk q4
 clear q1 q2 q3 q4
 generalize k % 24 = r at *
 generalize k / 24 = q at *
 induction d with
 | zero =>
  intro i carry ds h0 hd hrel
  obtain rfl : i = l.length := by omega
  have hlen : (List.replicate q (0 : Int) ++ ds).length < 17592186044416 := by rw [List.length_append, List.length_replicate, hrel.len]; omega
  have hlen2 : (List.replicate q (0 : Int) ++ ds ++ [carry]).length ≤ 1000000000 := by rw [List.length_append, List.length_append, List.length_replicate, hrel.len, List.length_singleton]; omega
  obtain ⟨d1, d2⟩ := hrel.done q
  rw [hkk] at d2
  refine Ev.step (g := fun f => (spec_l02Make.f f s (List.replicate q 0 ++ ds ++ [carry])).bind fun bt268 => (some (bt268.1, bt268.2))) (fun f => by simp only [spec_l02Left.l0]; rw [if_neg (Int.lt_irrefl _), if_pos hlen]) ?_
  have hv : wv s l * 2 ^ k = s * lv (List.replicate q 0 ++ ds ++ [carry]) := by rw [h.val, d2, Int.mul_assoc]
  rw [hv]
  exact Ev.bind (f := fun _ bt => some (bt.1, bt.2)) (l02Make_any hs (fun e => by have := h.szero.1 e; rw [d2, this]; simp [lv]) d1 hlen2) (Ev.now _)
 | succ d ih =>
  intro i carry ds h0 hd hrel
  have hi : i < l.length := by omega
  have hlen : (List.replicate q (0 : Int) ++ ds).length < 17592186044416 := by rw [List.length_append, List.length_replicate, hrel.len]; omega
  have hw := succ_i (show i ≤ 10000000 from by omega)
  have hd2 : l.length - (i + 1) = d := by omega
  have hi1 : i + 1 ≤ l.length := hi
  have hx := okl_getD h.ok i
  have hn := left_num hr hrel.c hx
  have := ih (i + 1) _ _ hi1 hd2 (hrel.step h.ok hr hi rfl)
  rw [← List.append_assoc] at this
  refine Ev.step (fun f => ?_) this
  simp only [spec_l02Left.l0]
  rw [if_pos (Int.ofNat_lt.2 hi), if_pos (Int.natCast_nonneg _), Q2.out, Q4.out, if_pos (Int.natCast_nonneg _), if_pos hlen, rd_cast, hn.1, hn.2, hw]
theorem l02Left {s : Int} {l : List Int} (h : CW s l) (hl : l.length ≤ 1000000) {k : Nat} (hk : k ≤ 100000) : Ev (fun f => spec_l02Left.f f s l (k : Int)) (cn (wv s l * 2 ^ k)) := by
 obtain ⟨q1, q2, q3, q4⟩ := qr (show k ≤ 1000000 from by omega)
 have := l02Left_loop h hl hk l.length 0 0 [] (Nat.zero_le _) rfl (LeftRel.start _ _)
 rw [List.append_nil] at this
 unfold spec_l02Left.f
 simp only [q1, q3, Int.toNat_natCast]
 simp only [if_pos (Int.natCast_nonneg (k / 24)), if_pos (show k / 24 ≤ 35184372088832 from by omega)]
 exact this
theorem l02Cut_loop {s : Int} {l : List Int} (h : CW s l) (hl : l.length ≤ 1000000) {k : Nat} (hk : k ≤ 100000) (d : Nat) : ∀ (i : Nat) (ds : List Int), k / 24 ≤ i → i ≤ 10000000 → l.length - i = d → CutRel l (k % 24) (k / 24) i ds →
  Ev (fun f => spec_l02Cut.l0 f (k : Int) ds (i : Int) s l) (cn (s * (lv l / 2 ^ k))) := by
 obtain ⟨q1, q2, q3, q4⟩ := qr (show k ≤ 1000000 from by omega)
 have hr : k % 24 < 24 := by omega
 have hkk : 24 * (k / 24) + k % 24 = k := by omega
 have hq : k / 24 ≤ 100000 := by omega
 have hs := h.sign
 have hlenr : IntKind.u64.wrap (wrap64 (24 - ((k % 24 : Nat) : Int))) = ((24 - k % 24 : Nat) : Int) := by
  rw [w64s (by omega) (by omega), wrapU]
  omega
 have Q2 := Aside0.mk q2
 have Q4 := Aside0.mk q4
 have HLR := Aside0.mk hlenr
 clear q1 q2 q3 q4 hlenr
 generalize k % 24 = r at *
 generalize k / 24 = q at *
 induction d with
 | zero =>
  intro i ds hqi hi0 hd hrel
  have hlen : ds.length ≤ 1000000000 := by rw [hrel.len]; omega
  have hv := hrel.done h.ok (show l.length ≤ i from by omega)
  rw [hkk] at hv
  refine Ev.step (g := fun f => (spec_l02Make.f f s ds).bind fun bt285 => (some (bt285.1, bt285.2))) (fun f => by simp only [spec_l02Cut.l0]; rw [if_neg (Int.not_lt.2 (Int.ofNat_le.2 (by omega)))]) ?_
  rw [← hv]
  exact Ev.bind (f := fun _ bt => some (bt.1, bt.2)) (l02Make_any hs (fun e => by have := h.szero.1 e; rw [hv, this]; simp [lv]) hrel.ok hlen) (Ev.now _)
 | succ d ih =>
  intro i ds hqi hi0 hd hrel
  have hi : i < l.length := by omega
  have hlen : ds.length < 17592186044416 := by rw [hrel.len]; omega
  have hw := succ_i hi0
  have hd2 : l.length - (i + 1) = d := by omega
  have hi1 : i + 1 ≤ 10000000 := by omega
  have hq1 : q ≤ i + 1 := Nat.le_succ_of_le hqi
  have hx := okl_getD h.ok i
  have hy := okl_getD h.ok (i + 1)
  by_cases hi2 : i + 1 < l.length
  ·have hn := cut_num hr hx hy
   have := ih (i + 1) _ hq1 hi1 hd2 (hrel.step h.ok hr hqi hi2)
   refine Ev.step (fun f => ?_) this
   simp only [spec_l02Cut.l0]
   rw [if_pos (Int.ofNat_lt.2 hi), if_pos (Int.natCast_nonneg _), Q2.out, Q4.out, if_pos (Int.natCast_nonneg _), hw, if_pos (Int.ofNat_lt.2 hi2), if_pos (Int.natCast_nonneg _), HLR.out, if_pos (Int.natCast_nonneg _), if_pos hlen, rd_cast, rd_cast, hn]
  ·have hil : i + 1 = l.length := Nat.le_antisymm hi (Nat.le_of_not_lt hi2)
   have hr64 : r < 64 := Nat.lt_trans hr (by decide)
   have := ih (i + 1) _ hq1 hi1 hd2 (hrel.last h.ok hr hqi hil)
   refine Ev.step (fun f => ?_) this
   simp only [spec_l02Cut.l0]
   rw [if_pos (Int.ofNat_lt.2 hi), if_pos (Int.natCast_nonneg _), Q2.out, Q4.out, if_pos (Int.natCast_nonneg _), hw, if_neg (Int.not_lt.2 (Int.ofNat_le.2 (Nat.le_of_eq hil.symm))), if_pos hlen, rd_cast, shr_small _ hr64]
theorem l02Cut {s : Int} {l : List Int} (h : CW s l) (hl : l.length ≤ 1000000) {k : Nat} (hk : k ≤ 100000) : Ev (fun f => spec_l02Cut.f f s l (k : Int)) (cn (s * (lv l / 2 ^ k))) := by
 obtain ⟨q1, q2, q3, q4⟩ := qr (show k ≤ 1000000 from by omega)
 unfold spec_l02Cut.f
 simp only [q1, q3]
 exact l02Cut_loop h hl hk _ (k / 24) [] (Nat.le_refl _) (by omega) rfl (CutRel.start _ _ _)
end Go.Proofs.YtghhphndbbefjaaDoor.Pur
