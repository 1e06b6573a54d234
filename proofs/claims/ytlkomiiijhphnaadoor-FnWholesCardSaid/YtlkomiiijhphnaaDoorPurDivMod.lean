/- The reference's division of whole numbers, bit after bit, as plain mathematics. Conditions: limbs in range, at most 200 of them. -/
import Derived.Test.YtlkomiiijhphnaaDoorG25
import Derived.Test.YtlkomiiijhphnaaDoorMathN
import Derived.Test.YtlkomiiijhphnaaDoorX5
namespace Go.Proofs.YtlkomiiijhphnaaDoor.Pur
open Go.RowKit Go.Proofs.YtlkomiiijhphnaaDoor Go.Proofs.YtlkomiiijhphnaaDoor.Big Go.Proofs.YtlkomiiijhphnaaDoor.X Go.Proofs.YtlkomiiijhphnaaDoorW.PrintWords Go.Proofs.YtlkomiiijhphnaaDoorW.PrintLast Go.Proofs.YtlkomiiijhphnaaDoorW.PrintMore Go.Proofs.YtlkomiiijhphnaaDoor.Math
set_option linter.unusedVariables false
set_option linter.unusedSimpArgs false
theorem dm_drop {xs : List Int} {k : Nat} (h : k < xs.length) : xs.drop k = xs.getD k 0 :: xs.drop (k + 1) := by
 rw [List.getD_eq_getElem?_getD, List.getElem?_eq_getElem h]
 exact List.drop_eq_getElem_cons h
theorem dm_take {ds : List Int} {n i : Nat} (hi : i < n) : (ds.take n).getD i 0 = ds.getD i 0 := by
 rw [List.getD_eq_getElem?_getD, List.getElem?_take, if_pos hi, ← List.getD_eq_getElem?_getD]
theorem dm_top {ds : List Int} {n : Nat} (hd : ds.length = n + 1) (hz : ds.getD n 0 = 0) : lv (ds.take n) = lv ds := by
 have := lv_take_zero (l := ds) (n := n) (by omega) hz
 rw [List.take_of_length_le (by omega)] at this
 exact this.symm
theorem dm_less {s t k : Int} {l m ds q : List Int} {n : Nat} (hd : ds.length = n + 1) (od : Okl ds) (om : Okl m) (hm : m.length = n) (hn : n ≤ 1000000) (hz : ds.getD n 0 = 0) {R : Int × List Int × Int × List Int}
  (h : Ev (fun f => spec_l02DivMod.j4 f (n : Int) ds q k (decide (lv ds < lv m)) s l t m) R) (j : Nat) : j ≤ n → (ds.take n).drop j = m.drop j →
  Ev (fun f => spec_l02DivMod.l2 f (n : Int) ds q k (decide (j ≠ 0)) ((j : Int) - 1) s l t m) R := by
 have htop := dm_top hd hz
 have hlt : (ds.take n).length = n := by rw [List.length_take]; omega
 induction j with
 | zero =>
  intro h0 hdr
  rw [List.drop_zero, List.drop_zero] at hdr
  have hnl : decide (lv ds < lv m) = false := by rw [← htop, hdr]; simp
  rw [hnl] at h
  refine Ev.step (fun f => by simp only [spec_l02DivMod.l2]; rw [if_neg (by omega)]) (Ev.step (fun f => ?_) h)
  simp [spec_l02DivMod.j3]
 | succ j ih =>
  intro h0 hdr
  have e1 : ((j + 1 : Nat) : Int) - 1 = (j : Int) := by omega
  have e2 : wrap64 ((j : Int) - 1) = (j : Int) - 1 := w64s (by omega) (by omega)
  have e3 : decide (j + 1 ≠ 0) = true := by simp
  rw [e1, e3]
  refine Ev.step (g := fun f => spec_l02DivMod.j3 f (n : Int) ds q k true (j : Int) true s l t m) (fun f => by simp only [spec_l02DivMod.l2]; rw [if_pos (by omega)]) ?_
  by_cases he : ds.getD j 0 = m.getD j 0
  ·have hd2 : (ds.take n).drop j = m.drop j := by
    rw [dm_drop (show j < (ds.take n).length from by omega), dm_drop (show j < m.length from by omega), dm_take (by omega), he, hdr]
   refine Ev.step (fun f => ?_) (ih (by omega) hd2)
   simp only [spec_l02DivMod.j3, if_true]
   rw [if_pos (by omega), if_pos (by omega), if_pos (by omega), rd_cast, rd_cast, if_pos he, e2]
   by_cases hj : j = 0
   ·subst hj
    rw [if_pos (by omega)]
    simp
   ·rw [if_neg (by omega), decide_eq_true (show j ≠ 0 from hj)]
  ·have hcmp : decide (ds.getD j 0 < m.getD j 0) = decide (lv ds < lv m) := by
    rw [← htop]
    rcases Int.lt_trichotomy (ds.getD j 0) (m.getD j 0) with g | g | g
    ·have := lv_drop_lt (okl_take od n) om (by omega) (k := j) (by omega) hdr (by rw [dm_take (by omega)]; exact g)
     rw [decide_eq_true g, decide_eq_true this]
    ·exact absurd g he
    ·have := lv_drop_lt om (okl_take od n) (by omega) (k := j) (by omega) hdr.symm (by rw [dm_take (by omega)]; exact g)
     rw [decide_eq_false (by omega), decide_eq_false (by omega)]
   rw [← hcmp] at h
   refine Ev.step (fun f => ?_) h
   simp only [spec_l02DivMod.j3, if_true]
   rw [if_pos (by omega), if_pos (by omega), if_pos (by omega), rd_cast, rd_cast, if_neg he]
theorem dm_shl {k : Nat} : shl .i64 1 ((k % 24 : Nat) : Int) = 2 ^ (k % 24) := by
 have e1 := (shl_small (x := 1) (r := k % 24) (Nat.le_of_lt (Nat.mod_lt _ (by omega))) (by omega) (by omega)).1
 rwa [Int.one_mul] at e1
theorem dm_wrap {z : Int} (h : 0 ≤ z ∧ z < 16777216) : wrap64 z = z := w64s (by omega) (by omega)
theorem dm_hdd {n i d : Nat} (h : n + 1 - i = d + 1) : n + 1 - (i + 1) = d ∧ i ≤ n ∧ i + 1 ≤ n + 1 := by omega
theorem dm_inc {i : Nat} (h : i ≤ 1000001) : wrap64 ((i : Int) + 1) = ((i + 1 : Nat) : Int) := by rw [w64s (by omega) (by omega)]; omega
theorem dm_own {x b y : Int} (hx : 0 ≤ x ∧ x < 16777216) (hb : 0 ≤ b ∧ b ≤ 1) (hy : 0 ≤ y ∧ y < 16777216) : wrap64 (x - b) = x - b ∧ ∀ z, z = x - b - y → wrap64 z = z ∧ wrap64 (z + 16777216) = z + 16777216 :=
 ⟨w64s (by omega) (by omega), fun z hz => ⟨w64s (by omega) (by omega), w64s (by omega) (by omega)⟩⟩
theorem dm_sub {s t : Int} {l m ds q : List Int} {n k : Nat} (hd : ds.length = n + 1) (od : Okl ds) (om : Okl m) (hm : m.length = n) (hn : n ≤ 1000000) (hk : k ≤ 1000000) (hq : k / 24 < q.length) (hle : lv m ≤ lv ds)
  (hb : 0 ≤ q.getD (k / 24) 0 + 2 ^ (k % 24) ∧ q.getD (k / 24) 0 + 2 ^ (k % 24) < 16777216) (d : Nat) : ∀ (i : Nat) (borrow : Int) (es : List Int), i ≤ n + 1 → n + 1 - i = d → MinusRel ds m i borrow es →
  ∃ es', es'.length = n + 1 ∧ Okl es' ∧ lv es' = lv ds - lv m ∧ ∀ R, Ev (fun f => spec_l02DivMod.l0 f (n : Int) es' (q.set (k / 24) (q.getD (k / 24) 0 + 2 ^ (k % 24))) ((k : Int) - 1) s l t m) R →
   Ev (fun f => spec_l02DivMod.l3 f (n : Int) (es ++ ds.drop i) q (k : Int) borrow (i : Int) s l t m) R := by
 have HBB := Aside0.mk hb
 have HLE := Aside0.mk hle
 clear hb hle
 induction d with
 | zero =>
  intro i borrow es h0 h1 hr
  obtain rfl : i = ds.length := by omega
  refine ⟨es, by rw [hr.len]; exact hd, hr.ok, hr.done (by omega) HLE.out, fun R hR => ?_⟩
  rw [List.drop_length, List.append_nil]
  have hni : ¬ ((ds.length : Nat) : Int) ≤ (n : Int) := by omega
  have e3 : wrap64 ((k : Int) - 1) = (k : Int) - 1 := w64s (by omega) (by omega)
  have hb := HBB.out
  obtain ⟨q1, q2, q3, q4⟩ := qr hk
  have e1 := dm_shl (k := k)
  have e2 : wrap64 (q.getD (k / 24) 0 + 2 ^ (k % 24)) = q.getD (k / 24) 0 + 2 ^ (k % 24) := dm_wrap hb
  have hql : ((k / 24 : Nat) : Int) < (q.length : Int) := Int.ofNat_lt.2 hq
  refine Ev.step (fun f => ?_) hR
  simp only [spec_l02DivMod.l3]
  rw [if_neg hni, q1, q2, q3, q4, if_pos (Int.natCast_nonneg _), if_pos hql, if_pos (Int.natCast_nonneg _), rd_cast, e1, e2, e3, Int.toNat_natCast]
 | succ d ih =>
  intro i borrow es h0 h1 hr
  have hi : i < ds.length := by omega
  have hx := okl_getD od i
  have hy := okl_getD om i
  have hcb := hr.c
  have e0 : (es ++ ds.drop i).length = n + 1 := by rw [List.length_append, List.length_drop, hr.len]; omega
  have e1 : rd (es ++ ds.drop i) (i : Int) = ds.getD i 0 := by rw [rd_cast]; exact getD_at hr.len (Nat.le_refl _)
  obtain ⟨hdd, hin, hi1⟩ := dm_hdd h1
  have hz : ¬ i < n → m.getD i 0 = 0 := fun g => getD_out (by rw [hm]; exact Nat.le_of_not_lt g)
  have A := Aside0.mk (dm_own hx hcb hy)
  have E2 := Aside0.mk (dm_inc (i := i) (Nat.le_trans hin (Nat.le_trans hn (by decide))))
  obtain ⟨z, hzt⟩ : ∃ z, z = ds.getD i 0 - borrow - m.getD i 0 := ⟨_, rfl⟩
  have hst := fun (b t : Int) (p1 : 0 ≤ b ∧ b ≤ 1) (p2 : 0 ≤ t ∧ t < 16777216) (p3 : t = ds.getD i 0 - borrow - m.getD i 0 + 16777216 * b) => hr.step (b := b) (t := t) p1 p2 p3
  have hlt : ((i : Nat) : Int) < (((es ++ ds.drop i).length : Nat) : Int) := by rw [e0]; exact Int.ofNat_lt.2 (Nat.lt_succ_of_le hin)
  by_cases hneg : z < 0
  ·obtain ⟨es', r1, r2, r3, r4⟩ := ih (i + 1) 1 (es ++ [z + 16777216]) hi1 hdd (hst 1 (z + 16777216) (by decide) (by clear hst ih hr; omega) (by clear hst ih hr; omega))
   refine ⟨es', r1, r2, r3, fun R hR => Ev.step (fun f => ?_) (r4 R hR)⟩
   simp only [spec_l02DivMod.l3]
   rw [if_pos (Int.ofNat_le.2 hin), if_pos (Int.natCast_nonneg _), if_pos hlt, e1, A.out.1, Int.toNat_natCast, E2.out, set_at hr.len hi]
   by_cases g : i < n
   ·rw [if_pos (Int.ofNat_lt.2 g), hm, if_pos (Int.ofNat_lt.2 g), rd_cast, ← hzt, (A.out.2 z hzt).1, if_pos hneg, (A.out.2 z hzt).2]
    try rw [set_at hr.len hi]
   ·have hz0 := hz g
    have ha := (A.out.2 z hzt).2
    rw [hz0, Int.sub_zero] at hzt
    rw [if_neg (fun x => g (Int.ofNat_lt.1 x)), ← hzt, if_pos hneg, ha]
    try rw [set_at hr.len hi]
  ·obtain ⟨es', r1, r2, r3, r4⟩ := ih (i + 1) 0 (es ++ [z]) hi1 hdd (hst 0 z (by decide) (by clear hst ih hr; omega) (by clear hst ih hr; omega))
   refine ⟨es', r1, r2, r3, fun R hR => Ev.step (fun f => ?_) (r4 R hR)⟩
   simp only [spec_l02DivMod.l3]
   rw [if_pos (Int.ofNat_le.2 hin), if_pos (Int.natCast_nonneg _), if_pos hlt, e1, A.out.1, Int.toNat_natCast, E2.out, set_at hr.len hi]
   by_cases g : i < n
   ·rw [if_pos (Int.ofNat_lt.2 g), hm, if_pos (Int.ofNat_lt.2 g), rd_cast, ← hzt, (A.out.2 z hzt).1, if_neg hneg]
    try rw [set_at hr.len hi]
   ·have hz0 := hz g
    rw [hz0, Int.sub_zero] at hzt
    rw [if_neg (fun x => g (Int.ofNat_lt.1 x)), ← hzt, if_neg hneg]
    try rw [set_at hr.len hi]
theorem dm_exists {ds m : List Int} {n : Nat} (hd : ds.length = n + 1) (od : Okl ds) (om : Okl m) (hge : lv m ≤ lv ds) : ∃ es : List Int, es.length = n + 1 ∧ Okl es ∧ lv es = lv ds - lv m := by
 have h0 := lv_nonneg om
 have h1 := lv_lt od
 have hlim : (limbs (lv ds - lv m).toNat).length ≤ n + 1 := limbs_length_le (by
  have c := lpow_cast (n + 1)
  rw [hd] at h1
  generalize (16777216 : Nat) ^ (n + 1) = p at c ⊢
  generalize (16777216 : Int) ^ (n + 1) = r at c h1
  omega)
 refine ⟨limbs (lv ds - lv m).toNat ++ List.replicate (n + 1 - (limbs (lv ds - lv m).toNat).length) 0, by simp; omega, (limbs_okl _).append (okl_replicate _), ?_⟩
 rw [lv_append, lv_zeros, Int.mul_zero, Int.add_zero, limbs_lv]
 omega
theorem dm_big {ds : List Int} {n : Nat} (hd : ds.length = n + 1) (od : Okl ds) (hz : ds.getD n 0 ≠ 0) : (16777216 : Int) ^ n ≤ lv ds := by
 have hx := okl_getD od n
 have e := lv_take_succ (xs := ds) (k := n) (by omega)
 rw [List.take_of_length_le (by omega)] at e
 have h0 := lv_nonneg (okl_take od n)
 have hp : (0 : Int) < 16777216 ^ n := Int.pow_pos (by omega)
 have : (16777216 : Int) ^ n * 1 ≤ 16777216 ^ n * ds.getD n 0 := Int.mul_le_mul_of_nonneg_left (by omega) (Int.le_of_lt hp)
 omega
theorem dm_dbl {s t k c0 : Int} {l m rest q : List Int} {n : Nat} (hl : rest.length = n + 1) (ox : Okl rest) (hn : n ≤ 1000000) {R : Int × List Int × Int × List Int}
  (h : ∀ ds carry, DblRel rest c0 rest.length carry ds → Ev (fun f => spec_l02DivMod.l2 f (n : Int) ds q k (ds.getD n 0 == 0) ((n : Int) - 1) s l t m) R) (d : Nat) : ∀ (i : Nat) (carry : Int) (ds : List Int), i ≤ n + 1 → n + 1 - i = d → DblRel rest c0 i carry ds →
  Ev (fun f => spec_l02DivMod.l1 f (n : Int) (ds ++ rest.drop i) q k carry (i : Int) s l t m) R := by
 induction d with
 | zero =>
  intro i carry ds h0 h1 hr
  obtain rfl : i = rest.length := by omega
  rw [List.drop_length, List.append_nil]
  have hlen := hr.len
  have e1 : wrap64 ((n : Int) - 1) = (n : Int) - 1 := w64s (by omega) (by omega)
  refine Ev.step (fun f => ?_) (h ds carry hr)
  simp only [spec_l02DivMod.l1]
  rw [if_neg (by omega), if_pos (Int.natCast_nonneg _), if_pos (by omega), rd_cast, e1]
 | succ d ih =>
  intro i carry ds h0 h1 hr
  have hi : i < rest.length := by omega
  have hx := okl_getD ox i
  have hcb := hr.c
  obtain ⟨⟨t0, t1⟩, hs⟩ := hr.step ox hi rfl
  have e0 : (ds ++ rest.drop i).length = n + 1 := by rw [List.length_append, List.length_drop, hr.len]; omega
  have e1 : rd (ds ++ rest.drop i) (i : Int) = rest.getD i 0 := by rw [rd_cast]; exact getD_at hr.len (Nat.le_refl _)
  have e2 : wrap64 ((i : Int) + 1) = ((i + 1 : Nat) : Int) := by rw [w64s (by omega) (by omega)]; omega
  have e3 : wrap64 (2 * rest.getD i 0) = 2 * rest.getD i 0 := w64s (by omega) (by omega)
  refine Ev.step (fun f => ?_) (ih (i + 1) _ _ (by omega) (by omega) hs)
  simp only [spec_l02DivMod.l1]
  rw [if_pos (by omega), if_pos (Int.natCast_nonneg _), e0, if_pos (by omega), e1, e3]
  generalize 2 * rest.getD i 0 + carry = z at t0 t1 ⊢
  have e4 : wrap64 z = z := w64s (by omega) (by omega)
  have e5 := tdm t0
  have e6 : wrap64 (z / 16777216) = z / 16777216 := w64s (by omega) (by omega)
  rw [e4, e5.1, e5.2, e6, e2, Int.toNat_natCast, set_at hr.len hi]
theorem dm_main {s t : Int} {l m : List Int} (h : CW s l) (g : CW t m) (hl : l.length ≤ 200) (hm : m.length ≤ 200) (hne : m ≠ []) (kk : Nat) : ∀ rest q, kk ≤ 24 * l.length → BitDiv (lv l) (lv m) m.length l.length kk rest q →
  Ev (fun f => spec_l02DivMod.l0 f (m.length : Int) rest q ((kk : Int) - 1) s l t m) ((cn (s * t * (lv l / lv m))).1, (cn (s * t * (lv l / lv m))).2, (cn (s * (lv l % lv m))).1, (cn (s * (lv l % lv m))).2) := by
 have hA := lv_nonneg h.ok
 have hB := lv_pos g.ok g.ti hne
 have hs := h.sign
 have ht := g.sign
 have hmp : 0 < m.length := List.length_pos_iff.2 hne
 induction kk with
 | zero =>
  intro rest q hk hb
  obtain ⟨d1, d2⟩ := hb.done
  have hst : -1 ≤ s * t ∧ s * t ≤ 1 := by
   rcases (show s = -1 ∨ s = 0 ∨ s = 1 from by omega) with rfl | rfl | rfl <;> omega
  have w1 : wrap64 (s * t) = s * t := w64s (by omega) (by omega)
  have z0 : s = 0 → lv l = 0 := fun e => by rw [h.szero.1 e]; rfl
  have z1 : s * t = 0 → lv l = 0 := fun e => by
   rcases Int.mul_eq_zero.1 e with e | e
   ·exact z0 e
   ·exact absurd (g.szero.1 e) hne
  refine Ev.step (fun f => by simp only [spec_l02DivMod.l0]; rw [if_neg (by omega), w1]) ?_
  have m1 := l02Make_any (s := s * t) (l := q) hst (fun e => by rw [d2, z1 e, Int.zero_ediv]) hb.qo (by rw [hb.ql]; omega)
  have m2 := l02Make_any (s := s) (l := rest) hs (fun e => by rw [d1, z0 e, Int.zero_emod]) hb.ro (by rw [hb.rl]; omega)
  rw [d2] at m1
  rw [d1] at m2
  exact Ev.bind m1 (Ev.bind m2 (Ev.now _))
 | succ k ih =>
  intro rest q hk hb
  have e1 : ((k + 1 : Nat) : Int) - 1 = (k : Int) := by omega
  have hbit := l02Bit s h.ok (show l.length ≤ 1000000 from by omega) (k := k) (by omega)
  have hc0 : 0 ≤ lv l / 2 ^ k % 2 ∧ lv l / 2 ^ k % 2 ≤ 1 := by omega
  rw [e1]
  refine Ev.step (fun f => by simp only [spec_l02DivMod.l0]; rw [if_pos (Int.natCast_nonneg _), hbit]) ?_
  have start := dm_dbl (s := s) (t := t) (k := (k : Int)) (c0 := lv l / 2 ^ k % 2) (l := l) (m := m) (rest := rest) (q := q) (n := m.length) hb.rl hb.ro (by omega)
   (R := ((cn (s * t * (lv l / lv m))).1, (cn (s * t * (lv l / lv m))).2, (cn (s * (lv l % lv m))).1, (cn (s * (lv l % lv m))).2)) ?_ (m.length + 1) 0 (lv l / 2 ^ k % 2) [] (Nat.zero_le _) rfl (DblRel.start rest hc0)
  ·exact start
  ·intro ds carry hr
   have hrlt : lv rest < lv m := by rw [hb.rv]; exact Int.emod_lt_of_pos _ hB
   have hfit := hr.fits hb.rl hrlt (Int.le_of_lt (lv_lt g.ok)) hc0.2 (lv_nonneg hb.ro)
   have hdl : ds.length = m.length + 1 := by rw [hr.len, hb.rl]
   have w3 : wrap64 ((k : Int) - 1) = (k : Int) - 1 := w64s (by omega) (by omega)
   have hj4 : Ev (fun f => spec_l02DivMod.j4 f (m.length : Int) ds q (k : Int) (decide (lv ds < lv m)) s l t m) ((cn (s * t * (lv l / lv m))).1, (cn (s * t * (lv l / lv m))).2, (cn (s * (lv l % lv m))).1, (cn (s * (lv l % lv m))).2) := by
    by_cases hlt : lv ds < lv m
    ·rw [decide_eq_true hlt]
     refine Ev.step (fun f => by simp only [spec_l02DivMod.j4, if_true]; rw [w3]) ?_
     exact ih ds q (by omega) (hb.less hA hB hdl hr.ok hfit hlt)
    ·rw [decide_eq_false hlt]
     have hq : k / 24 < l.length := by omega
     have hge : lv m ≤ lv ds := by omega
     obtain ⟨es, s1, s2, s3, s4⟩ := dm_sub (s := s) (t := t) (l := l) (m := m) (ds := ds) (q := q) (n := m.length) (k := k) hdl hr.ok g.ok rfl (by omega) (by omega) (by rw [hb.ql]; exact hq) hge
      (by
       have hz := dm_exists hdl hr.ok g.ok hge
       obtain ⟨es0, e1, e2, e3⟩ := hz
       exact (hb.more hA hB e1 e2 hfit hge e3 hq).1) (m.length + 1) 0 0 [] (Nat.zero_le _) rfl (MinusRel.start ds m)
     have hmore := hb.more hA hB s1 s2 hfit hge s3 hq
     refine Ev.step (fun f => by simp only [spec_l02DivMod.j4]; rw [if_neg (by simp)]; rfl) (s4 _ (ih es _ (by omega) hmore.2))
   by_cases hz : ds.getD m.length 0 = 0
   ·have := dm_less (s := s) (t := t) (k := (k : Int)) (l := l) (q := q) hdl hr.ok g.ok rfl (by omega) hz hj4 m.length (Nat.le_refl _) (by rw [List.drop_of_length_le (by rw [List.length_take]; omega), List.drop_length])
    rw [decide_eq_true (show m.length ≠ 0 from by omega)] at this
    rw [beq_iff_eq.2 hz]
    exact this
   ·have hbig : ¬ lv ds < lv m := by
     have := dm_big hdl hr.ok hz
     have := lv_lt g.ok
     omega
    rw [decide_eq_false hbig] at hj4
    rw [beq_eq_false_iff_ne.2 hz]
    refine Ev.step (g := fun f => spec_l02DivMod.j3 f (m.length : Int) ds q (k : Int) false ((m.length : Int) - 1) false s l t m) (fun f => by simp only [spec_l02DivMod.l2]; rw [if_pos (by omega)]) (Ev.step (fun f => ?_) hj4)
    simp [spec_l02DivMod.j3]
end Go.Proofs.YtlkomiiijhphnaaDoor.Pur
