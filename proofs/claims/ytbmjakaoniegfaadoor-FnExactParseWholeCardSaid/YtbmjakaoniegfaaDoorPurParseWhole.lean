/- The law FnExactParseWhole, as a plain statement: it answers true at every text. -/
import Derived.Test.YtbmjakaoniegfaaDoorPur2
import Derived.Test.YtbmjakaoniegfaaDoorPur3
import Derived.Test.YtbmjakaoniegfaaDoorX2
import Derived.Test.YtbmjakaoniegfaaDoorX3
import Derived.Test.YtbmjakaoniegfaaDoorBnd8
namespace Go.Proofs.YtbmjakaoniegfaaDoor.Pur
open Go.RowKit Go.Proofs.YtbmjakaoniegfaaDoor Go.Proofs.YtbmjakaoniegfaaDoor.Big Go.Proofs.YtbmjakaoniegfaaDoor.X Go.Proofs.YtbmjakaoniegfaaDoorW.PrintWords Go.Proofs.YtbmjakaoniegfaaDoorW.PrintLast Go.Proofs.YtbmjakaoniegfaaDoor.Math
set_option linter.unusedVariables false
set_option linter.unusedSimpArgs false

theorem succ_j {i : Nat} (h : i ≤ 10000000) : wrap64 ((i : Int) + 1) = ((i + 1 : Nat) : Int) := by rw [w64s (by omega) (by omega)]; omega
theorem ten_num {carry x : Int} (hc : 0 ≤ carry ∧ carry ≤ 9) (hx : 0 ≤ x ∧ x < 16777216) :
    wrap64 (Int.tdiv (wrap64 (carry + wrap64 (10 * x))) 16777216) = (carry + 10 * x) / 16777216 ∧ Int.tmod (wrap64 (carry + wrap64 (10 * x))) 16777216 = (carry + 10 * x) % 16777216 := by
  have f1 : wrap64 (10 * x) = 10 * x := w64s (by omega) (by omega)
  have f2 : wrap64 (carry + 10 * x) = carry + 10 * x := w64s (by omega) (by omega)
  have f3 : wrap64 ((carry + 10 * x) / 16777216) = (carry + 10 * x) / 16777216 := w64s (by omega) (by omega)
  have f0 : 0 ≤ carry + 10 * x := by omega
  have f4 := tdm f0
  rw [f1, f2, f4.1, f4.2, f3]
  exact ⟨rfl, rfl⟩
theorem set_ten (ds xs : List Int) (k : Nat) (v : Int) (hk : k < xs.length) (hl : ds.length = k) : (ds ++ xs.drop k).set k v = (ds ++ [v]) ++ xs.drop (k + 1) := by
  subst hl
  rw [List.set_append_right _ _ (Nat.le_refl _), Nat.sub_self, List.drop_eq_getElem_cons hk, List.set_cons_zero, List.append_assoc, List.singleton_append]
theorem rd_ten (ds xs : List Int) (k : Nat) (hk : k < xs.length) (hl : ds.length = k) : rd (ds ++ xs.drop k) (k : Int) = xs.getD k 0 := by
  subst hl
  rw [rd_cast, List.getD_eq_getElem?_getD, List.getElem?_append_right (Nat.le_refl _), Nat.sub_self, List.getElem?_drop, Nat.add_zero, ← List.getD_eq_getElem?_getD]
theorem read_inner (sg : Int) (b : ByteArray) (i : Nat) (hi : i ≤ 1000000) {xs : List Int} (ox : Okl xs) (hl : xs.length ≤ 1000000) {dg : Int} (d : Nat) : ∀ (k : Nat) (carry : Int) (ds : List Int), k ≤ xs.length → xs.length - k = d → TenRel xs dg k carry ds →
    ∃ ys, Okl ys ∧ lv ys = 10 * lv xs + dg ∧ ys.length ≤ xs.length + 1 ∧ ∀ r, Ev (fun f => spec_l02Read.l1 f sg b ys ((i + 1 : Nat) : Int)) r → Ev (fun f => spec_l02Read.l2 f sg b (ds ++ xs.drop k) (i : Int) carry (k : Int)) r := by
  have hwi := succ_j (show i ≤ 10000000 from by omega)
  have HWI := Aside0.mk hwi
  clear hwi
  induction d with
  | zero =>
    intro k carry ds h0 hd hr
    obtain rfl : k = xs.length := by omega
    have hdn := hr.done
    have hlen := hr.len
    have hc := hr.c
    rw [List.drop_length, List.append_nil]
    have hnl : ¬ ((xs.length : Nat) : Int) < (ds.length : Int) := by rw [hlen]; exact Int.lt_irrefl _
    by_cases hp : carry > 0
    · have hd2 : ds.length < 17592186044416 := by rw [hlen]; omega
      refine ⟨ds ++ [carry], hr.ok.append (okl_single ⟨hc.1, by omega⟩), ?_, by simp [hlen], fun r h => Ev.step (fun f => ?_) h⟩
      · rw [lv_append, hlen, ← hdn]
        simp [lv]
      · simp only [spec_l02Read.l2]
        rw [if_neg hnl, if_pos hp, if_pos hd2, HWI.out]
    · have hc0 : carry = 0 := by omega
      refine ⟨ds, hr.ok, ?_, by rw [hlen]; omega, fun r h => Ev.step (fun f => ?_) h⟩
      · rw [← hdn, hc0, Int.mul_zero, Int.add_zero]
      · simp only [spec_l02Read.l2]
        rw [if_neg hnl, if_neg hp, HWI.out]
  | succ d ih =>
    intro k carry ds h0 hd hr
    have hk : k < xs.length := by omega
    have hd2 : xs.length - (k + 1) = d := by omega
    have hlen := hr.len
    have hw := succ_j (show k ≤ 10000000 from by omega)
    have hn := ten_num hr.c (okl_getD ox k)
    obtain ⟨ys, y1, y2, y3, y4⟩ := ih (k + 1) _ _ hk hd2 (hr.step ox hk rfl)
    refine ⟨ys, y1, y2, y3, fun r h => Ev.step (fun f => ?_) (y4 r h)⟩
    have hll : (ds ++ xs.drop k).length = xs.length := by rw [List.length_append, List.length_drop, hlen]; omega
    have hlt : (k : Int) < ((ds ++ xs.drop k).length : Int) := by rw [hll]; exact Int.ofNat_lt.2 hk
    simp only [spec_l02Read.l2]
    rw [if_pos hlt, if_pos (Int.natCast_nonneg _), rd_ten ds xs k hk hlen, hn.1, hn.2, Int.toNat_natCast, set_ten ds xs k _ hk hlen, hw]
theorem read_outer (sg : Int) (hsg : sg = 1 ∨ sg = -1) (b : ByteArray) (hb : b.size ≤ 1048576) (hd : AllDig b) {N : Nat} (hN : N = min b.size 2000) (d : Nat) : ∀ (i : Nat) (xs : List Int), i ≤ N → N - i = d → Okl xs → lv xs = dnum b i → xs.length ≤ i →
    Ev (fun f => spec_l02Read.l1 f sg b xs (i : Int)) ((cn (sg * dnum b N)).1, (cn (sg * dnum b N)).2, true) := by
  induction d with
  | zero =>
    intro i xs h0 hi ox hv hl
    have hiN : i = N := by omega
    have hfin : Ev (fun f => spec_l02Read.j5 f sg b xs (i : Int) false) ((cn (sg * dnum b N)).1, (cn (sg * dnum b N)).2, true) := by
      refine Ev.step (g := fun f => (spec_l02Make.f f sg xs).bind fun bt133 => (some (bt133.1, bt133.2, true))) (fun f => by simp only [spec_l02Read.j5]; rw [if_neg (by decide)]) ?_
      have hm := l02Make hsg ox (show xs.length ≤ 1000000000 from by omega)
      rw [hv, hiN] at hm
      exact Ev.bind (f := fun _ bt => some (bt.1, bt.2, true)) hm (Ev.now _)
    by_cases hs : i < b.size
    · have h2 : ¬ (i : Int) < 2000 := by omega
      exact Ev.step (fun f => by simp only [spec_l02Read.l1]; rw [if_pos (Int.ofNat_lt.2 hs), decide_eq_false h2]) hfin
    · exact Ev.step (fun f => by simp only [spec_l02Read.l1]; rw [if_neg (Int.not_lt.2 (Int.ofNat_le.2 (Nat.le_of_not_lt hs)))]) hfin
  | succ d ih =>
    intro i xs h0 hi ox hv hl
    have hs : i < b.size := by omega
    have h2 : (i : Int) < 2000 := by omega
    have hi1 : i + 1 ≤ N ∧ N - (i + 1) = d := by omega
    have hdg := hd i hs
    have hdv : (bt b (i : Int) - 48) % 256 = bt b (i : Int) - 48 := by omega
    obtain ⟨ys, y1, y2, y3, y4⟩ := read_inner sg b i (by omega) ox (show xs.length ≤ 1000000 from by omega) xs.length 0 _ [] (Nat.zero_le _) rfl (TenRel.start xs (d := bt b (i : Int) - 48) (by omega))
    have hv2 : lv ys = dnum b (i + 1) := by rw [y2, hv, dnum_succ, Int.mul_comm]
    have hnext := y4 _ (ih (i + 1) ys hi1.1 hi1.2 y1 hv2 (by omega))
    rw [List.nil_append, List.drop_zero] at hnext
    refine Ev.step (fun f => by simp only [spec_l02Read.l1]; rw [if_pos (Int.ofNat_lt.2 hs), decide_eq_true h2]) (Ev.step (fun f => ?_) hnext)
    simp only [spec_l02Read.j5]
    rw [if_pos trivial, if_pos (Int.natCast_nonneg _), if_pos (Int.ofNat_lt.2 hs), hdv]
    rfl
theorem read_good (sg : Int) (b : ByteArray) (hb : b.size ≤ 1048576) (hd : AllDig b) (r : Int × List Int × Bool) (h : Ev (fun f => spec_l02Read.l1 f sg b [] 0) r) (d : Nat) : ∀ i : Nat, i ≤ b.size → b.size - i = d → Ev (fun f => spec_l02Read.l0 f sg b (i : Int)) r := by
  induction d with
  | zero =>
    intro i h0 hi
    have hn : ¬ (i : Int) < (b.size : Int) := by omega
    exact Ev.step (fun f => by simp only [spec_l02Read.l0]; rw [if_neg hn]) h
  | succ d ih =>
    intro i h0 hi
    have hs : i < b.size := by omega
    have hdg := hd i hs
    have c1 : ¬ bt b (i : Int) < 48 := by omega
    have c2 : ¬ bt b (i : Int) > 57 := by omega
    have hw := succ_j (show i ≤ 10000000 from by omega)
    exact Ev.step (fun f => by simp only [spec_l02Read.l0]; rw [if_pos (Int.ofNat_lt.2 hs), if_pos (Int.natCast_nonneg _), if_neg c1, if_neg c2, hw]) (ih (i + 1) hs (by omega))
theorem read_bad (sg : Int) (b : ByteArray) (hb : b.size ≤ 1048576) (hd : ¬ AllDig b) (d : Nat) : ∀ i : Nat, i ≤ b.size → b.size - i = d → (∀ j : Nat, j < i → 48 ≤ bt b (j : Int) ∧ bt b (j : Int) ≤ 57) → Ev (fun f => spec_l02Read.l0 f sg b (i : Int)) (0, [], false) := by
  induction d with
  | zero =>
    intro i h0 hi hp
    exact absurd (fun j hj => hp j (by omega)) hd
  | succ d ih =>
    intro i h0 hi hp
    have hs : i < b.size := by omega
    have hw := succ_j (show i ≤ 10000000 from by omega)
    by_cases c1 : bt b (i : Int) < 48
    · exact Ev.step (g := fun _ => some (0, [], false)) (fun f => by simp only [spec_l02Read.l0]; rw [if_pos (Int.ofNat_lt.2 hs), if_pos (Int.natCast_nonneg _), if_pos c1]) (Ev.now _)
    · by_cases c2 : bt b (i : Int) > 57
      · exact Ev.step (g := fun _ => some (0, [], false)) (fun f => by simp only [spec_l02Read.l0]; rw [if_pos (Int.ofNat_lt.2 hs), if_pos (Int.natCast_nonneg _), if_neg c1, if_pos c2]) (Ev.now _)
      · refine Ev.step (fun f => by simp only [spec_l02Read.l0]; rw [if_pos (Int.ofNat_lt.2 hs), if_pos (Int.natCast_nonneg _), if_neg c1, if_neg c2, hw]) (ih (i + 1) hs (by omega) (fun j hj => ?_))
        rcases (show j < i ∨ j = i from by omega) with g | rfl
        · exact hp j g
        · omega
def sgOf (ng : Bool) : Int := if ng then -1 else 1
theorem sgOf_or (ng : Bool) : sgOf ng = 1 ∨ sgOf ng = -1 := by cases ng <;> simp [sgOf]
/-- What the reference reads behind the sign. -/
def readres (ng : Bool) (b : ByteArray) : Int × List Int × Bool :=
  if b.size = 0 ∨ (1 < b.size ∧ bt b 0 = 48) ∨ (ng = true ∧ b.size = 1 ∧ bt b 0 = 48) then (0, [], false) else if digB b = false then (0, [], false) else
    ((cn ((sgOf ng) * dnum b (min b.size 2000))).1, (cn ((sgOf ng) * dnum b (min b.size 2000))).2, true)
theorem read_tail (ng : Bool) (b : ByteArray) (hb : b.size ≤ 1048576) : Ev (fun f => spec_l02Read.j1 f (sgOf ng) b) (readres ng b) := by
  have hsg := sgOf_or ng
  have hneg : decide ((sgOf ng) < 0) = ng := by cases ng <;> rfl
  have hbad : Ev (fun f => spec_l02Read.j2 f (sgOf ng) b true) (0, [], false) :=
    Ev.step (g := fun _ => some (0, [], false)) (fun f => by simp [spec_l02Read.j2]) (Ev.now _)
  have hmain : ¬ b.size = 0 → Ev (fun f => spec_l02Read.j2 f (sgOf ng) b false) (if digB b = false then (0, [], false) else
    ((cn ((sgOf ng) * dnum b (min b.size 2000))).1, (cn ((sgOf ng) * dnum b (min b.size 2000))).2, true)) := by
    intro hz
    refine Ev.step (g := fun f => spec_l02Read.l0 f (sgOf ng) b ((0 : Nat) : Int)) (fun f => by simp [spec_l02Read.j2]) ?_
    cases hdb : digB b
    · rw [if_pos rfl]
      exact read_bad _ b hb (fun g => by rw [(digB_iff b).2 g] at hdb; cases hdb) _ 0 (Nat.zero_le _) rfl (fun j hj => by omega)
    · rw [if_neg (by decide)]
      have hd := (digB_iff b).1 hdb
      exact read_good _ b hb hd _ (read_outer _ hsg b hb hd rfl _ 0 [] (Nat.zero_le _) rfl Okl.nil rfl (Nat.le_refl _)) _ 0 (Nat.zero_le _) rfl
  unfold readres
  by_cases hz : b.size = 0
  · rw [if_pos (.inl hz)]
    have h0 : (b.size : Int) = 0 := by omega
    exact Ev.step (fun f => by simp only [spec_l02Read.j1]; rw [if_pos h0]) hbad
  · have h0 : ¬ (b.size : Int) = 0 := by omega
    have h1 : (0 : Int) < (b.size : Int) := by omega
    by_cases h48 : bt b 0 = 48
    · by_cases h1s : 1 < b.size
      · rw [if_pos (.inr (.inl ⟨h1s, h48⟩))]
        have h2 : (b.size : Int) > 1 := by omega
        exact Ev.step (fun f => by simp only [spec_l02Read.j1]; rw [if_neg h0, if_pos h1, if_pos h48, if_pos h2]) hbad
      · have h2 : ¬ (b.size : Int) > 1 := by omega
        have h1e : b.size = 1 := by omega
        cases ng
        · rw [if_neg (by rintro (g | g | g); exact hz g; exact h1s g.1; exact absurd g.1 (by decide))]
          exact Ev.step (fun f => by simp only [spec_l02Read.j1]; rw [if_neg h0, if_pos h1, if_pos h48, if_neg h2]; rfl) (hmain hz)
        · rw [if_pos (.inr (.inr ⟨rfl, h1e, h48⟩))]
          exact Ev.step (fun f => by simp only [spec_l02Read.j1]; rw [if_neg h0, if_pos h1, if_pos h48, if_neg h2]; rfl) hbad
    · rw [if_neg (by rintro (g | g | g); exact hz g; exact h48 g.2; exact h48 g.2.2)]
      exact Ev.step (fun f => by simp only [spec_l02Read.j1]; rw [if_neg h0, if_pos h1, if_neg h48]) (hmain hz)
theorem read_all (a : ByteArray) (ha : a.size ≤ 1048576) : Ev (fun f => spec_l02Read.f f a) (readres (isneg a) (bodyOf a)) := by
  unfold spec_l02Read.f
  by_cases hz : a.size = 0
  · have hn : isneg a = false := by simp [isneg, hz]
    rw [bodyOf, hn]
    have h0 : ¬ (a.size : Int) > 0 := by omega
    simp only [if_neg h0]
    exact Ev.step (fun f => by rw [spec_l02Read.j0, if_neg (by decide), show sgOf false = 1 from rfl]) (read_tail false a ha)
  · have h0 : (a.size : Int) > 0 := by omega
    have h0' : (0 : Int) < (a.size : Int) := by omega
    simp only [if_pos h0, if_pos h0']
    by_cases h45 : bt a 0 = 45
    · have hn : isneg a = true := by simp [isneg, h45]; omega
      rw [bodyOf, hn, if_pos rfl, beq_iff_eq.2 h45]
      have h1 : (1 : Int) ≤ (a.size : Int) := by omega
      exact Ev.step (fun f => by rw [spec_l02Read.j0, if_pos rfl, if_pos h1, show sgOf true = -1 from rfl]) (read_tail true _ (by rw [ByteArray.size_extract]; omega))
    · have hn : isneg a = false := by simp [isneg, h45]
      rw [bodyOf, hn, beq_eq_false_iff_ne.2 h45]
      exact Ev.step (fun f => by rw [spec_l02Read.j0, if_neg (by decide), show sgOf false = 1 from rfl]) (read_tail false a ha)
theorem ten_large {n : Nat} (h : 1600 ≤ n) : (2 : Nat) ^ 4800 ≤ 10 ^ n := by
  obtain ⟨u, hu⟩ : ∃ u, u = 4800 := ⟨_, rfl⟩
  rw [← hu]
  have h1 : (8 : Nat) ^ n ≤ 10 ^ n := Nat.pow_le_pow_left (by decide) n
  have h2 : (8 : Nat) ^ n = 2 ^ (3 * n) := by rw [Nat.pow_mul]
  have h3 : (2 : Nat) ^ u ≤ 2 ^ (3 * n) := Nat.pow_le_pow_right (by decide) (by omega)
  exact Nat.le_trans h3 (by rw [← h2]; exact h1)
theorem big_dnum {b : ByteArray} (hd : AllDig b) (h48 : bt b 0 ≠ 48) {n : Nat} (hn : 1700 ≤ n) (hs : n < b.size) (sg : Int) (hsg : sg = 1 ∨ sg = -1) : wfit (sg * dnum b n) = (0, [], 3) := by
  have hn1 : 1600 ≤ n - 1 := by omega
  have hp : 10 ^ (n - 1) ≤ dnum b n := dpre_ge (f := fun j => bt b (j : Int)) (fun i hi => hd i (by omega)) h48 (by omega)
  have h3 : (((10 : Nat) ^ (n - 1) : Nat) : Int) = 10 ^ (n - 1) := by rw [Int.natCast_pow]; rfl
  have e : (sg * dnum b n).natAbs = (dnum b n).natAbs := by rcases hsg with rfl | rfl <;> simp
  refine wfit_big (fun g => ?_)
  have h1 := blen_le.1 g
  have h2 := ten_large hn1
  rw [e] at h1
  clear g e
  generalize dnum b n = v at hp h1
  generalize (2 : Nat) ^ 4800 = p at h1 h2
  generalize (10 : Nat) ^ (n - 1) = q at h2 h3
  generalize (10 : Int) ^ (n - 1) = q2 at h3 hp
  omega
theorem dnum_len {b : ByteArray} (hd : AllDig b) {n : Nat} (hn : n ≤ b.size) (hn2 : n ≤ 2000) (sg : Int) (hsg : sg = 1 ∨ sg = -1) : (limbs (sg * dnum b n).natAbs).length ≤ 1000000000 := by
  have h0 := dnum_nonneg hd hn
  have hp : dnum b n < 10 ^ n := dpre_lt (f := fun j => bt b (j : Int)) (fun i hi => hd i (by omega))
  have e : (sg * dnum b n).natAbs = (dnum b n).natAbs := by rcases hsg with rfl | rfl <;> simp
  have h3 : (((10 : Nat) ^ n : Nat) : Int) = 10 ^ n := by rw [Int.natCast_pow]; rfl
  have h4 : (10 : Nat) ^ n ≤ 16777216 ^ n := Nat.pow_le_pow_left (by decide) n
  rw [e]
  refine Nat.le_trans (limbs_length_le (k := n) ?_) (by omega)
  generalize dnum b n = v at h0 hp
  generalize (10 : Nat) ^ n = p at h3 h4
  generalize (10 : Int) ^ n = q at h3 hp
  omega
theorem specParseWhole (a : ByteArray) (ha : a.size ≤ 1048576) : Ev (fun f => spec_ParseWhole.f f a) (parseres (isneg a) (bodyOf a)) := by
  unfold spec_ParseWhole.f
  refine Ev.bind (read_all a ha) ?_
  generalize isneg a = ng
  generalize bodyOf a = b
  unfold readres parseres
  by_cases hc : b.size = 0 ∨ (1 < b.size ∧ bt b 0 = 48) ∨ (ng = true ∧ b.size = 1 ∧ bt b 0 = 48)
  · simp only [if_pos hc, Bool.false_eq_true, if_false]
    have : (if digB b = false then ((0 : Int), ([] : List Int), (6 : Int)) else (0, [], 6)) = (0, [], 6) := by split <;> rfl
    rw [this]
    exact Ev.now _
  · simp only [if_neg hc]
    by_cases hd : digB b = false
    · simp only [if_pos hd, Bool.false_eq_true, if_false]
      exact Ev.now _
    · simp only [if_neg hd, if_true]
      have hall := (digB_iff b).1 (by simpa using hd)
      have hsg := sgOf_or ng
      have hfit := l02Fit ((sgOf ng) * dnum b (min b.size 2000)) (dnum_len hall (Nat.min_le_left _ _) (Nat.min_le_right _ _) _ hsg)
      have hres : wfit ((sgOf ng) * dnum b (min b.size 2000)) = (if 2000 < b.size then (0, [], 3) else wfit (if ng then -dnum b b.size else dnum b b.size)) := by
        by_cases h2 : 2000 < b.size
        · rw [if_pos h2, Nat.min_eq_right (Nat.le_of_lt h2)]
          exact big_dnum hall (fun g => hc (.inr (.inl ⟨by omega, g⟩))) (by decide) h2 _ hsg
        · rw [if_neg h2, Nat.min_eq_left (Nat.le_of_not_lt h2)]
          cases ng
          · simp [sgOf]
          · simp [sgOf, Int.neg_mul]
      rw [hres] at hfit
      exact Ev.bind (f := fun _ bt => some (bt.1, bt.2.1, bt.2.2)) hfit (Ev.now _)
theorem wfit_len (n : Int) : (wfit n).2.1.length ≤ 200 := by
  rw [wfit_cn]
  split
  · assumption
  · simp
theorem parseres_length (ng : Bool) (b : ByteArray) : (parseres ng b).2.1.length ≤ 200 := by
  unfold parseres
  generalize (if ng then -dnum b b.size else dnum b b.size) = v
  split
  · simp
  · split
    · simp
    · split
      · simp
      · exact wfit_len v
theorem implParseWhole (a : ByteArray) (ha : a.size ≤ 140737488351232) : impl_ParseWhole.f a = some (parseres (isneg a) (bodyOf a)) := by
  unfold impl_ParseWhole.f
  rw [if_pos ha]
set_option maxHeartbeats 1000000 in
theorem lawParseWhole (a : ByteArray) (hl : a.size ≤ 140737488351232) : ∃ k, laws_FnExactParseWhole.f k a = some true := by
  refine Ev.rounds ?_
  unfold laws_FnExactParseWhole.f
  by_cases h : (a.size : Int) > 1048576
  · simp only [if_pos h]
    exact Ev.now true
  · simp only [if_neg h]
    have hr := parseres_length (isneg a) (bodyOf a)
    refine Ev.bind (specParseWhole a (by omega)) ?_
    simp only [implParseWhole a hl, Option.bind_some]
    generalize hR : parseres (isneg a) (bodyOf a) = R at hr ⊢
    obtain ⟨q, u, e⟩ := R
    simp only at hr ⊢
    refine Ev.bind (eqWhole _ _ (by omega)) ?_
    simp only [if_true, bne_self_eq_false]
    refine Ev.step (fun k => by rw [laws_FnExactParseWhole.j0, if_neg (by simp)]) ?_
    refine Ev.bind (markWhole _ _ 1 (by omega) (by omega) (by omega)) ?_
    refine Ev.bind (heldWhole _ _ 1 (by omega) (by omega) (by omega)) ?_
    simp only [if_neg (show ¬ (1 : Int) + (u.length : Int) < 0 from by omega), if_true]
    simp only [implParseWhole a hl, hR, Option.bind_some]
    refine Ev.bind (eqWhole _ _ (by omega)) ?_
    simp only [if_true, bne_self_eq_false]
    refine Ev.step (fun k => by rw [laws_FnExactParseWhole.j1, if_neg (by simp)]) ?_
    refine Ev.bind (heldWhole _ _ 1 (by omega) (by omega) (by omega)) ?_
    simp only [if_neg (show ¬ (1 : Int) + (u.length : Int) < 0 from by omega), if_true]
    exact Ev.now true
end Go.Proofs.YtbmjakaoniegfaaDoor.Pur
