/- The law FnWholes: it answers true at every code. The plain part: what its helpers answer, and the arithmetic of whole numbers. -/
import Derived.Test.YtlkomiiijhphnaaDoorG20
import Derived.Test.YtlkomiiijhphnaaDoorG25
import Derived.Test.YtlkomiiijhphnaaDoorG26
import Derived.Test.YtlkomiiijhphnaaDoorPurWholeOf
import Derived.Test.YtlkomiiijhphnaaDoorPurIsWhole
import Derived.Test.YtlkomiiijhphnaaDoorG29
import Derived.Test.YtlkomiiijhphnaaDoorPurDivideWholes
import Derived.Test.YtlkomiiijhphnaaDoorWkWholes
namespace Go.Proofs.YtlkomiiijhphnaaDoor.Pur
open Go.RowKit Go.Proofs.YtlkomiiijhphnaaDoor Go.Proofs.YtlkomiiijhphnaaDoor.Big Go.Proofs.YtlkomiiijhphnaaDoor.X Go.Proofs.YtlkomiiijhphnaaDoorW.PrintWords Go.Proofs.YtlkomiiijhphnaaDoorW.PrintLast Go.Proofs.YtlkomiiijhphnaaDoor.Math
set_option linter.unusedVariables false
set_option linter.unusedSimpArgs false
theorem likeInts_loop {l : List Int} (hl : l.length ≤ 1000000) (d : Nat) : ∀ i : Nat, i ≤ l.length → l.length - i = d → Ev (fun k => laws_likeInts.l0 k l l (i : Int)) true := by
 induction d with
 | zero =>
  intro i h0 h1
  refine Ev.step (g := fun _ => some true) (fun k => ?_) (Ev.now _)
  simp only [laws_likeInts.l0]
  rw [if_neg (by omega)]
 | succ d ih =>
  intro i h0 h1
  refine Ev.step (fun k => ?_) (ih (i + 1) (by omega) (by omega))
  simp only [laws_likeInts.l0]
  rw [if_pos (by omega), if_pos (by omega), if_pos (by omega), if_pos trivial, w64s (by omega) (by omega), show (i : Int) + 1 = ((i + 1 : Nat) : Int) from by omega]
theorem whole5 (s : Int) {l : List Int} (hl : l.length ≤ 1000000) : Ev (fun k => laws_whole5.f k s l s l) true := by
 unfold laws_whole5.f laws_likeInts.f
 simp only [if_true]
 exact Ev.bind (f := fun _ t => some t) (likeInts_loop hl l.length 0 (Nat.zero_le _) rfl) (Ev.now _)
theorem wrap_range (z : Int) : -9223372036854775808 ≤ wrap64 z ∧ wrap64 z ≤ 9223372036854775807 := by
 unfold wrap64
 omega
theorem drawWhole_key {l : List Int} (hc : Code l) : ∃ n, Ev (fun k => spec_DrawWholeOf.f k l) n ∧ -9223372036854775808 ≤ n ∧ n ≤ 9223372036854775807 := by
 unfold spec_DrawWholeOf.f
 obtain ⟨h, e0⟩ := from_key hc
 obtain ⟨x1, a1, h1, e1, p1, q1⟩ := next_key hc 0 h 41 (by omega)
 obtain ⟨x2, a2, h2, e2, p2, q2⟩ := next_key hc a1 h1 16777216 p1
 obtain ⟨x3, a3, h3, e3, p3, q3⟩ := next_key hc a2 h2 16777216 p2
 obtain ⟨x4, a4, h4, e4, p4, q4⟩ := next_key hc a3 h3 16777216 p3
 obtain ⟨x5, a5, h5, e5, p5, q5⟩ := pick_key hc a4 h4 p4 [wrap64 (x1 - 20), wrap64 (x2 * 1048576), (-9223372036854775808), 9223372036854775807, 16777216, (-16777216), 281474976710655, wrap64 (x3 * x4)] (by simp)
 refine ⟨x5, Ev.bind e0 (Ev.as (fun k => obind e1 _) (Ev.as (fun k => obind e2 _) (Ev.as (fun k => obind e3 _) (Ev.as (fun k => obind e4 _) (Ev.as (fun k => obind e5 _) (Ev.now _)))))), ?_⟩
 have w1 := wrap_range (x1 - 20)
 have w2 := wrap_range (x2 * 1048576)
 have w3 := wrap_range (x3 * x4)
 simp only [List.mem_cons, List.not_mem_nil, or_false] at q5
 generalize wrap64 (x1 - 20) = v1 at w1 q5
 generalize wrap64 (x2 * 1048576) = v2 at w2 q5
 generalize wrap64 (x3 * x4) = v3 at w3 q5
 clear e1 e2 e3 e4 e5 e0
 omega
theorem cn_short {n : Int} (h0 : -9223372036854775809 ≤ n) (h1 : n ≤ 9223372036854775809) : (cn n).2.length ≤ 3 :=
 limbs_length_le (k := 3) (show n.natAbs < 16777216 ^ 3 from by omega)
theorem drawInt_key {l : List Int} (hc : Code l) : ∃ s m, Ev (fun k => spec_DrawIntegerOf.f k l) (s, m) ∧ m.length ≤ 300 := by
 unfold spec_DrawIntegerOf.f
 obtain ⟨h, e0⟩ := from_key hc
 obtain ⟨y, a1, h1, e1, p1, q1⟩ := next_key hc 0 h 4 (by omega)
 by_cases y0 : y = 0
 ·obtain ⟨n, e2, n0, n1⟩ := drawWhole_key hc
  have hO := l02Of n0 n1
  have hN := cn_short (n := n) (by omega) (by omega)
  refine ⟨(cn n).1, (cn n).2, Ev.bind e0 (Ev.as (fun k => obind e1 _) ?_), by omega⟩
  simp only [if_pos y0]
  exact Ev.bind e2 (Ev.bind (f := fun _ bt => some (bt.1, bt.2)) hO (Ev.now _))
 by_cases y1 : y = 1
 ·obtain ⟨x, a2, h2, e2, p2, q2⟩ := pick_key hc a1 h1 p1 [9223372036854775807, (-9223372036854775808)] (by simp)
  obtain ⟨r, a3, h3, e3, p3, q3⟩ := next_key hc a2 h2 3 p2
  have q3 := q3 (by omega)
  have hx : x = 9223372036854775807 ∨ x = -9223372036854775808 := by simpa using q2
  have hO := l02Of (x := x) (by omega) (by omega)
  have hP := l02Of (x := r - 1) (by omega) (by omega)
  have hw : wrap64 (r - 1) = r - 1 := w64s (by omega) (by omega)
  have l1 := cn_short (n := x) (by omega) (by omega)
  have l2 := cn_short (n := r - 1) (by omega) (by omega)
  have hA := l02Add (cw_cn x) (cw_cn (r - 1)) (by omega) (by omega)
  rw [wv_cn, wv_cn] at hA
  have hN := cn_short (n := x + (r - 1)) (by omega) (by omega)
  refine ⟨(cn (x + (r - 1))).1, (cn (x + (r - 1))).2, Ev.bind e0 (Ev.as (fun k => obind e1 _) ?_), by omega⟩
  simp only [if_neg y0, if_pos y1]
  refine Ev.as (fun k => obind e2 _) (Ev.bind hO (Ev.as (fun k => obind e3 _) ?_))
  simp only [hw]
  exact Ev.bind hP (Ev.bind (f := fun _ bt => some (bt.1, bt.2)) hA (Ev.now _))
 ·obtain ⟨s, m, a2, h2, e2, p2, q2⟩ := spoil_key hc a1 h1 p1
  refine ⟨s, m, Ev.bind e0 (Ev.as (fun k => obind e1 _) ?_), q2⟩
  simp only [if_neg y0, if_neg y1]
  exact Ev.bind (f := fun _ bt => some (bt.1, bt.2.1)) e2 (Ev.now _)
theorem bfit_zero {op : Int → Int → Int} {s t r1 : Int} {l m r2 : List Int} (h : bfit op s l t m = (r1, r2, 0)) : isW s l = true ∧ isW t m = true ∧ (r1, r2) = cn (op (wv s l) (wv t m)) ∧ r2.length ≤ 200 := by
 unfold bfit at h
 cases h1 : isW s l
 ·rw [h1] at h
  simp at h
 ·cases h2 : isW t m
  ·rw [h1, h2] at h
   simp at h
  ·rw [h1, h2, Bool.and_self, if_pos rfl, wfit_cn] at h
   by_cases g : (limbs (op (wv s l) (wv t m)).natAbs).length ≤ 200
   ·rw [if_pos g] at h
    simp only [Prod.mk.injEq, and_true] at h
    obtain ⟨rfl, rfl⟩ := h
    exact ⟨rfl, rfl, rfl, g⟩
   ·rw [if_neg g] at h
    simp at h
theorem wfit_of {n : Int} (h : (limbs n.natAbs).length ≤ 200) : wfit n = (sgn n, limbs n.natAbs, 0) := by rw [wfit_cn, if_pos h]
theorem cn_isW {n : Int} (h : (limbs n.natAbs).length ≤ 200) : isW (cn n).1 (cn n).2 = true := cw_isW (cw_cn n) h
theorem bfit_cn (op : Int → Int → Int) {a b : Int} (ha : (limbs a.natAbs).length ≤ 200) (hb : (limbs b.natAbs).length ≤ 200) (h : (limbs (op a b).natAbs).length ≤ 200) :
  bfit op (cn a).1 (cn a).2 (cn b).1 (cn b).2 = ((cn (op a b)).1, (cn (op a b)).2, 0) := by
 unfold bfit
 rw [cn_isW ha, cn_isW hb, Bool.and_self, if_pos rfl, wv_cn, wv_cn, wfit_of h]
 rfl
theorem len_mono {a b : Int} (h : a.natAbs ≤ b.natAbs) {k : Nat} (hb : (limbs b.natAbs).length ≤ k) : (limbs a.natAbs).length ≤ k := by
 rw [limbs_len_iff, blen_le] at hb ⊢
 omega
theorem isW_cn {s : Int} {l : List Int} (h : isW s l = true) : ∃ n, s = (cn n).1 ∧ l = (cn n).2 ∧ wv s l = n ∧ (limbs n.natAbs).length ≤ 200 := by
 have hc := isW_cw h
 have e := hc.eq
 refine ⟨wv s l, congrArg Prod.fst e, congrArg Prod.snd e, rfl, ?_⟩
 have e2 : l = (cn (wv s l)).2 := congrArg Prod.snd e
 have e3 : limbs (wv s l).natAbs = l := e2.symm
 rw [e3]
 exact isW_len h
theorem sq_sgn (n : Int) : wrap64 (sgn n * sgn n) = (cn (n.natAbs : Int)).1 := by
 unfold cn sgn
 simp only [Int.natAbs_natCast]
 by_cases h1 : n < 0
 ·rw [if_pos h1, if_neg (by omega), if_neg (by omega), show (-1 : Int) * -1 = 1 from by decide]
  exact w64s (by omega) (by omega)
 ·by_cases h2 : n = 0
  ·rw [if_neg h1, if_pos h2, if_neg (by omega), if_pos (by omega), show (0 : Int) * 0 = 0 from by decide]
   exact w64s (by omega) (by omega)
  ·rw [if_neg h1, if_neg h2, if_neg (by omega), if_neg (by omega), show (1 : Int) * 1 = 1 from by decide]
   exact w64s (by omega) (by omega)
theorem one_sgn {n : Int} (h : n ≠ 0) : (1 : Int) = (cn (n.natAbs : Int)).1 := by
 unfold cn sgn
 simp only
 rw [if_neg (by omega), if_neg (by omega)]
theorem abs_limbs (n : Int) : limbs n.natAbs = (cn (n.natAbs : Int)).2 := by
 unfold cn
 simp only [Int.natAbs_natCast]
theorem cmp_abs {a b : Int} (ha : (limbs a.natAbs).length ≤ 200) (hb : (limbs b.natAbs).length ≤ 200) (hn : b ≠ 0) (h : a.natAbs < b.natAbs) :
  impl_CompareWholes.f (wrap64 (sgn a * sgn a)) (limbs a.natAbs) 1 (limbs b.natAbs) = some (-1, 0) := by
 rw [implCompareWholes _ _ _ _ (by omega) (by omega), sq_sgn]
 have e1 : isW (cn (a.natAbs : Int)).1 (limbs a.natAbs) = true := by
  rw [abs_limbs a]
  exact cn_isW (by rw [Int.natAbs_natCast]; exact ha)
 have e2 : isW 1 (limbs b.natAbs) = true := by
  rw [one_sgn hn, abs_limbs b]
  exact cn_isW (by rw [Int.natAbs_natCast]; exact hb)
 have v1 : wv (cn (a.natAbs : Int)).1 (limbs a.natAbs) = (a.natAbs : Int) := by rw [abs_limbs a, wv_cn]
 have v2 : wv 1 (limbs b.natAbs) = (b.natAbs : Int) := by rw [one_sgn hn, abs_limbs b, wv_cn]
 rw [e1, e2, v1, v2, Bool.and_self, if_pos rfl]
 have : sgn ((a.natAbs : Int) - (b.natAbs : Int)) = -1 := by
  unfold sgn
  rw [if_pos (by omega)]
 rw [this]
theorem sgn_cases (n : Int) : sgn n = -1 ∧ n < 0 ∨ sgn n = 0 ∧ n = 0 ∨ sgn n = 1 ∧ 0 < n := by
 unfold sgn
 by_cases h1 : n < 0
 ·rw [if_pos h1]
  exact .inl ⟨rfl, h1⟩
 ·by_cases h2 : n = 0
  ·rw [if_neg h1, if_pos h2]
   exact .inr (.inl ⟨rfl, h2⟩)
  ·rw [if_neg h1, if_neg h2]
   exact .inr (.inr ⟨rfl, by omega⟩)
theorem sgn_tmod (n d : Int) : sgn (Int.tmod n d) = 0 ∨ sgn (Int.tmod n d) = sgn n := by
 have h1 : 0 ≤ n → 0 ≤ Int.tmod n d := fun h => Int.tmod_nonneg _ h
 have h2 : n ≤ 0 → Int.tmod n d ≤ 0 := fun h => by
  have := Int.tmod_nonneg d (show 0 ≤ -n from by omega)
  rw [Int.neg_tmod] at this
  omega
 generalize Int.tmod n d = r at h1 h2
 rcases sgn_cases n with ⟨a, b⟩ | ⟨a, b⟩ | ⟨a, b⟩ <;> rcases sgn_cases r with ⟨c, e⟩ | ⟨c, e⟩ | ⟨c, e⟩ <;> omega
theorem knownA {l : List Int} (hc : Code l) : ∃ (sa : Int) (la : List Int) (sb : Int) (lb : List Int) (sq : Int) (lq : List Int) (sr : Int) (lr : List Int) (e : Int) (bw : Bool), KnownFnWholesA l sa la sb lb sq lq sr lr e bw := by
 obtain ⟨s, la, t, lb, e0, h1, h2⟩ := two_key hc
 obtain ⟨q1, q2, q3, q4, q5, hR⟩ : ∃ r1 r2 r3 r4 r5, divres s la t lb = (r1, r2, r3, r4, r5) := ⟨_, _, _, _, _, rfl⟩
 have hq := divres_length s la t lb
 rw [hR] at hq
 simp only at hq
 refine ⟨s, la, t, lb, q1, q2, q3, q4, q5, isW s la, ?_⟩
 refine { f0 := ev_one ?_, f1 := by rw [implDivideWholes s la t lb (by omega) (by omega), hR], f2 := by rw [← hR]; exact ev_one (specDivideWholes s la t lb (by omega) (by omega)), f3 := ev_one (whole5 _ (by omega)), f4 := ev_one (whole5 _ (by omega)), f5 := implIsWhole s la (by omega), f6 := ev_one ?_, f7 := ?_ }
 ·unfold spec_DrawDivideWholes.f
  exact Ev.bind (f := fun _ bt => some (bt.1, bt.2.1, bt.2.2.1, bt.2.2.2)) e0 (Ev.now _)
 ·unfold spec_IsWhole.f
  exact Ev.bind (f := fun _ t => some t) (l02Is s la (by omega)) (Ev.now _)
 ·intro h0
  subst h0
  unfold divres at hR
  cases w1 : isW s la
  ·rw [w1] at hR
   simp at hR
  cases w2 : isW t lb
  ·rw [w1, w2] at hR
   simp at hR
  rw [w1, w2, Bool.and_self, if_pos rfl] at hR
  by_cases t0 : t = 0
  ·rw [if_pos t0] at hR
   simp at hR
  rw [if_neg t0] at hR
  simp only [Prod.mk.injEq, and_true] at hR
  obtain ⟨r1, r2, r3, r4⟩ := hR
  obtain ⟨n, n1, n2, n3, n4⟩ := isW_cn w1
  obtain ⟨d, d1, d2, d3, d4⟩ := isW_cn w2
  rw [n3, d3] at r1 r2 r3 r4
  have hd : d ≠ 0 := by
   intro h
   rw [h] at d1
   exact t0 d1
  have hqa : (Int.tdiv n d).natAbs = n.natAbs / d.natAbs := Int.natAbs_tdiv n d
  have hra : (Int.tmod n d).natAbs = n.natAbs % d.natAbs := Int.natAbs_tmod n d
  have hdp : 0 < d.natAbs := by omega
  have hq1 : (Int.tdiv n d).natAbs ≤ n.natAbs := by rw [hqa]; exact Nat.div_le_self _ _
  have hq2 : (Int.tdiv n d * d).natAbs ≤ n.natAbs := by rw [Int.natAbs_mul, hqa]; exact Nat.div_mul_le_self _ _
  have hr1 : (Int.tmod n d).natAbs < d.natAbs := by rw [hra]; exact Nat.mod_lt _ hdp
  have hsum : Int.tdiv n d * d + Int.tmod n d = n := by rw [Int.mul_comm, Int.add_comm]; exact Int.tmod_add_mul_tdiv n d
  have hsg := sgn_tmod n d
  generalize Int.tdiv n d = Q at r1 r2 hq1 hq2 hsum
  generalize Int.tmod n d = R at r3 r4 hr1 hsum hsg
  have lQ := len_mono hq1 n4
  have lP := len_mono hq2 n4
  have lR := len_mono (Nat.le_of_lt hr1) d4
  have eM := bfit_cn (fun n k => n * k) lQ d4 lP
  have eA := bfit_cn (fun n k => n + k) lP lR (by rw [hsum]; exact n4)
  simp only [hsum] at eA
  have g1 : q1 = (cn Q).1 := r1.symm
  have g2 : q2 = (cn Q).2 := r2.symm
  have g3 : q3 = (cn R).1 := r3.symm
  have g4 : q4 = (cn R).2 := r4.symm
  have lens : ∀ z : Int, (limbs z.natAbs).length ≤ 200 → (cn z).2.length ≤ 1000000000 := fun z h => Nat.le_trans h (by omega)
  refine ⟨(cn (Q * d)).1, (cn (Q * d)).2, { f0 := ?_, f1 := ?_, f2 := ev_one (whole5 _ (by omega)), f3 := ?_, f4 := ?_ }⟩
  ·rw [g1, g2, d1, d2, implMultiplyWholes _ _ _ _ (lens Q lQ) (lens d d4), eM]
  ·rw [g3, g4, n1, n2, implAddWholes _ _ _ _ (lens _ lP) (lens R lR), eA]
  ·rw [g3, n1]
   exact hsg
  ·rw [g3, g4, d2]
   exact cmp_abs lR d4 hd hr1
theorem knownB {l : List Int} (hc : Code l) : ∃ (sc : Int) (lc : List Int) (sd : Int) (ld : List Int) (su : Int) (lu : List Int) (sv : Int) (lv : List Int) (e6 e8 o e10 : Int), KnownFnWholesB l sc lc sd ld su lu sv lv e6 e8 o e10 := by
 obtain ⟨s, la, t, lb, e0, h1, h2⟩ := two_key hc
 obtain ⟨u1, u2, u3, hU⟩ : ∃ r1 r2 r3, bfit (fun n k => n + k) s la t lb = (r1, r2, r3) := ⟨_, _, _, rfl⟩
 obtain ⟨v1, v2, v3, hV⟩ : ∃ r1 r2 r3, bfit (fun n k => n - k) s la t lb = (r1, r2, r3) := ⟨_, _, _, rfl⟩
 obtain ⟨o, e10, hO⟩ : ∃ r1 r2, (if isW s la && isW t lb then (sgn (wv s la - wv t lb), (0 : Int)) else (0, 1)) = (r1, r2) := ⟨_, _, rfl⟩
 have bl : ∀ op : Int → Int → Int, (bfit op s la t lb).2.1.length ≤ 200 := by
  intro op
  unfold bfit
  split
  ·rw [wfit_cn]
   split
   ·assumption
   ·simp
  ·simp
 have lU := bl (fun n k => n + k)
 have lV := bl (fun n k => n - k)
 rw [hU] at lU
 rw [hV] at lV
 simp only at lU lV
 refine ⟨s, la, t, lb, u1, u2, v1, v2, u3, v3, o, e10, { f0 := ev_one ?_, f1 := by rw [implAddWholes s la t lb (by omega) (by omega), hU], f2 := by rw [← hU]; exact ev_one (specAddWholes s la t lb (by omega) (by omega)), f3 := by rw [implSubtractWholes s la t lb (by omega) (by omega), hV], f4 := by rw [← hV]; exact ev_one (specSubtractWholes s la t lb (by omega) (by omega)), f5 := by rw [implCompareWholes s la t lb (by omega) (by omega), hO], f6 := ev_one (whole5 _ (by omega)), f7 := ev_one (whole5 _ (by omega)), f8 := ?_, f9 := ?_ }⟩
 ·unfold spec_DrawAddWholes.f
  exact Ev.bind (f := fun _ bt => some (bt.1, bt.2.1, bt.2.2.1, bt.2.2.2)) e0 (Ev.now _)
 ·intro h0
  subst h0
  obtain ⟨w1, w2, g, gl⟩ := bfit_zero hU
  obtain ⟨n, n1, n2, n3, n4⟩ := isW_cn w1
  obtain ⟨d, d1, d2, d3, d4⟩ := isW_cn w2
  rw [n3, d3] at g
  have g1 : u1 = (cn (n + d)).1 := congrArg Prod.fst g
  have g2 : u2 = (cn (n + d)).2 := congrArg Prod.snd g
  have lS : (limbs (n + d).natAbs).length ≤ 200 := by
   have : (cn (n + d)).2.length ≤ 200 := by rw [← g2]; exact gl
   exact this
  have hs : n + d - d = n := by omega
  have eS := bfit_cn (fun n k => n - k) lS d4 (by rw [hs]; exact n4)
  simp only [hs] at eS
  refine ⟨?_, ev_one (whole5 _ (by omega))⟩
  rw [g1, g2, d1, d2, n1, n2, implSubtractWholes _ _ _ _ (show (cn (n + d)).2.length ≤ 1000000000 from Nat.le_trans lS (by omega)) (show (cn d).2.length ≤ 1000000000 from Nat.le_trans d4 (by omega)), eS]
 ·intro h0
  subst h0
  obtain ⟨w1, w2, g, gl⟩ := bfit_zero hV
  rw [w1, w2, Bool.and_self, if_pos rfl, Prod.mk.injEq] at hO
  refine ⟨hO.2.symm, ?_⟩
  have g1 : v1 = sgn (wv s la - wv t lb) := congrArg Prod.fst g
  rw [← hO.1, g1]
theorem knownC {l : List Int} (hc : Code l) : ∃ (n : Int) (sm : Int) (lm : List Int), KnownFnWholesC l n sm lm := by
 obtain ⟨n, e0, n0, n1⟩ := drawWhole_key hc
 have hl := cn_short (n := n) (by omega) (by omega)
 have hl' : (limbs n.natAbs).length ≤ 200 := Nat.le_trans hl (by omega)
 have hw := cn_isW hl'
 refine ⟨n, (cn n).1, (cn n).2, { f0 := ev_one e0, f1 := implWholeOf n0 n1, f2 := ?_, f3 := by rw [implIsWhole _ _ (by omega), hw] }⟩
 rw [implIntegerOf _ _ (by omega), hw, if_pos rfl, wv_cn, if_pos]
 unfold fits64
 rw [decide_eq_true n0, decide_eq_true n1]
 rfl
theorem knownD {l : List Int} (hc : Code l) : ∃ (sg : Int) (lg : List Int) (y e14 : Int), KnownFnWholesD l sg lg y e14 := by
 obtain ⟨s, m, e0, h1⟩ := drawInt_key hc
 obtain ⟨y, e, hY⟩ : ∃ r1 r2, (if isW s m then (if fits64 (wv s m) then (wv s m, (0 : Int)) else (0, 3)) else (0, 1)) = (r1, r2) := ⟨_, _, rfl⟩
 exact ⟨s, m, y, e, { f0 := ev_one e0, f1 := by rw [implIntegerOf s m (by omega), hY], f2 := by rw [← hY]; exact ev_one (specIntegerOf s m (by omega)) }⟩
theorem callsWholes (A : Option Addr) (c : Nat) (l : List Int) (w : World) (hr : Kd.C (Kd.int .u8) w A l.length l) (hc : l.length ≤ c) (hl : l.length ≤ 140737488351232) (hb : ∀ x ∈ l, 0 ≤ x ∧ x < 256) (_hT : Tab w) :
  Calls Tryd.prog 3 #[.slice A l.length c] w fun x w' => x = .returned (.bool true) ∧ Below w.heap.size w w' :=
 have hC : Code l := ⟨hl, hb⟩
 walk_FnWholes w A c l hr hc (fun _ => ⟨knownA hC, knownB hC, knownC hC, knownD hC⟩)
end Go.Proofs.YtlkomiiijhphnaaDoor.Pur
