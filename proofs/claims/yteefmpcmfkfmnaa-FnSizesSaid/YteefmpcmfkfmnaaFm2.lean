/- Products of conjugates, powers and products of lists, scaling there and back: plain facts. No conditions beyond those of each theorem. -/
import Derived.Test.YteefmpcmfkfmnaaFm1
import Derived.Test.YteefmpcmfkfmnaaFl1
namespace Go.Proofs.Yteefmpcmfkfmnaa.Fx
open Go Ieee Go.Proofs.Yteefmpcmfkfmnaa Go.Proofs.Yteefmpcmfkfmnaa.Fl
set_option linter.unusedVariables false
set_option linter.unusedSimpArgs false

theorem word_lt (s : Bool) {r : Nat} (h : r ≤ 9218868437227405312) : double.word s r < 2 ^ 64 := by
  unfold Format.word
  rw [sw]
  split <;> omega
theorem word_neg (s : Bool) {r : Nat} (h : r ≤ 9218868437227405312) : double.word (!s) r = Op.negFloat .f64 (double.word s r) := by
  rw [neg_eq (word_lt s h)]
  unfold Format.word
  rw [sw]
  cases s
  · simp; omega
  · simp; omega
theorem nearest_neg (s : Bool) (m : Nat) (p : Int) : double.nearest (!s) m p = Op.negFloat .f64 (double.nearest s m p) := by
  by_cases hm : m = 0
  · subst hm
    rw [zero_nearest, zero_nearest]
    exact word_neg s (by omega)
  · rw [nearest_def _ hm, nearest_def _ hm, cut_sign (!s) s]
    exact word_neg s (Nat.min_le_right _ _)
theorem write_opp {d : Datum} (h : d.isNaN = false) : double.write d.opposite = Op.negFloat .f64 (double.write d) := by
  cases d with
  | number s m p => exact nearest_neg s m p
  | infinity s => exact word_neg s (by rw [ir]; exact Nat.le_refl _)
  | nan s t => cases h
theorem product_opp (d e : Datum) : d.product e.opposite = (d.product e).map Datum.opposite := by
  cases d <;> cases e <;> simp only [Datum.product, Datum.opposite, Option.map_none, Option.map_some]
  · congr 2; rename_i s _ _ t _ _; cases s <;> cases t <;> rfl
  · split <;> simp; rename_i s _ _ t _; cases s <;> cases t <;> rfl
  · split <;> simp; rename_i s t _ _ _; cases s <;> cases t <;> rfl
  · congr 2; rename_i s t; cases s <;> cases t <;> rfl
theorem fb_mul_neg {x y : Nat} (hy : y < 2 ^ 64) : fb .mul x (Op.negFloat .f64 y) = (fb .mul x y).map (Op.negFloat .f64) := by
  show ((double.read x).product (double.read (Op.negFloat .f64 y))).map double.write = (((double.read x).product (double.read y)).map double.write).map _
  rw [read_neg hy, product_opp]
  cases hp : (double.read x).product (double.read y) with
  | none => rfl
  | some d =>
    simp only [Option.map_some]
    rw [write_opp (product_notnan hp)]
theorem neg_neg {y : Nat} (hy : y < 2 ^ 64) : Op.negFloat .f64 (Op.negFloat .f64 y) = y := by
  show (y ^^^ 2 ^ 63) ^^^ 2 ^ 63 = y
  rw [Nat.xor_assoc, Nat.xor_self, Nat.xor_zero]
theorem neg_lt' {x : Nat} (h : x < 2 ^ 64) : Op.negFloat .f64 x < 2 ^ 64 := Nat.xor_lt_two_pow h (by decide)
theorem fb_lt {op : BinOp} {x y r : Nat} (h : fb op x y = some r) : r < 2 ^ 64 := by
  unfold fb floatBits at h
  split at h
  · exact double.add_lt h
  · exact double.sub_lt h
  · exact double.mul_lt h
  · exact double.div_lt h
  · cases h
theorem fb_neg_mul {x y : Nat} (hx : x < 2 ^ 64) : fb .mul (Op.negFloat .f64 x) y = (fb .mul x y).map (Op.negFloat .f64) := by
  rw [fb_mul_comm, fb_mul_neg hx, fb_mul_comm]
theorem fb_neg_neg {x y : Nat} (hx : x < 2 ^ 64) (hy : y < 2 ^ 64) : fb .mul (Op.negFloat .f64 x) (Op.negFloat .f64 y) = fb .mul x y := by
  rw [fb_mul_neg hy, fb_neg_mul hx]
  cases h : fb .mul x y with
  | none => rfl
  | some r => simp only [Option.map_some]; rw [neg_neg (fb_lt h)]
theorem U_neg {x : Nat} (hx : x < 2 ^ 64) (h : isFin x = true) : U (Op.negFloat .f64 x) = -U x := by
  obtain ⟨s, m, p, h1, h2, h3, h4, h5, h6⟩ := U_bound h
  have : double.read (Op.negFloat .f64 x) = .number (!s) m p := by rw [read_neg hx, h1]; rfl
  rw [U_of this, h6, signed_eq, signed_eq]
  cases s <;> simp
/-- A finite sum has finite terms. -/
theorem fin_terms {x y r : Nat} (h : fb .add x y = some r) (hf : isFin r = true) : isFin x = true ∧ isFin y = true := by
  have hw : ∀ s, isFin (double.write (.infinity s)) = false := by intro s; cases s <;> decide
  have h' : ((double.read x).sum (double.read y)).map double.write = some r := h
  cases hx : double.read x <;> cases hy : double.read y <;> rw [hx, hy] at h' <;> simp only [Datum.sum, Option.map_none, Option.map_some] at h' <;> first | (cases h'; done) | skip
  · exact ⟨fin_of hx, fin_of hy⟩
  · rw [← Option.some.inj h', hw] at hf; cases hf
  · rw [← Option.some.inj h', hw] at hf; cases hf
  · split at h'
    · simp only [Option.map_some] at h'
      rw [← Option.some.inj h', hw] at hf; cases hf
    · cases h'
theorem order_refl {a b : Nat} (ha : isFin a = true) (hb : isFin b = true) (h : U a = U b) : FloatKind.f64.format.order a b = some .eq := (gt_U hb ha).2.2.2 h
/-- The sum of the opposites is the opposite of the sum, up to the sign of 0. -/
theorem fb_add_neg {x y r : Nat} (hx : x < 2 ^ 64) (hy : y < 2 ^ 64) (h : fb .add x y = some r) (hf : isFin r = true) :
    ∃ r', fb .add (Op.negFloat .f64 x) (Op.negFloat .f64 y) = some r' ∧ isFin r' = true ∧ FloatKind.f64.format.order r' (Op.negFloat .f64 r) = some .eq := by
  obtain ⟨fx, fy⟩ := fin_terms h hf
  have fx' : isFin (Op.negFloat .f64 x) = true := by rw [isFin_neg hx]; exact fx
  have fy' : isFin (Op.negFloat .f64 y) = true := by rw [isFin_neg hy]; exact fy
  have hr := fb_lt h
  have fr' : isFin (Op.negFloat .f64 r) = true := by rw [isFin_neg hr]; exact hf
  obtain ⟨s, e1, e2⟩ := add_U fx fy
  obtain ⟨t, g1, g2⟩ := add_U fx' fy'
  rw [U_neg hx fx, U_neg hy fy] at g1 g2
  rw [e1] at h
  have h := Option.some.inj h
  have hT : (-U x + -U y).natAbs = (U x + U y).natAbs := by omega
  rw [hT] at g1
  refine ⟨_, g1, ?_⟩
  by_cases h0 : U x + U y = 0
  · have : (U x + U y).natAbs = 0 := by omega
    rw [this, zero_nearest] at h ⊢
    obtain ⟨z1, z2⟩ := zero_word t
    refine ⟨z1, order_refl z1 fr' ?_⟩
    rw [U_neg hr hf, ← h, z2, (zero_word s).2]
    rfl
  · have hs := e2 h0
    have ht := g2 (by omega)
    have hst : t = !s := by
      rw [hs, ht]
      by_cases hl : U x + U y < 0
      · rw [decide_eq_true hl, decide_eq_false (by omega)]; rfl
      · rw [decide_eq_false hl, decide_eq_true (by omega)]; rfl
    rw [hst, nearest_neg, h]
    exact ⟨fr', order_refl fr' fr' rfl⟩
theorem fb_mul_some {x y : Nat} (hx : isFin x = true) (hy : isFin y = true) : ∃ r, fb .mul x y = some r := by
  obtain ⟨s, m, p, h1, _⟩ := U_bound hx
  obtain ⟨t, n, q, g1, _⟩ := U_bound hy
  refine ⟨double.nearest (s ^^ t) (m * n) (p + q), ?_⟩
  show ((double.read x).product (double.read y)).map double.write = _
  rw [h1, g1]
  rfl
theorem can_fin {x : Nat} (h : isFin x = true) : can x = some x := by
  unfold can
  rw [isN_fin h]
  rfl
/-- The product of conjugates is the conjugate of the product, up to the sign of 0. -/
theorem conj_mul {a b c d r i : Nat} (ha : a < 2 ^ 64) (hb : b < 2 ^ 64) (hc : c < 2 ^ 64) (hd : d < 2 ^ 64) (h : wide2 mulO a b c d = (r, i, 0)) :
    (isFin a && isFin b) = true ∧ (isFin c && isFin d) = true ∧ isFin r = true ∧ isFin i = true ∧ i < 2 ^ 64 ∧ ∃ i', wide2 mulO a (Op.negFloat .f64 b) c (Op.negFloat .f64 d) = (r, i', 0) ∧ isFin i' = true ∧ FloatKind.f64.format.order i' (Op.negFloat .f64 i) = some .eq := by
  unfold wide2 at h
  cases h1 : (isFin a && isFin b)
  · rw [h1] at h; simp at h
  cases h2 : (isFin c && isFin d)
  · rw [h1, h2] at h; simp at h
  rw [h1, h2, if_pos rfl, if_pos rfl] at h
  rw [Bool.and_eq_true] at h1 h2
  have fb' : isFin (Op.negFloat .f64 b) = true := by rw [isFin_neg hb]; exact h1.2
  have fd' : isFin (Op.negFloat .f64 d) = true := by rw [isFin_neg hd]; exact h2.2
  have e1 := can_fin h1.1
  have e2 := can_fin h1.2
  have e3 := can_fin h2.1
  have e4 := can_fin h2.2
  have e5 := can_fin fb'
  have e6 := can_fin fd'
  obtain ⟨P, hP⟩ := fb_mul_some h1.1 h2.2
  obtain ⟨Q, hQ⟩ := fb_mul_some h1.2 h2.1
  have hm : mulO a b c d = (fop .sub (fb .mul a c) (fb .mul b d), fb .add P Q) := by
    unfold mulO fop
    simp only [e1, e2, e3, e4, Option.bind_some, hP, hQ]
  have hm' : mulO a (Op.negFloat .f64 b) c (Op.negFloat .f64 d) = (fop .sub (fb .mul a c) (fb .mul b d), fb .add (Op.negFloat .f64 P) (Op.negFloat .f64 Q)) := by
    unfold mulO fop
    simp only [e1, e3, e5, e6, Option.bind_some]
    rw [fb_neg_neg hb hd, fb_mul_neg hd, fb_neg_mul hb, hP, hQ]
    rfl
  rw [hm] at h
  cases k1 : fop .sub (fb .mul a c) (fb .mul b d) with
  | none => rw [k1] at h; simp [fitO] at h
  | some u =>
    cases k2 : fb .add P Q with
    | none => rw [k1, k2] at h; simp [fitO] at h
    | some v =>
      rw [k1, k2] at h
      simp only [fitO, fit] at h
      cases k3 : (isFin u && isFin v)
      · rw [k3] at h; simp at h
      rw [k3, if_pos rfl] at h
      simp only [Prod.mk.injEq, and_true] at h
      obtain ⟨rfl, rfl⟩ := h
      rw [Bool.and_eq_true] at k3
      obtain ⟨i', g1, g2, g3⟩ := fb_add_neg (fb_lt hP) (fb_lt hQ) k2 k3.2
      refine ⟨by simp [h1], by simp [h2], k3.1, k3.2, fb_lt k2, i', ?_, g2, g3⟩
      unfold wide2
      rw [h1.1, fb', h2.1, fd', hm', k1, g1]
      simp [fitO, fit, k3.1, g2]
/-- One step of a product or sum: none where it leaves the finite numbers. -/
def stp (f : Nat → Nat → Nat → Nat → Option Nat × Option Nat) (p q c d : Nat) : Option (Nat × Nat) := match (f p q c d).1, (f p q c d).2 with
  | some r, some i => if isFin r && isFin i then some (r, i) else none
  | _, _ => none
theorem stp_of {f : Nat → Nat → Nat → Nat → Option Nat × Option Nat} {p q c d r i : Nat} (hr : can r = (f p q c d).1) (hi : can i = (f p q c d).2) : stp f p q c d = if isFin r && isFin i then some (r, i) else none := by
  unfold stp
  rw [← hr, ← hi]
  cases h1 : can r with
  | none => simp [isFin_nan h1]
  | some x =>
    cases h2 : can i with
    | none => simp [isFin_nan h2]
    | some y => rw [can_some h1, can_some h2]
def itO (f : Nat → Nat → Nat → Nat → Option Nat × Option Nat) : Nat → Nat → List (Nat × Nat) → Option (Nat × Nat)
  | p, q, [] => some (p, q)
  | p, q, z :: zs => (stp f p q z.1 z.2).bind fun o => itO f o.1 o.2 zs
def itR (o : Option (Nat × Nat)) : Nat × Nat × Int := match o with
  | some (r, i) => (r, i, 0)
  | none => (0, 0, 3)
def powW (a b : Nat) (k : Int) : Nat × Nat × Int :=
  if isFin a && isFin b then (if 0 ≤ k ∧ k ≤ 64 then itR (itO mulO 4607182418800017408 0 (List.replicate k.toNat (a, b))) else (0, 0, 2)) else (0, 0, 1)
def finL (zs : List (Nat × Nat)) : Bool := zs.all fun z => isFin z.1 && isFin z.2
def listW (f : Nat → Nat → Nat → Nat → Option Nat × Option Nat) (p q : Nat) (zs : List (Nat × Nat)) : Nat × Nat × Int :=
  if 100 < zs.length then (0, 0, 2) else if finL zs then itR (itO f p q zs) else (0, 0, 1)
theorem pow_list {a b : Nat} {k : Int} {r i : Nat} (h : powW a b k = (r, i, 0)) : 0 ≤ k ∧ k ≤ 64 ∧ listW mulO 4607182418800017408 0 (List.replicate k.toNat (a, b)) = (r, i, 0) := by
  unfold powW at h
  cases h1 : (isFin a && isFin b)
  · rw [h1] at h; simp at h
  rw [h1, if_pos rfl] at h
  by_cases hk : 0 ≤ k ∧ k ≤ 64
  · rw [if_pos hk] at h
    refine ⟨hk.1, hk.2, ?_⟩
    unfold listW finL
    rw [List.length_replicate, if_neg (by omega)]
    have : (List.replicate k.toNat (a, b)).all (fun z => isFin z.1 && isFin z.2) = true := by
      rw [List.all_eq_true]
      intro z hz
      rw [List.eq_of_mem_replicate hz]
      exact h1
    rw [this, if_pos rfl]
    exact h
  · rw [if_neg hk] at h; simp at h
/-- So many times. -/
def rep (f : Option Nat → Option Nat) : Nat → Option Nat → Option Nat
  | 0, o => o
  | n + 1, o => rep f n (f o)
theorem rep_snoc (f : Option Nat → Option Nat) (n : Nat) : ∀ o, rep f (n + 1) o = f (rep f n o) := by
  induction n with
  | zero => intro o; rfl
  | succ n ih => intro o; exact ih (f o)
def dbl (o : Option Nat) : Option Nat := fop .mul o (some 4611686018427387904)
def hlf (o : Option Nat) : Option Nat := fop .mul o (some 4602678819172646912)
def hlq (o : Option Nat) : Option Nat := fop .quo o (some 4611686018427387904)
theorem dbl_inf {x : Nat} (h : isFin x = false) (hn : isN x = false) : ∃ y, dbl (some x) = some y ∧ isFin y = false ∧ isN y = false := by
  cases hr : double.read x with
  | nan s t => unfold isN at hn; rw [show rd64 x = _ from hr] at hn; cases hn
  | number s m p => rw [fin_of hr] at h; cases h
  | infinity s =>
    refine ⟨double.write (.infinity (s ^^ false)), ?_, ?_, ?_⟩
    · show ((double.read x).product (double.read 4611686018427387904)).map double.write = _
      rw [hr, two_read]
      rfl
    · cases s <;> decide
    · cases s <;> decide
theorem rep_inf (n : Nat) : ∀ {x y : Nat}, isFin x = false → isN x = false → rep dbl n (some x) = some y → isFin y = false := by
  induction n with
  | zero => intro x y h hn hr; rw [← Option.some.inj hr]; exact h
  | succ n ih =>
    intro x y h hn hr
    obtain ⟨z, z1, z2, z3⟩ := dbl_inf h hn
    unfold rep at hr
    rw [z1] at hr
    exact ih z2 z3 hr
theorem rep_back (n : Nat) : ∀ {x y : Nat}, x < 2 ^ 64 → isFin x = true → rep dbl n (some x) = some y → isFin y = true → rep hlf n (some y) = some x := by
  induction n with
  | zero => intro x y hx h hr hy; rw [← Option.some.inj hr]; rfl
  | succ n ih =>
    intro x y hx h hr hy
    unfold rep at hr
    cases hd : fb .mul x 4611686018427387904 with
    | none =>
      obtain ⟨s, m, u, t1, _⟩ := twice h
      rw [t1] at hd
      cases hd
    | some z =>
      have e : dbl (some x) = some z := hd
      rw [e] at hr
      cases hz : isFin z
      · have := rep_inf n hz (fb_notnan hd) hr
        rw [this] at hy
        cases hy
      · have := ih (fb_lt hd) hz hr hy
        rw [rep_snoc, this]
        exact double_back hx h hd hz
theorem hlf_hlq (o : Option Nat) (h : ∀ x, o = some x → isN x = false) : hlf o = hlq o := by
  cases o with
  | none => rfl
  | some x => exact half_eq (h x rfl)
theorem hlq_nan {o : Option Nat} {x : Nat} (h : hlq o = some x) : isN x = false := by
  cases o with
  | none => cases h
  | some y => exact fb_notnan (show fb .quo y 4611686018427387904 = some x from h)
theorem rep_hlq (n : Nat) : ∀ o, (∀ x, o = some x → isN x = false) → rep hlf n o = rep hlq n o := by
  induction n with
  | zero => intro o h; rfl
  | succ n ih =>
    intro o h
    show rep hlf n (hlf o) = rep hlq n (hlq o)
    rw [hlf_hlq o h]
    exact ih _ (fun x hx => hlq_nan hx)
theorem can_isN {x y : Nat} (h : can x = some y) : isN y = false := by
  have := can_some h
  subst this
  unfold can at h
  split at h
  · cases h
  · rename_i g; simpa using g
def scK (k : Int) (o : Option Nat) : Option Nat := if k < 0 then rep hlf (-k).toNat o else rep dbl k.toNat o
def scaleW (a b : Nat) (k : Int) : Nat × Nat × Int :=
  if isFin a && isFin b then (if -2200 ≤ k ∧ k ≤ 2200 then fitO (scK k (can a)) (scK k (can b)) else (0, 0, 2)) else (0, 0, 1)
theorem fitO_zero' {o p : Option Nat} {r i : Nat} (h : fitO o p = (r, i, 0)) : o = some r ∧ p = some i ∧ isFin r = true ∧ isFin i = true := by
  cases o with
  | none => simp [fitO] at h
  | some x =>
    cases p with
    | none => simp [fitO] at h
    | some y =>
      simp only [fitO, fit] at h
      cases k : (isFin x && isFin y)
      · rw [k] at h; simp at h
      · rw [k, if_pos rfl] at h
        simp only [Prod.mk.injEq, and_true] at h
        obtain ⟨rfl, rfl⟩ := h
        rw [Bool.and_eq_true] at k
        exact ⟨rfl, rfl, k.1, k.2⟩
theorem scale_back {a b r i : Nat} {k : Int} (ha : a < 2 ^ 64) (hb : b < 2 ^ 64) (hk : 0 ≤ k) (h : scaleW a b k = (r, i, 0)) : scaleW r i (-k) = (a, b, 0) := by
  unfold scaleW at h
  cases h1 : (isFin a && isFin b)
  · rw [h1] at h; simp at h
  rw [h1, if_pos rfl] at h
  by_cases hk2 : -2200 ≤ k ∧ k ≤ 2200
  · rw [if_pos hk2] at h
    rw [Bool.and_eq_true] at h1
    obtain ⟨q1, q2, q3, q4⟩ := fitO_zero' h
    unfold scK at q1 q2
    rw [if_neg (by omega), can_fin h1.1] at q1
    rw [if_neg (by omega), can_fin h1.2] at q2
    have b1 := rep_back _ ha h1.1 q1 q3
    have b2 := rep_back _ hb h1.2 q2 q4
    unfold scaleW scK
    rw [q3, q4, Bool.and_self, if_pos rfl, if_pos (by omega), can_fin q3, can_fin q4]
    by_cases h0 : -k < 0
    · rw [if_pos h0, Int.neg_neg, if_pos h0, b1, b2]
      simp [fitO, fit, h1]
    · have : k = 0 := by omega
      subst this
      rw [if_neg h0, if_neg h0]
      have z : (0 : Int).toNat = 0 := rfl
      rw [z] at b1 b2
      have c1 : some r = some a := b1
      have c2 : some i = some b := b2
      show fitO (some r) (some i) = _
      rw [c1, c2]
      simp [fitO, fit, h1]
  · rw [if_neg hk2] at h; simp at h
end Go.Proofs.Yteefmpcmfkfmnaa.Fx
