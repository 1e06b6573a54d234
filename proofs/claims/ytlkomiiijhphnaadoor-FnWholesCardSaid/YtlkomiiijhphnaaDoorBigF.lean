/- The walk of divideDigits by one digit. Conditions: both are digits in memory without a zero above, of at most 1000000 digits; the divisor is not 0. -/
import Derived.Test.YtlkomiiijhphnaaDoorBigD
import Derived.Test.YtlkomiiijhphnaaDoorBigE
import Derived.Test.YtlkomiiijhphnaaDoorMathN
import Derived.Deep.DeepCutAuto
import Derived.Deep.CutBlock
import Derived.Deep.RegionWith
import Derived.IntWalk
import Derived.Deep.QuietTactic
import Derived.BigQuiet
import Derived.Test.YtlkomiiijhphnaaDoorG6
/- The walk of divideDigits by more than one digit (Knuth's algorithm D). Conditions: both are digits in memory without a zero above, of at most 1000000 digits; the divisor is not greater. -/
/- The walks of divideDigits as a whole and of QuoRem. Conditions: numbers of at most 500000 digits; the divisor is not 0. -/
/- The walk of Sqrt (Newton's way). Conditions: the pointers lead to bigInts; the number is at least 0 and has at most 1000 digits. -/
namespace Go.Proofs.YtlkomiiijhphnaaDoor.Big
open Go.RowKit Go.Proofs.YtlkomiiijhphnaaDoorW.PrintWords Go.Proofs.YtlkomiiijhphnaaDoorW.PrintLast Go.Proofs.YtlkomiiijhphnaaDoorW.PrintMore Go.Proofs.YtlkomiiijhphnaaDoor.Math
set_option linter.unusedVariables false
set_option linter.unusedSimpArgs false
theorem or_high {a b : Int} (ha : 0 ≤ a ∧ a < 4294967296) (hb : 0 ≤ b ∧ b < 4294967296) : bits .or .u64 (a * 4294967296) b = a * 4294967296 + b := by
 obtain ⟨a, rfl⟩ := Int.eq_ofNat_of_zero_le ha.1
 obtain ⟨b, rfl⟩ := Int.eq_ofNat_of_zero_le hb.1
 have := u64_or_nat (a * 4294967296) b (by omega) (by omega)
 rw [show ((a : Int) * 4294967296) = ((a * 4294967296 : Nat) : Int) from by omega, this, Nat.mul_comm]
 have h2 := Nat.two_pow_add_eq_or_of_lt (b := b) (i := 32) (by omega) a
 rw [show (2 : Nat) ^ 32 = 4294967296 from by decide] at h2
 rw [← h2]
 omega
def Divided (w : World) (xs ys : List Int) (e : Ending) (w' : World) : Prop :=
 ∃ v1 v2 qs rs, e = .returned (.tuple #[v1, v2]) ∧ Digs w' v1 qs ∧ Digs w' v2 rs ∧ Okd qs ∧ Okd rs ∧ val qs = val xs / val ys ∧ val rs = val xs % val ys ∧ qs.length ≤ xs.length ∧ rs.length ≤ xs.length ∧ Below w.heap.size w w'
set_option maxRecDepth 100000 in
set_option maxHeartbeats 2000000 in
theorem divide_less (xs ys : List Int) (vx vy : Value) (w : World) (hx : Digs w vx xs) (hy : Digs w vy ys) (ox : Okd xs) (oy : Okd ys) (tx : Tight xs) (ty : Tight ys) (hb : xs.length ≤ 1000000) (hb2 : ys.length ≤ 1000000) (hlt : val xs < val ys) :
  Calls Tryd.prog 82 #[vx, vy] w (Divided w xs ys) := by
 obtain ⟨A, c, rfl⟩ := hx.shape
 obtain ⟨B, d, rfl⟩ := hy.shape
 have HX := Aside0.mk hx
 have OX := Aside0.mk ox
 have H0 := Aside0.mk (val_nonneg ox)
 have HS := Aside0.mk (show sgn (val xs - val ys) = -1 from sgn_lt hlt)
 have HQ := Aside0.mk (And.intro (Int.ediv_eq_zero_of_lt (val_nonneg ox) hlt) (Int.emod_eq_of_lt (val_nonneg ox) hlt))
 have HC := Aside0.mk (cmpDigits_calls xs ys _ _ w hx hy ox oy tx ty (by omega) (by omega))
 clear hx hy ox oy tx ty hlt
 go_enter Tryd.func82, Tryd.ntmps82
 go_wp2_with fail
 refine HC.out.mono ?_
 rintro e w1 ⟨rfl, hb⟩
 have HB := Aside0.mk hb
 rw [HS.out]
 clear hb
 go_wp2
 go_ret2
 refine ⟨_, _, [], xs, rfl, ?_, HX.out.below HB.out, Okd.nil, OX.out, by rw [HQ.out.1]; rfl, by rw [HQ.out.2], Nat.zero_le _, Nat.le_refl _, HB.out⟩
 exact own_nil _ _ _ _
set_option maxRecDepth 100000 in
set_option maxHeartbeats 4000000 in
theorem divide_short (xs : List Int) (y : Int) (vx vy : Value) (w : World) (hx : Digs w vx xs) (hy : Digs w vy [y]) (ox : Okd xs) (oy : Okd [y]) (tx : Tight xs) (ty : Tight [y]) (hb : xs.length ≤ 1000000) (hge : val [y] ≤ val xs) :
  Calls Tryd.prog 82 #[vx, vy] w (Divided w xs [y]) := by
 obtain ⟨A, c, rfl⟩ := hx.shape
 obtain ⟨g, d, rfl, hg⟩ := hy.form (by simp)
 have hy0 : 0 < y ∧ y < 4294967296 := ⟨by have := oy.head; have h2 := ty (by simp); simp at h2; omega, oy.head.2⟩
 have ev : val [y] = y := by simp [val]
 have HX := Aside0.mk hx
 have HY := Aside0.mk hy
 have OX := Aside0.mk ox
 have HS := Aside0.mk (show ¬ sgn (val xs - val [y]) < 0 from by unfold sgn; rw [if_neg (by omega)]; split <;> omega)
 have HC := Aside0.mk (cmpDigits_calls xs [y] _ _ w hx hy ox oy tx ty (by omega) (by simp))
 have hmk := fun W => run_make_row' (P := Tryd.prog) 46 85 (.int .u32 0) 4 Tryd.underlying46 info32 rfl .i64 .i64 xs.length (by omega) (by omega) W
 have EV := Aside0.mk ev
 have HNE := Aside0.mk (show 1 ≤ xs.length from by cases xs with | nil => (simp only [val] at hge ev; omega) | cons _ _ => simp)
 clear hx hy ox oy tx ty hge ev
 go_enter Tryd.func82, Tryd.ntmps82
 go_wp2_with fail
 refine HC.out.mono ?_
 rintro e w1 ⟨rfl, hb1⟩
 have HB1 := Aside0.mk hb1
 have hs := HS.out
 generalize sgn (val xs - val [y]) = s at hs ⊢
 have D0 := Aside0.mk (Digs.made w1 xs.length (by omega))
 have B0 := Aside0.mk (hb1.alloc hb1.size (.cells (madeCells #[.int .u32 0] xs.length) 85))
 have hg1 := hb1.size
 clear hb1
 go_wp2
 generalize w1.alloc (.cells (madeCells #[.int .u32 0] xs.length) 85) = w2 at D0 B0 ⊢
 generalize w1.heap.size = h at hg1 D0 ⊢
 go_loopw [7, 8] (fun rv i wr => ∃ (k : Nat) (rest : Int), k ≤ xs.length ∧ rv = .int .u64 rest ∧ i = .int .i64 ((k : Int) - 1) ∧ 0 ≤ rest ∧ rest < y ∧
   Aside0 (∃ os, ShortRel xs y k rest os ∧ Digs wr (.slice (some ⟨h, 0, none⟩) xs.length xs.length) os ∧ Below w.heap.size w wr)) (fun _ i _ => (intOf i + 1).toNat)
 case atStart => exact ⟨xs.length, 0, Nat.le_refl _, rfl, rfl, by omega, by omega, ⟨_, ShortRel.start xs hy0.1, D0.out, B0.out⟩⟩
 case round =>
  obtain ⟨k, rest, hk, rfl, rfl, hr0, hr1, ⟨os, hR, hD, hB⟩⟩ := hrel
  have RR := Aside0.mk hR
  have DD := Aside0.mk hD
  have BB := Aside0.mk hB
  clear hR hD hB
  cases k with
  | zero =>
   have hm := Int.emod_eq_of_lt (a := rest) (b := 4294967296) hr0 (by omega)
   have HM := Aside0.mk hm
   clear hm
   rw [show ((0 : Nat) : Int) - 1 = -1 from rfl]
   have HO := Aside0.mk (Digs.one wr rest)
   have DO := Aside0.mk (DD.out.below (below_alloc (Below.refl _ _) (.cells #[.int .u32 rest] 85)))
   have BO := Aside0.mk (BB.out.alloc BB.out.size (.cells #[.int .u32 rest] 85))
   go_wp2
   go_ret2
   have hd := RR.out.done
   refine ⟨_, _, os, [rest], rfl, DO.out, HO.out, RR.out.ok, okd_single (by omega), ?_, ?_, Nat.le_of_eq RR.out.len, ?_, BO.out⟩
   ·rw [EV.out]; exact hd.1
   ·rw [EV.out, ← hd.2]; simp [val]
   ·exact HNE.out
  | succ k =>
   have ek : ((k + 1 : Nat) : Int) - 1 = (k : Int) := by omega
   rw [ek]
   clear ek
   have hlt : k < xs.length := by omega
   obtain ⟨gx, cx, he, hgx⟩ := HX.out.form (by omega)
   obtain ⟨he1, he3⟩ : A = some ⟨gx, 0, none⟩ ∧ c = cx := ⟨(Value.slice.inj he).1, (Value.slice.inj he).2.2⟩
   subst he1 he3
   have hcx := ((HX.out.below BB.out).at_ hlt).1
   have hbx := getD_ok OX.out k
   have hcy := ((HY.out.below BB.out).at_ (k := 0) (by simp)).1
   obtain ⟨o1, o1f⟩ := DD.out.at_ (k := k) (by rw [RR.out.len]; exact hlt)
   obtain ⟨x0, hxe⟩ : ∃ x0, x0 = xs.getD k 0 := ⟨_, rfl⟩
   rw [← hxe] at hcx hbx
   obtain ⟨z0, hze⟩ : ∃ z0, z0 = os.getD k 0 := ⟨_, rfl⟩
   rw [← hze] at o1
   have hor := or_high (a := rest) (b := x0) ⟨hr0, by omega⟩ hbx
   have hst := RR.out.step OX.out hlt (t := rest * 4294967296 + x0) (by rw [hxe])
   obtain ⟨t, ht⟩ : ∃ t, t = rest * 4294967296 + x0 := ⟨_, rfl⟩
   rw [← ht] at hor hst
   obtain ⟨hst1, ⟨ht0, ht1⟩, hq0, hq1⟩ := hst
   have ST := Aside0.mk hst1
   have TT := Aside0.mk ht
   have hdd := (DD.out.put (by rw [RR.out.len]) k (t / y)).1
   have D1 := Aside0.mk hdd
   have B1 := Aside0.mk (BB.out.setCell (show w.heap.size ≤ (⟨h, k, none⟩ : Addr).block from hg1) (.int .u32 (t / y)))
   clear hst1 hxe hze hdd ht
   go_wp2
   go_roundw
   case rel => exact ⟨k, t % y, by omega, rfl, rfl, Int.emod_nonneg _ (by omega), Int.emod_lt_of_pos _ (by omega), ⟨_, ST.out, D1.out, B1.out⟩⟩
   case measure => simp [intOf]
end Go.Proofs.YtlkomiiijhphnaaDoor.Big
namespace Go.Proofs.YtlkomiiijhphnaaDoor.Big
open Go.RowKit Go.Proofs.YtlkomiiijhphnaaDoorW.PrintWords Go.Proofs.YtlkomiiijhphnaaDoorW.PrintLast Go.Proofs.YtlkomiiijhphnaaDoorW.PrintMore Go.Proofs.YtlkomiiijhphnaaDoor.Math
set_option linter.unusedVariables false
set_option linter.unusedSimpArgs false
theorem big_of_digs {w : World} {v : Value} {xs : List Int} (h : Digs w v xs) (ox : Okd xs) (tx : Tight xs) : Big (w.alloc (.cells #[.bool false, v] 48)) w.heap.size (val xs) xs.length :=
 ⟨false, xs, ⟨v, heap_alloc_new w _, h.below (below_alloc (Below.refl _ _) _)⟩, ox, tx, (fun e => by cases e), Nat.le_refl _, rfl⟩
theorem Big.digits {w : World} {b : Nat} {n : Int} {m : Nat} (h : Big w b n m) (h0 : 0 ≤ n) : ∃ v zs, w.heap[b]? = some (.cells #[.bool false, v] 48 (0, 0)) ∧ Digs w v zs ∧ Okd zs ∧ Tight zs ∧ val zs = n ∧ zs.length ≤ m := by
 obtain ⟨neg, zs, ⟨v, hb, hd⟩, ok, ti, hne, hl, rfl⟩ := h
 cases neg
 ·exact ⟨v, zs, hb, hd, ok, ti, rfl, hl⟩
 ·exfalso
  have h1 := val_nonneg ok
  have h2 : bval true zs = -val zs := rfl
  have h3 := (val_eq_zero ok ti).1 (by omega)
  exact hne rfl h3
structure KAt (w3 wr : World) (gu cu ho L m : Nat) (us os : List Int) : Prop where
 lo : Below w3.heap.size w3 wr
 u : Digs wr (.slice (some ⟨gu, 0, none⟩) L cu) us
 o : Digs wr (.slice (some ⟨ho, 0, none⟩) m m) os
 ul : us.length = L
 ol : os.length = m
 g1 : w3.heap.size ≤ gu
 g2 : w3.heap.size ≤ ho
 ne : gu ≠ ho
theorem KAt.putU {w3 wr : World} {gu cu ho L m : Nat} {us os : List Int} (h : KAt w3 wr gu cu ho L m us os) (i : Nat) (x : Int) : KAt w3 (wr.setCell ⟨gu, i, none⟩ (.int .u32 x)) gu cu ho L m (us.set i x) os := by
 obtain ⟨h1, h2⟩ := h.u.put h.ul.symm i x
 exact ⟨h.lo.setCell h.g1 _, h1, own_other h.o h2 (.inr (by show (some ho : Option Nat) ≠ some gu; intro e; injection e with e; exact h.ne e.symm)), by rw [List.length_set]; exact h.ul, h.ol, h.g1, h.g2, h.ne⟩
theorem KAt.putO {w3 wr : World} {gu cu ho L m : Nat} {us os : List Int} (h : KAt w3 wr gu cu ho L m us os) (i : Nat) (x : Int) : KAt w3 (wr.setCell ⟨ho, i, none⟩ (.int .u32 x)) gu cu ho L m us (os.set i x) := by
 obtain ⟨h1, h2⟩ := h.o.put h.ol.symm i x
 exact ⟨h.lo.setCell h.g2 _, own_other h.u h2 (.inr (by show (some gu : Option Nat) ≠ some ho; intro e; injection e with e; exact h.ne e)), h1, h.ul, by rw [List.length_set]; exact h.ol, h.g1, h.g2, h.ne⟩
theorem KAt.drewN {w3 wr : World} {gu cu ho L m : Nat} {us os : List Int} (h : KAt w3 wr gu cu ho L m us os) (n : Nat) : KAt w3 (wr.drewN n) gu cu ho L m us os :=
 ⟨pw_below_drewN h.lo n, h.u.below (pw_below_drewN (Below.refl _ _) n), h.o.below (pw_below_drewN (Below.refl _ _) n), h.ul, h.ol, h.g1, h.g2, h.ne⟩
theorem KAt.cellU {w3 wr : World} {gu cu ho L m : Nat} {us os : List Int} (h : KAt w3 wr gu cu ho L m us os) {i : Nat} (hi : i < L) : wr.cell? ⟨gu, i, none⟩ = some (.int .u32 (us.getD i 0)) ∧ wr.frozen? ⟨gu, i, none⟩ = false :=
 h.u.at_ (by rw [h.ul]; exact hi)
theorem KAt.cellO {w3 wr : World} {gu cu ho L m : Nat} {us os : List Int} (h : KAt w3 wr gu cu ho L m us os) {i : Nat} (hi : i < m) : wr.cell? ⟨ho, i, none⟩ = some (.int .u32 (os.getD i 0)) ∧ wr.frozen? ⟨ho, i, none⟩ = false :=
 h.o.at_ (by rw [h.ol]; exact hi)
theorem KAt.drew {w3 wr : World} {gu cu ho L m : Nat} {us os : List Int} (h : KAt w3 wr gu cu ho L m us os) : KAt w3 wr.drew gu cu ho L m us os :=
 ⟨h.lo.drew, h.u.below (Below.refl _ _).drew, h.o.below (Below.refl _ _).drew, h.ul, h.ol, h.g1, h.g2, h.ne⟩
theorem KAt.below {w3 wr w1 : World} {gu cu ho L m : Nat} {us os : List Int} (h : KAt w3 wr gu cu ho L m us os) (hb : Below wr.heap.size wr w1) : KAt w3 w1 gu cu ho L m us os :=
 ⟨h.lo.trans (hb.mono h.lo.size), h.u.below hb, h.o.below hb, h.ul, h.ol, h.g1, h.g2, h.ne⟩
theorem big_box_a {w : World} {v : Value} {xs : List Int} (h : Digs (w.alloc (.cells #[.bool false, .slice none 0 0] 48)).drew v xs) (ox : Okd xs) (tx : Tight xs) :
  Big ((w.alloc (.cells #[.bool false, .slice none 0 0] 48)).alloc (.cells #[.bool false, v] 48)).drew (w.heap.size + 1) (val xs) xs.length := by
 have hb := big_of_digs (w := (w.alloc (.cells #[.bool false, .slice none 0 0] 48)).drew) h ox tx
 rw [show (w.alloc (.cells #[.bool false, .slice none 0 0] 48)).drew.heap.size = w.heap.size + 1 from by show (w.alloc _).heap.size = _; simp] at hb
 exact hb
theorem big_box_b {w : World} {v : Value} {xs : List Int} (h : Digs w.drew v xs) (ox : Okd xs) (tx : Tight xs) :
  Big ((w.alloc (.cells #[.bool false, .slice none 0 0] 48)).alloc (.cells #[.bool false, v] 48)).drew (w.heap.size + 1) (val xs) xs.length :=
 big_box_a (h.below (w1 := (w.alloc (.cells #[.bool false, .slice none 0 0] 48)).drew) (below_alloc (w := w.drew) (Below.refl _ _) _)) ox tx
theorem big_box_c {w : World} {v : Value} {xs : List Int} (h : Digs w.drew v xs) (ox : Okd xs) (tx : Tight xs) :
  Big ((w.alloc (.cells #[.bool false, v] 48)).alloc (.cells #[.bool false, .slice none 0 0] 48)).drew w.heap.size (val xs) xs.length :=
 (big_of_digs (w := w.drew) h ox tx).below (below_alloc (Below.refl _ _) _)
theorem reads_two (w : World) (a b : Int) : ReadsInt (w.alloc (.cells #[.int .u32 a, .int .u32 b] 85)) .u32 (some ⟨w.heap.size, 0, none⟩) 2 [a, b] := by
 have h := Digs.two w a b
 unfold Digs at h
 exact own_reads' h
set_option maxRecDepth 100000 in
set_option maxHeartbeats 8000000 in
theorem divide_long (xs ys : List Int) (y : Int) (vx vy : Value) (w : World) (hx : Digs w vx xs) (hy : Digs w vy (ys ++ [y])) (ox : Okd xs) (oy : Okd (ys ++ [y])) (tx : Tight xs) (ty : Tight (ys ++ [y])) (hb : xs.length ≤ 500000) (h1 : 1 ≤ ys.length) (hge : val (ys ++ [y]) ≤ val xs) :
  Calls Tryd.prog 82 #[vx, vy] w (Divided w xs (ys ++ [y])) := by
 obtain ⟨A, c, rfl⟩ := hx.shape
 obtain ⟨B, d, rfl⟩ := hy.shape
 have el : (ys ++ [y]).length = ys.length + 1 := by simp
 have hlen : ys.length + 1 ≤ xs.length := by
  rcases Nat.lt_or_ge xs.length (ys.length + 1) with h | h
  ·have := val_lt_of_length ox oy ty (by omega)
   omega
  ·exact h
 have HC := Aside0.mk (cmpDigits_calls xs (ys ++ [y]) _ _ w hx hy ox oy tx ty (by omega) (by omega))
 have HS := Aside0.mk (show 0 ≤ sgn (val xs - val (ys ++ [y])) from by unfold sgn; rw [if_neg (by omega)]; split <;> omega)
 rw [el] at hy HC ⊢
 obtain ⟨-, g, rfl, hcell, hbm, hbd⟩ := hy.last
 have hy0 : 0 < y ∧ y < 4294967296 := ⟨by have := oy.right.head; have h2 := ty (by simp); simp at h2; omega, oy.right.head.2⟩
 obtain ⟨up, hup, hU⟩ := ups_of hy0.1 hy0.2
 have HUP := Aside0.mk hup
 have HU := Aside0.mk hU
 have hul := hU.le
 have HX := Aside0.mk hx
 have HY := Aside0.mk hy
 have OX := Aside0.mk ox
 have OY := Aside0.mk oy
 have TX := Aside0.mk tx
 have TY := Aside0.mk ty
 clear hx hy ox oy tx ty hge el hup hU
 go_enter Tryd.func82, Tryd.ntmps82
 go_wp2_with fail
 refine HC.out.mono ?_
 rintro e w1 ⟨rfl, hb1⟩
 have HB1 := Aside0.mk hb1
 have hs := HS.out
 generalize sgn (val xs - val (ys ++ [y])) = s at hs ⊢
 have hcell1 := pw_cell_below hb1 hcell
 have hne : (((ys.length : Int) + 1) == 1) = false := by simp; omega
 clear hb1 hcell
 go_wp2_with fail
 refine (Shelf.bits_LeadingZeros32 y _ (by omega) (by omega)).mono ?_
 rintro e w2 ⟨rfl, rfl⟩
 rw [HUP.out]
 clear hne hcell1
 go_wp2_with fail
 have e2 : (w2.alloc (.cells #[.bool false, .slice none 0 0] 48)).heap.size = w2.heap.size + 1 := by simp
 have hyb := big_of_digs ((HY.out.below HB1.out).below (below_alloc (Below.refl _ _) (.cells #[.bool false, .slice none 0 0] 48))) OY.out TY.out
 rw [e2] at hyb
 refine (lsh_calls w2.heap.size (w2.heap.size + 1) up (val (ys ++ [y])) _ _ ((is_new w2).alloc _) hyb (by simp; omega) (by omega)).mono ?_
 rintro e w3 ⟨rfl, hb3, hg3⟩
 have B3 := Aside0.mk (below_of_grown ((HB1.out.alloc HB1.out.size (.cells #[.bool false, .slice none 0 0] 48)).alloc (by rw [e2]; have := HB1.out.size; omega) _) hg3 HB1.out.size)
 obtain ⟨v3, vs, hblk, hdv, ov, tv, hvv, hvl⟩ := hb3.digits (Int.mul_nonneg (val_nonneg OY.out) (Int.le_of_lt (two_pow_pos up)))
 obtain ⟨C, cv, rfl⟩ := hdv.shape
 obtain ⟨hvlen, hvlo⟩ := moved_len OY.out hy0.1 HU.out ov tv hvv
 obtain ⟨q0, q1, -, -⟩ := big_cells hblk
 have DV := Aside0.mk hdv
 have OV := Aside0.mk ov
 have VV := Aside0.mk hvv
 have VLO := Aside0.mk hvlo
 have TV := Aside0.mk tv
 rw [hvlen] at q1 hdv
 have VL := Aside0.mk hvlen
 clear hyb e2 hb3 hg3 hblk hdv ov tv hvv hvl hvlo hvlen
 go_wp2_with fail
 have e3 : (w3.alloc (.cells #[] 85)).heap.size = w3.heap.size + 1 := by simp
 have e4 : ((w3.alloc (.cells #[] 85)).alloc (.cells #[.bool false, .slice none 0 0] 48)).heap.size = w3.heap.size + 1 + 1 := by simp
 have hxb := big_of_digs (((HX.out.below B3.out).below (below_alloc (Below.refl _ _) (.cells #[] 85))).below (below_alloc (Below.refl _ _) (.cells #[.bool false, .slice none 0 0] 48))) OX.out TX.out
 have hz4 := is_new (w3.alloc (.cells #[] 85))
 have o4 := Own.empty w3 (Nat.le_refl w3.heap.size)
 rw [e3] at hz4
 rw [e4] at hxb
 refine (lsh_calls (w3.heap.size + 1) (w3.heap.size + 1 + 1) up (val xs) _ _ (hz4.alloc _) hxb (by omega) (by omega)).mono ?_
 rintro e w4 ⟨rfl, hb4, hg4⟩
 have B4 := Aside0.mk (below_of_grown (below_alloc (below_alloc (below_alloc (Below.refl w3.heap.size w3) _) _) _) hg4 (by omega))
 have O4 := Aside0.mk (own_other ((o4.below (below_alloc (Below.refl _ _) _)).below (below_alloc (Below.refl _ _) _)) hg4 (.inr (by show (some w3.heap.size : Option Nat) ≠ some (w3.heap.size + 1); simp)))
 obtain ⟨v4, us, hblk, hdu, ou, tu, hvu, -⟩ := hb4.digits (Int.mul_nonneg (val_nonneg OX.out) (Int.le_of_lt (two_pow_pos up)))
 obtain ⟨E, ce, rfl⟩ := hdu.shape
 obtain ⟨hu1, hu2, hu3, hu4, hu5⟩ := moved_up OX.out TX.out (by rintro rfl; simp at hlen) hul ou tu hvu
 obtain ⟨q2, q3, -, -⟩ := big_cells hblk
 have DU := Aside0.mk hdu
 have UU := Aside0.mk (And.intro hu3 (And.intro hu4 hu5))
 clear hxb hz4 o4 e3 e4 hb4 hg4 hblk hdu ou tu hvu hu3 hu4 hu5
 go_wp2_with (first
  | ((with_reducible refine gate_builtin (b := .append) (xs := #[.tmp 87, .tmp 96]) rfl ?_); at_builtin; refine print_append_row (w0 := w3) w3.heap.size rfl (.tmp 87) (.tmp 96) 46 85 .u32 4 rfl Tryd.underlying46 info32 (by decide) _ [] us E us.length ce rfl rfl ?aO ?aR ?aB ?aS ?aL ?_; (case aO => exact O4.out); (case aR => exact own_reads' DU.out); (case aB => exact B4.out); (case aS => exact B4.out.size); (case aL => simp; omega); intro v5 w5 ho5 hb5 hg5 hat5; rw [List.nil_append] at ho5; have O5 := Aside0.mk ho5; have B5 := Aside0.mk hb5; clear ho5 hb5 hg5 hat5)
  | ((with_reducible refine gate_builtin (b := .append) (xs := #[.tmp 97, .tmp 98]) rfl ?_); at_builtin; refine print_append_row (w0 := w3) w3.heap.size rfl (.tmp 97) (.tmp 98) 46 85 .u32 4 rfl Tryd.underlying46 info32 (by decide) _ us [0, 0] (some ⟨w5.heap.size, 0, none⟩) 2 2 rfl rfl ?aO ?aR ?aB ?aS ?aL ?_; (case aO => exact own_alloc O5.out _); (case aR => exact reads_two w5 0 0); (case aB => exact B5.out.alloc B5.out.size _); (case aS => exact (B5.out.alloc B5.out.size (.cells #[.int .u32 0, .int .u32 0] 85)).size); (case aL => omega); intro v6 w6 ho6 hb6 hg6 hat6))
 obtain ⟨gu, cu, rfl, hgu, hgu2⟩ := ho6.form (by simp)
 have hcu : xs.length + 1 ≤ cu := by
  have h := own_cap ho6
  simp at h
  omega
 have hut := own_take (m := xs.length + 1) ho6 (by simp; omega)
 rw [Nat.mul_one, show (nums .u32 (us ++ [0, 0])).take (xs.length + 1) = nums .u32 ((us ++ [0, 0]).take (xs.length + 1)) from by simp [nums, List.map_take]] at hut
 obtain ⟨us6, hus6⟩ : ∃ l, l = (us ++ [0, 0]).take (xs.length + 1) := ⟨_, rfl⟩
 have UU6 := UU.out
 rw [← hus6] at hut UU6
 obtain ⟨hul6, hok6, hval6⟩ := UU6
 have O6 := Aside0.mk (show Own w6 w3.heap.size (.slice (some ⟨gu, 0, none⟩) (xs.length + 1) cu) us6 from by unfold Own; rw [hul6]; exact hut)
 have B6 := Aside0.mk hb6
 have K0 := Aside0.mk (And.intro hul6 (And.intro hok6 hval6))
 obtain ⟨i0, hi0, -, -, -⟩ := info_parts info32
 have hsl := cut_to (P := Tryd.prog) 46 85 .i64 Tryd.underlying46 hi0 (some ⟨gu, 0, none⟩) (us ++ [0, 0]).length cu ((xs.length : Int) + 1) (by omega) (by simp; omega) (own_cap ho6)
 rw [show ((xs.length : Int) + 1).toNat = xs.length + 1 from by omega] at hsl
 clear hi0 ho6 hb6 hg6 hat6 hut hus6 hul6 hok6 hval6 UU B5 O5 B4 O4 DU
 rw [hsl]
 clear hsl
 go_wp2_with fail
 obtain ⟨m, hm⟩ : ∃ m, m = xs.length - ys.length := ⟨_, rfl⟩
 have hm1 : m + ys.length ≤ xs.length := by omega
 have hm2 : xs.length ≤ m + ys.length := by omega
 have hmk := fun W => run_make_row' (P := Tryd.prog) 46 85 (.int .u32 0) 4 Tryd.underlying46 info32 rfl .i64 .i64 m (by omega) (by omega) W
 have HW := Aside0.mk (show wrap64 (wrap64 ((xs.length : Int) - ((ys.length : Int) + 1)) + 1) = (m : Int) from by rw [w64s (x := (xs.length : Int) - ((ys.length : Int) + 1)) (by omega) (by omega), w64s (by omega) (by omega)]; omega)
 clear hm
 refine start_ (n := 11) (S := fun w' => True) (ds := [10]) #[false, false, false, false, false, false, false, false, false, false, false] (by kernel_rfl) rfl rfl (trivial) (fun hHeld => ?_)
 have Dw7 := Aside0.mk ((Below.refl w6.heap.size w6).drew)
 generalize w6.drew = w7 at hHeld Dw7 ⊢
 refine pure_ (i := 0) (N := some 104) (v := ?_) (a' := ?_) #[true, false, false, false, false, false, false, false, false, false, false] rfl rfl (by kernel_rfl) (fun _ _ _ h => h) (Or.inl ⟨by rfl, ?_⟩) ?_ ?_
 rotate_left
 ·intro w'
  go_simp
  with_reducible rfl
 rotate_left
 ·simp only [Act.put, List.setIfInBounds_toArray, List.set_cons_zero, List.set_cons_succ, i64_w, i32_w]
  rfl
 refine pure_ (i := 1) (N := some 105) (v := ?_) (a' := ?_) #[true, true, false, false, false, false, false, false, false, false, false] rfl rfl (by kernel_rfl) (fun _ _ _ h => h) (Or.inl ⟨by rfl, ?_⟩) ?_ ?_
 rotate_left
 ·intro w'
  go_simp
  with_reducible rfl
 rotate_left
 ·simp only [Act.put, List.setIfInBounds_toArray, List.set_cons_zero, List.set_cons_succ, i64_w, i32_w]
  rfl
 refine pure_ (i := 2) (N := some 106) (v := ?_) (a' := ?_) #[true, true, true, false, false, false, false, false, false, false, false] rfl rfl (by kernel_rfl) (fun _ _ _ h => h) (Or.inl ⟨by rfl, ?_⟩) ?_ ?_
 rotate_left
 ·intro w'
  go_simp
  with_reducible rfl
 rotate_left
 ·simp only [Act.put, List.setIfInBounds_toArray, List.set_cons_zero, List.set_cons_succ, i64_w, i32_w]
  rfl
 refine pure_ (i := 3) (N := some 107) (v := ?_) (a' := ?_) #[true, true, true, true, false, false, false, false, false, false, false] rfl rfl (by kernel_rfl) (fun _ _ _ h => h) (Or.inl ⟨by rfl, ?_⟩) ?_ ?_
 rotate_left
 ·intro w'
  go_simp
  with_reducible rfl
 rotate_left
 ·simp only [Act.put, List.setIfInBounds_toArray, List.set_cons_zero, List.set_cons_succ, i64_w, i32_w]
  rfl
 refine pure_ (i := 4) (N := some 108) (v := ?_) (a' := ?_) #[true, true, true, true, true, false, false, false, false, false, false] rfl rfl (by kernel_rfl) (fun _ _ _ h => h) (Or.inl ⟨by rfl, ?_⟩) ?_ ?_
 rotate_left
 ·intro w'
  go_simp
  with_reducible rfl
 rotate_left
 ·simp only [Act.put, List.setIfInBounds_toArray, List.set_cons_zero, List.set_cons_succ, i64_w, i32_w]
  rfl
 refine pure_ (i := 5) (N := some 109) (v := ?_) (a' := ?_) #[true, true, true, true, true, true, false, false, false, false, false] rfl rfl (by kernel_rfl) (fun _ _ _ h => h) (Or.inl ⟨by rfl, ?_⟩) ?_ ?_
 rotate_left
 ·intro w'
  go_simp
  with_reducible rfl
 rotate_left
 ·simp only [Act.put, List.setIfInBounds_toArray, List.set_cons_zero, List.set_cons_succ, i64_w, i32_w]
  rfl
 refine pure_ (i := 6) (N := some 110) (v := ?_) (a' := ?_) #[true, true, true, true, true, true, true, false, false, false, false] rfl rfl (by kernel_rfl) (fun _ _ _ h => h) (Or.inl ⟨by rfl, ?_⟩) ?_ ?_
 rotate_left
 ·intro w'
  go_simp
  with_reducible rfl
 rotate_left
 ·simp only [Act.put, List.setIfInBounds_toArray, List.set_cons_zero, List.set_cons_succ, i64_w, i32_w]
  rfl
 refine pure_ (i := 7) (N := some 111) (v := ?_) (a' := ?_) #[true, true, true, true, true, true, true, true, false, false, false] rfl rfl (by kernel_rfl) (fun _ _ _ h => h) (Or.inl ⟨by rfl, ?_⟩) ?_ ?_
 rotate_left
 ·intro w'
  go_simp
  with_reducible rfl
 rotate_left
 ·simp only [Act.put, List.setIfInBounds_toArray, List.set_cons_zero, List.set_cons_succ, i64_w, i32_w]
  rfl
 refine pure_ (i := 9) (N := some 12) (v := ?_) (a' := ?_) #[true, true, true, true, true, true, true, true, false, true, false] rfl rfl (by kernel_rfl) (fun _ _ _ h => h) (Or.inl ⟨by rfl, ?_⟩) ?_ ?_
 rotate_left
 ·intro w'
  go_simp
  with_reducible rfl
 rotate_left
 ·simp only [Act.put, List.setIfInBounds_toArray, List.set_cons_zero, List.set_cons_succ, i64_w, i32_w]
  rfl
 refine one_ (i := 8) (N := some 112) #[true, true, true, true, true, true, true, true, true, true, false] rfl rfl (by kernel_rfl) (by decide) (fun K hK => ?_)
 refine value_ (w1 := ?_) (v := ?_) (by rfl) rfl ?_ ?_
 rotate_left 2
 ·go_simp
  rw [HW.out, hmk]
  rfl
 refine hK.out _ _ (trivial) (fun hHeld => ?_)
 clear hK K
 refine norm_ (a' := ?_) ?_ ?_
 rotate_left
 ·show Act.put _ (some 112) _ = _
  simp only [Act.put, List.setIfInBounds_toArray, List.set_cons_zero, List.set_cons_succ, i64_w, i32_w]
  rfl
 refine pure_ (i := 10) (N := some 13) (v := ?_) (a' := ?_) #[true, true, true, true, true, true, true, true, true, true, true] rfl rfl (by kernel_rfl) (fun _ _ _ h => h) (Or.inl ⟨by rfl, ?_⟩) ?_ ?_
 rotate_left
 ·intro w'
  go_simp
  with_reducible rfl
 rotate_left
 ·simp only [Act.put, List.setIfInBounds_toArray, List.set_cons_zero, List.set_cons_succ, i64_w, i32_w]
  rfl
 refine done_ (by kernel_rfl) ?_
 have hgu7 : gu < w7.heap.size := Nat.lt_of_lt_of_le hgu2 Dw7.out.size
 have ST := Aside0.mk (show KAt w3 (w7.alloc (.cells (madeCells #[.int .u32 0] m) 85)) gu cu w7.heap.size (xs.length + 1) m us6 (List.replicate m 0) from
  ⟨(B6.out.trans (Dw7.out.mono B6.out.size)).alloc (Nat.le_trans B6.out.size Dw7.out.size) _, (O6.out.digs.below Dw7.out).below (below_alloc (Below.refl _ _) _), Digs.made _ m (by omega), K0.out.1, by simp, hgu, Nat.le_trans B6.out.size Dw7.out.size, Nat.ne_of_lt hgu7⟩)
 have KB := Aside0.mk (KRel.begin (m := m) (n := ys.length + 1) OX.out K0.out.2.1 K0.out.2.2 hul (by omega) (by omega) K0.out.1 VLO.out)
 have DV3 := Aside0.mk (show Digs w3 (.slice C (ys.length + 1) cv) vs from by have h := DV.out; rw [VL.out] at h; exact h)
 obtain ⟨gv, cv', hev, hgv⟩ := DV3.out.form (by rw [VL.out]; omega)
 obtain ⟨he1, he3⟩ : C = some ⟨gv, 0, none⟩ ∧ cv = cv' := ⟨(Value.slice.inj hev).1, (Value.slice.inj hev).2.2⟩
 subst he1 he3
 clear hmk HW O6 B6 K0 DV hev Dw7 hHeld hu1 hu2 q0 q1 q2 q3 hgu2 hgu7 hcu
 generalize w7.alloc (.cells (madeCells #[.int .u32 0] m) 85) = w8 at ST ⊢
 generalize w7.heap.size = ho at ST ⊢
 have HYP := Aside0.mk (show 0 < val (ys ++ [y]) from by have h := val_ge OY.out TY.out (by simp); have := pow_pos' ((ys ++ [y]).length - 1); omega)
 have HVP := Aside0.mk (show 0 < val vs from by have := VLO.out; have := pow_pos' ys.length; omega)
 have VVN := VV
 obtain ⟨n, hn⟩ : ∃ n, n = ys.length + 1 := ⟨_, rfl⟩
 have hnI : (ys.length : Int) + 1 = (n : Int) := by omega
 rw [hnI]
 rw [← hn] at DV3 VL ⊢
 have hn2 : 2 ≤ n := by omega
 have hnm : m + n ≤ xs.length + 1 := by omega
 have hnm2 : xs.length + 1 ≤ m + n := by omega
 have HN := Aside0.mk hn
 clear hn hnI hm1 hm2
 go_wp2
 go_loopg [14] (m + 1) (fun gk j wr => ∃ k : Nat, k ≤ m ∧ k < gk ∧ j = .int .i64 ((k : Int) - 1) ∧ Aside0 (∃ us os, KAt w3 wr gu cu ho (xs.length + 1) m us os ∧ KRel (val xs * 2 ^ up) vs us os k))
 case atStart => exact ⟨m, Nat.le_refl _, Nat.lt_succ_self _, rfl, ⟨_, _, ST.out, KB.out⟩⟩
 case round =>
  obtain ⟨k, hk, hgk, rfl, ⟨us7, os7, hKA, hKR⟩⟩ := hrel
  have KA := Aside0.mk hKA
  have KR := Aside0.mk hKR
  clear hKA hKR
  cases k with
  | zero =>
   rw [show ((0 : Nat) : Int) - 1 = -1 from rfl]
   go_wp2
   have KD := Aside0.mk KA.out.drew
   have TU := Aside0.mk (And.intro (okd_trim KR.out.ok) (And.intro (trim_tight us7) (And.intro (val_trim us7) (trim_length us7))))
   have hul := KA.out.ul
   have HUL := Aside0.mk hul
   have ht1 := trim_length us7
   have ht2 : (trim us7).length ≤ 1000000 := by omega
   clear hul ht1
   go_region_with (first
    | ((with_reducible refine (trimmed_calls _ us7 _ ?ta).mono ?_); (case ta => first | exact KA.out.drew.u | exact ((KA.out.below (below_alloc (Below.refl _ _) _)).drew).u); rintro e w9 ⟨v9, rfl, hd9, hw9⟩; subst hw9; obtain ⟨F, cf, rfl⟩ := hd9.shape; have H9 := Aside0.mk hd9; clear hd9)
    | ((with_reducible refine (rsh_calls _ _ up (val (trim us7)) (trim us7).length _ ?ra ?rb ht2 (val_nonneg TU.out.1) (by omega)).mono ?_); (case ra => first | exact ((is_new wr).alloc _).below (Below.refl _ _).drew | exact (is_new2 wr _).below (Below.refl _ _).drew); (case rb => first | exact big_box_a H9.out TU.out.1 TU.out.2.1 | exact big_box_b H9.out TU.out.1 TU.out.2.1 | exact big_box_c H9.out TU.out.1 TU.out.2.1); rintro e w10 ⟨rfl, hb10, hg10⟩; obtain ⟨v10, rs, hblk, hdr, or_, tr, hvr, hrl⟩ := hb10.digits (Int.ediv_nonneg (val_nonneg TU.out.1) (Int.le_of_lt (two_pow_pos up))); obtain ⟨x0, x1, x2, x3⟩ := big_cells hblk; have RR := Aside0.mk (And.intro hdr (And.intro or_ (And.intro hvr tr))); have HG := Aside0.mk (below_of_grown (w := wr) (below_alloc (below_alloc (Below.refl _ _) _) _).drew hg10 (by omega)); clear hb10 hg10 hblk hdr or_ tr hvr hrl))
   all_goals
    go_wp2
    go_ret2
    have hdn := KR.out.done HVP.out
    have hmd := moved_done (X := val xs) (up := up) HYP.out
    rw [VVN.out, hmd.1] at hdn
    have hrest : val rs = val xs % val (ys ++ [y]) := by
     rw [RR.out.2.2.1, TU.out.2.2.1, hdn.2, hmd.2]
    refine ⟨_, _, os7, rs, rfl, ?_, RR.out.1, KR.out.oo, RR.out.2.1, hdn.1, hrest, ?_, ?_, B3.out.trans ((KA.out.lo.trans (HG.out.mono KA.out.lo.size)).mono B3.out.size)⟩
    ·exact KA.out.o.below HG.out
    ·rw [KA.out.ol]
     omega
    ·have h1 := Int.emod_lt_of_pos (val xs) HYP.out
     have h2 := val_lt OY.out
     have h3 := tight_length RR.out.2.1 RR.out.2.2.2 (k := (ys ++ [y]).length) (by rw [hrest]; omega)
     rw [List.length_append, List.length_singleton] at h3
     omega
  | succ k =>
   have ek : ((k + 1 : Nat) : Int) - 1 = (k : Int) := by omega
   rw [ek]
   clear ek
   obtain ⟨c0, hc0⟩ : ∃ c, c = us7.getD (k + n) 0 := ⟨_, rfl⟩
   obtain ⟨c1, hc1⟩ : ∃ c, c = us7.getD (k + n - 1) 0 := ⟨_, rfl⟩
   obtain ⟨d1, hd1⟩ : ∃ c, c = vs.getD (n - 1) 0 := ⟨_, rfl⟩
   obtain ⟨q0, -⟩ := KA.out.cellU (i := k + n) (by omega)
   obtain ⟨q1, -⟩ := KA.out.cellU (i := k + n - 1) (by omega)
   obtain ⟨q2, -⟩ := (DV3.out.below KA.out.lo).at_ (k := n - 1) (by rw [VL.out]; omega)
   rw [← hc0] at q0
   rw [← hc1] at q1
   rw [← hd1] at q2
   have b0 := getD_ok KR.out.ok (k + n)
   have b1 := getD_ok KR.out.ok (k + n - 1)
   have bd1 := getD_ok OV.out (n - 1)
   rw [← hc0] at b0
   rw [← hc1] at b1
   rw [← hd1] at bd1
   have HC0 := Aside0.mk hc0
   have HC1 := Aside0.mk hc1
   have HD1 := Aside0.mk hd1
   obtain ⟨p0, hp0⟩ : ∃ p, p = k + n := ⟨_, rfl⟩
   obtain ⟨p1, hp1⟩ : ∃ p, p = k + n - 1 := ⟨_, rfl⟩
   have s0 : IntKind.i64.wrap ((k : Int) + (n : Int)) = (p0 : Int) := by rw [IntWalk.i64_in _ (by omega)]; omega
   have s1 : IntKind.i64.wrap ((p0 : Int) - 1) = (p1 : Int) := by rw [IntWalk.i64_in _ (by omega)]; omega
   have l0 : p0 < xs.length + 1 := by omega
   have l1 : p1 < xs.length + 1 := by omega
   rw [← hp0] at q0
   rw [← hp1] at q1
   have HP := Aside0.mk (And.intro hp0 hp1)
   clear hc0 hc1 hd1 hp0 hp1
   go_wp2
   go_quiet (fail)
   rw [or_high b0 b1]
   have hd1p : 0 < d1 := by
    rcases Int.lt_or_eq_of_le bd1.1 with h | h
    ·exact h
    ·exfalso
     have hne : vs ≠ [] := by rintro rfl; have := VL.out; simp at this; omega
     have h2 := TV.out hne
     rw [tight_getD hne, VL.out, ← HD1.out] at h2
     exact h2 h.symm
   have hT := KR.out.tops (j := k) OV.out (by rw [VL.out]; exact hn2) (by rw [VL.out, KA.out.ul]; omega) (by rw [VL.out, ← HD1.out]; omega)
   rw [VL.out, ← HC0.out, ← HC1.out, ← HD1.out] at hT
   obtain ⟨c2, hc2⟩ : ∃ c, c = us7.getD (k + n - 2) 0 := ⟨_, rfl⟩
   obtain ⟨d2, hd2⟩ : ∃ c, c = vs.getD (n - 2) 0 := ⟨_, rfl⟩
   rw [← hc2, ← hd2] at hT
   obtain ⟨top, htop⟩ : ∃ t, t = c0 * 4294967296 + c1 := ⟨_, rfl⟩
   have ht0 : 0 ≤ top := by omega
   have ht1 : top ≤ 18446744073709551615 := by omega
   rw [← htop] at hT ⊢
   have HT := Aside0.mk hT
   have HC2 := Aside0.mk hc2
   have HD2 := Aside0.mk hd2
   obtain ⟨p2, hp2⟩ : ∃ p, p = n - 1 := ⟨_, rfl⟩
   have s2 : IntKind.i64.wrap ((n : Int) - 1) = (p2 : Int) := by rw [IntWalk.i64_in _ (by omega)]; omega
   have l2 : p2 < n := by omega
   rw [← hp2] at q2
   have q2' : (wr.drewN nq).cell? ⟨gv, p2, none⟩ = some (.int .u32 d1) := q2
   have HP2 := Aside0.mk hp2
   have KA1 := Aside0.mk (KA.out.drewN nq)
   clear s0 s1 q0 q1 q2 hT hc2 hd2 htop hp2 KA
   generalize wr.drewN nq = wr1 at KA1 q2' ⊢
   go_wp2
   go_quiet (fail)
   have q2 : (wr1.drewN nq).cell? ⟨gv, p2, none⟩ = some (.int .u32 d1) := q2'
   have KA2 := Aside0.mk (KA1.out.drewN nq)
   clear q2' KA1
   generalize wr1.drewN nq = wr2 at KA2 q2 ⊢
   have E0 := Aside0.mk (HT.out.start)
   have hq0 : 0 ≤ top / d1 ∧ top / d1 ≤ 18446744073709551615 := ⟨Int.ediv_nonneg ht0 (by omega), Int.le_trans (Int.ediv_le_self _ ht0) ht1⟩
   have hr0 : 0 ≤ top % d1 ∧ top % d1 < 4294967296 := ⟨Int.emod_nonneg _ (by omega), Int.lt_trans (Int.emod_lt_of_pos _ hd1p) bd1.2⟩
   generalize top / d1 = q0 at E0 hq0 ⊢
   generalize top % d1 = r0 at E0 hr0 ⊢
   clear s2 q2
   go_upto_block 4 with fail
   go_cut [16, 17] (fun s16 s17 wx => ∃ q : Int, s16 = .int .u64 q ∧ 0 ≤ q ∧ q < 4294967296 ∧ Aside0 (KAt w3 wx gu cu ho (xs.length + 1) m us7 os7 ∧ (q = val (us7.drop k) / val vs ∨ q = val (us7.drop k) / val vs + 1)))
   case first =>
    go_wp2_with fail
    go_loopg [16, 17] (q0.toNat + 1) (fun gk2 s16 s17 wx => ∃ q r : Int, s16 = .int .u64 q ∧ s17 = .int .u64 r ∧ q.toNat < gk2 ∧ 0 ≤ q ∧ q ≤ 18446744073709551615 ∧ 0 ≤ r ∧ r < 4294967296 ∧ Aside0 (Est (val (us7.drop k)) (val vs) top d1 q r ∧ KAt w3 wx gu cu ho (xs.length + 1) m us7 os7))
    case atStart => exact ⟨q0, r0, rfl, rfl, Nat.lt_succ_self _, hq0.1, hq0.2, hr0.1, hr0.2, ⟨E0.out, KA2.out⟩⟩
    case round =>
     obtain ⟨q, r, rfl, rfl, hgq, hq1, hq2, hr1, hr2, ⟨hE, hKA⟩⟩ := hrel
     have EE := Aside0.mk hE
     have KA := Aside0.mk hKA
     clear hE hKA
     obtain ⟨p3, hp3⟩ : ∃ p, p = n - 2 := ⟨_, rfl⟩
     obtain ⟨p4, hp4⟩ : ∃ p, p = k + n - 2 := ⟨_, rfl⟩
     obtain ⟨q4, -⟩ := KA.out.cellU (i := k + n - 2) (by omega)
     obtain ⟨q3, -⟩ := (DV3.out.below KA.out.lo).at_ (k := n - 2) (by rw [VL.out]; omega)
     obtain ⟨q2, -⟩ := (DV3.out.below KA.out.lo).at_ (k := n - 1) (by rw [VL.out]; omega)
     have bc2 := getD_ok KR.out.ok (k + n - 2)
     have bd2 := getD_ok OV.out (n - 2)
     rw [← HC2.out] at q4 bc2
     rw [← HD2.out] at q3 bd2
     rw [← HD1.out, ← HP2.out] at q2
     have hp0 := HP.out.1
     have hp2 := HP2.out
     have s0 : IntKind.i64.wrap ((k : Int) + (n : Int)) = (p0 : Int) := by rw [IntWalk.i64_in _ (by omega)]; omega
     have s2 : IntKind.i64.wrap ((n : Int) - 1) = (p2 : Int) := by rw [IntWalk.i64_in _ (by omega)]; omega
     have s3 : IntKind.i64.wrap ((n : Int) - 2) = (p3 : Int) := by rw [IntWalk.i64_in _ (by omega)]; omega
     have s4 : IntKind.i64.wrap ((p0 : Int) - 2) = (p4 : Int) := by rw [IntWalk.i64_in _ (by omega)]; omega
     have l3 : p3 < n := by omega
     have l4 : p4 < xs.length + 1 := by omega
     rw [← hp4] at q4
     rw [← hp3] at q3
     clear hp0 hp2 hp3 hp4
     by_cases hA : 4294967296 ≤ q
     ·have DN := Aside0.mk (EE.out.down HT.out (.inl hA))
      go_wp2
      go_quiet (fail)
      have KA3 := Aside0.mk (KA.out.drewN nq)
      have q2' : (wr.drewN nq).cell? ⟨gv, p2, none⟩ = some (.int .u32 d1) := q2
      clear q2 q3 q4 KA
      generalize wr.drewN nq = wr3 at KA3 q2' ⊢
      by_cases hR : 4294967296 ≤ r + d1
      ·go_wp2
       go_meet
       have hs := DN.out.stop HT.out (.inl hR)
       exact ⟨q - 1, rfl, hs.1.1, hs.1.2, ⟨KA3.out, hs.2⟩⟩
      ·go_wp2
       go_roundg ((q - 1).toNat + 1)
       case measure => omega
       case rel => exact ⟨q - 1, r + d1, rfl, rfl, Nat.lt_succ_self _, by omega, by omega, by omega, by omega, ⟨DN.out, KA3.out⟩⟩
     ·have hor := or_high (a := r) (b := c2) ⟨hr1, hr2⟩ bc2
      obtain ⟨rc, hrc⟩ : ∃ t, t = r * 4294967296 + c2 := ⟨_, rfl⟩
      have hrc0 : 0 ≤ rc ∧ rc ≤ 18446744073709551615 := by omega
      have hmu := mul_bound (a := q) (b := d2) ⟨hq1, by omega⟩ bd2
      obtain ⟨qd, hqd⟩ : ∃ t, t = q * d2 := ⟨_, rfl⟩
      rw [← hrc] at hor
      have hAd : decide (4294967296 ≤ q) = false := by simpa using hA
      by_cases hB : rc < qd
      ·have DN := Aside0.mk (EE.out.down HT.out (.inr (by rw [← hrc, ← hqd]; exact hB)))
       rw [← hqd] at hmu
       have hwq : IntKind.u64.wrap (q * d2) = qd := by rw [← hqd, wrapU]; omega
       have HRC := Aside0.mk (And.intro hrc hqd)
       have hBd : decide (rc < qd) = true := by simpa using hB
       have hq11 : 1 ≤ q := by
        rcases (show q = 0 ∨ 1 ≤ q from by omega) with e | e
        ·rw [e, Int.zero_mul] at hqd
         omega
        ·exact e
       clear hrc hqd
       go_wp2
       go_quiet (fail)
       have KA3 := Aside0.mk (KA.out.drewN nq)
       have q2' : (wr.drewN nq).cell? ⟨gv, p2, none⟩ = some (.int .u32 d1) := q2
       clear q2 q3 q4 KA
       generalize wr.drewN nq = wr3 at KA3 q2' ⊢
       by_cases hR : 4294967296 ≤ r + d1
       ·go_wp2
        go_meet
        have hs := DN.out.stop HT.out (.inl hR)
        exact ⟨q - 1, rfl, hs.1.1, hs.1.2, ⟨KA3.out, hs.2⟩⟩
       ·go_wp2
        go_roundg ((q - 1).toNat + 1)
        case measure => omega
        case rel => exact ⟨q - 1, r + d1, rfl, rfl, Nat.lt_succ_self _, by omega, by omega, by omega, by omega, ⟨DN.out, KA3.out⟩⟩
      ·have hst := EE.out.stop HT.out (.inr ⟨by omega, by rw [← hrc, ← hqd]; omega⟩)
       have HST := Aside0.mk hst
       rw [← hqd] at hmu
       have hwq : IntKind.u64.wrap (q * d2) = qd := by rw [← hqd, wrapU]; omega
       have HRC := Aside0.mk (And.intro hrc hqd)
       have hBd : decide (rc < qd) = false := by simpa using hB
       clear hrc hqd hst
       go_wp2
       go_quiet (fail)
       go_wp2
       go_meet
       exact ⟨q, rfl, HST.out.1.1, HST.out.1.2, ⟨KA.out.drewN _, HST.out.2⟩⟩
   case rest =>
    obtain ⟨q, rfl, hq1, hq2, ⟨hKA, hQ⟩⟩ := hcut
    have KA := Aside0.mk hKA
    have QQ := Aside0.mk hQ
    clear hKA hQ
    go_wp2
    go_loopg [18, 19, 190] (n + 1) (fun gk2 s18 s19 s190 wx => ∃ (i : Nat) (carry lent : Int), i ≤ n ∧ n < gk2 + i ∧ s18 = .int .u64 carry ∧ s19 = .int .u64 lent ∧ s190 = .int .i64 i ∧ 0 ≤ carry ∧ carry < 4294967296 ∧ 0 ≤ lent ∧ lent ≤ 1 ∧
     Aside0 (∃ ws, KSub us7 vs q k i carry lent ws ∧ KAt w3 wx gu cu ho (xs.length + 1) m ws os7))
    case atStart => exact ⟨0, 0, 0, Nat.zero_le _, by omega, rfl, rfl, rfl, by omega, by omega, by omega, by omega, ⟨_, KSub.start KR.out.ok vs q k, KA.out⟩⟩
    case round =>
     obtain ⟨i, carry, lent, hi, hgi, rfl, rfl, rfl, hca0, hca1, hle0, hle1, ⟨ws, hKS, hKA⟩⟩ := hrel
     have KS := Aside0.mk hKS
     have KA3 := Aside0.mk hKA
     clear hKS hKA
     by_cases hlt : i < n
     ·obtain ⟨z0, hz0⟩ : ∃ c, c = ws.getD (k + i) 0 := ⟨_, rfl⟩
      obtain ⟨e0, he0⟩ : ∃ c, c = vs.getD i 0 := ⟨_, rfl⟩
      obtain ⟨o1, o1f⟩ := KA3.out.cellU (i := k + i) (by omega)
      obtain ⟨o2, -⟩ := (DV3.out.below KA3.out.lo).at_ (k := i) (by rw [VL.out]; exact hlt)
      have bz := getD_ok KS.out.ok (k + i)
      have be := getD_ok OV.out i
      rw [← hz0] at o1 bz
      rw [← he0] at o2 be
      have hmu := mul_bound (a := q) (b := e0) ⟨hq1, hq2⟩ be
      have hst := KS.out.step OV.out ⟨hq1, hq2⟩ (by rw [VL.out]; exact hlt) (by rw [KR.out.ok |> fun _ => KA.out.ul]; omega) (t := carry + q * e0) (by rw [he0]) (x := z0 - (carry + q * e0) % 4294967296 - lent) (by rw [hz0]) rfl
      have hf := sub_form (z0 - (carry + q * e0) % 4294967296 - lent) (by omega) (by omega)
      have STP := Aside0.mk hst
      have KA4 := Aside0.mk (KA3.out.putU (k + i) ((z0 - (carry + q * e0) % 4294967296 - lent) % 4294967296))
      have HF := Aside0.mk hf
      rw [Nat.add_comm k i] at o1 o1f
      clear hz0 he0 hst hf
      go_wp2
      go_roundg (n - i)
      case measure => omega
      case rel =>
       rw [sub_wrap, HF.out.1, HF.out.2, Nat.add_comm i k]
       exact ⟨i + 1, _, _, by omega, by omega, rfl, rfl, by go_num, by omega, by omega, by split <;> omega, by split <;> omega, ⟨_, STP.out, KA4.out⟩⟩
     ·obtain rfl : n = i := by omega
      have KS2 := Aside0.mk (show KSub us7 vs q k vs.length carry lent ws from by rw [VL.out]; exact KS.out)
      have hkl : k + vs.length < us7.length := by
       have h1 := KS.out.len
       have h2 := KA3.out.ul
       rw [VL.out]
       omega
      obtain ⟨z0, hz0⟩ : ∃ c, c = ws.getD (k + n) 0 := ⟨_, rfl⟩
      obtain ⟨o1, o1f⟩ := KA3.out.cellU (i := k + n) (by omega)
      have bz := getD_ok KS.out.ok (k + n)
      rw [← hz0] at o1 bz
      obtain ⟨x, hx⟩ : ∃ x, x = z0 - carry - lent := ⟨_, rfl⟩
      have hf := sub_form x (by omega) (by omega)
      have hww : IntKind.u64.wrap (IntKind.u64.wrap (z0 - carry) - lent) = IntKind.u64.wrap x := by rw [sub_wrap, hx]
      have hwb : 0 ≤ IntKind.u64.wrap x ∧ IntKind.u64.wrap x ≤ 18446744073709551615 := by rw [wrapU]; omega
      have hxb : -4294967297 ≤ x ∧ x < 4294967296 := by omega
      obtain ⟨hok5, hlo5, hhi5, hval5⟩ := KS2.out.top hkl (x := x) (by rw [VL.out, ← hz0]; exact hx) rfl
      rw [VL.out] at hok5 hlo5 hhi5 hval5
      have TP := Aside0.mk (And.intro hok5 (And.intro hlo5 (And.intro hhi5 hval5)))
      have KA5 := Aside0.mk (KA3.out.putU (k + n) (x % 4294967296))
      have HZ := Aside0.mk (And.intro hz0 hx)
      obtain ⟨xw, hxw⟩ : ∃ t, t = IntKind.u64.wrap x := ⟨_, rfl⟩
      rw [← hxw] at hf hww hwb
      have HF := Aside0.mk hf
      have hs32 := hf.2
      obtain ⟨xm, hxm⟩ : ∃ t, t = x % 4294967296 := ⟨_, rfl⟩
      have hxm0 : 0 ≤ xm ∧ xm < 4294967296 := by omega
      rw [← hxm] at hs32 KA5 TP
      have HXM := Aside0.mk hxm
      have UL := Aside0.mk (show us7.length = xs.length + 1 from by have h1 := KS.out.len; have h2 := KA3.out.ul; omega)
      have OL := Aside0.mk KA3.out.ol
      have hkm : k < m := by omega
      clear hz0 hx hf hok5 hlo5 hhi5 hval5 hxm hxw KA KA3 KS
      by_cases hneg : x < 0
      ·have hs63 : xw / 9223372036854775808 = 1 := by have := HF.out.1; rw [if_pos hneg] at this; exact this
       have hval := TP.out.2.2.2
       rw [if_pos hneg, Int.mul_one] at hval
       have hq11 := borrow_pos (k := k) (by rw [KA5.out.ul, UL.out]) (by rw [UL.out]; omega) TP.out.1 KR.out.ok TP.out.2.2.1 hq1 hval
       have HVAL := Aside0.mk hval
       obtain ⟨ws5, hws5⟩ : ∃ l, l = ws.set (k + n) xm := ⟨_, rfl⟩
       rw [← hws5] at KA5 TP HVAL
       clear hxb hval hws5
       go_wp2
       go_loopg [18, 251] (n + 1) (fun gk3 s18 s251 wx => ∃ (i : Nat) (ca : Int), i ≤ n ∧ n < gk3 + i ∧ s18 = .int .u64 ca ∧ s251 = .int .i64 i ∧ 0 ≤ ca ∧ ca ≤ 1 ∧
        Aside0 (∃ zs, KAdd ws5 vs k i ca zs ∧ KAt w3 wx gu cu ho (xs.length + 1) m zs os7))
       case atStart => exact ⟨0, 0, Nat.zero_le _, by omega, rfl, rfl, by omega, by omega, ⟨_, KAdd.start TP.out.1 vs k, KA5.out⟩⟩
       case round =>
        obtain ⟨i, ca, hi2, hgi2, rfl, rfl, hc20, hc21, ⟨zs, hKD, hKA⟩⟩ := hrel
        have KD := Aside0.mk hKD
        have KA7 := Aside0.mk hKA
        clear hKD hKA
        have hzl : zs.length = xs.length + 1 := KA7.out.ul
        have hwl : ws5.length = xs.length + 1 := KA5.out.ul
        have HZL := Aside0.mk (And.intro hzl hwl)
        clear hzl hwl
        by_cases hlt2 : i < n
        ·obtain ⟨z1, hz1⟩ : ∃ c, c = zs.getD (k + i) 0 := ⟨_, rfl⟩
         obtain ⟨e1, he1⟩ : ∃ c, c = vs.getD i 0 := ⟨_, rfl⟩
         obtain ⟨o3, o3f⟩ := KA7.out.cellU (i := k + i) (by omega)
         obtain ⟨o4, -⟩ := (DV3.out.below KA7.out.lo).at_ (k := i) (by rw [VL.out]; exact hlt2)
         have bz1 := getD_ok KD.out.ok (k + i)
         have be1 := getD_ok OV.out i
         rw [← hz1] at o3 bz1
         rw [← he1] at o4 be1
         have hst := KD.out.step OV.out (by rw [VL.out]; exact hlt2) (by rw [HZL.out.2]; omega) (t := ca + (z1 + e1)) (by rw [hz1, he1])
         have STP := Aside0.mk hst
         obtain ⟨p5, hp5⟩ : ∃ p, p = i + k := ⟨_, rfl⟩
         have s5 : IntKind.i64.wrap ((i : Int) + (k : Int)) = (p5 : Int) := by rw [IntWalk.i64_in _ (by omega)]; omega
         have l5 : p5 < xs.length + 1 := by omega
         have HP5 := Aside0.mk hp5
         rw [Nat.add_comm k i] at o3 o3f
         have O3 := Aside0.mk (And.intro o3 o3f)
         rw [← hp5] at o3
         clear hz1 he1 hst hp5 o3f o1 o1f
         go_wp2
         go_quiet (fail)
         have KA8 := Aside0.mk (KA7.out.drewN nq)
         have q5 : (wr.drewN nq).cell? ⟨gu, i + k, none⟩ = some (.int .u32 z1) := O3.out.1
         have q5f : (wr.drewN nq).frozen? ⟨gu, i + k, none⟩ = false := O3.out.2
         clear s5 o3 o4 O3 KA7
         generalize wr.drewN nq = wr9 at KA8 q5 q5f ⊢
         have KA9 := Aside0.mk (KA8.out.putU (k + i) ((ca + (z1 + e1)) % 4294967296))
         go_wp2
         go_roundg (n - i)
         case measure => omega
         case rel =>
          rw [Nat.add_comm i k]
          exact ⟨i + 1, _, by omega, by omega, rfl, by go_num, by omega, by omega, ⟨_, STP.out, KA9.out⟩⟩
        ·obtain rfl : n = i := by omega
         have KD2 := Aside0.mk (show KAdd ws5 vs k vs.length ca zs from by rw [VL.out]; exact KD.out)
         obtain ⟨z1, hz1⟩ : ∃ c, c = zs.getD (k + n) 0 := ⟨_, rfl⟩
         obtain ⟨o3, o3f⟩ := KA7.out.cellU (i := k + n) (by omega)
         have bz1 := getD_ok KD.out.ok (k + n)
         rw [← hz1] at o3 bz1
         obtain ⟨h6a, h6b, h6c, h6d, h6e⟩ := KD2.out.top (by rw [HZL.out.2, VL.out]; omega) (x := z1 + ca) (by rw [VL.out, ← hz1]) rfl
         rw [VL.out] at h6a h6b h6c h6d
         have KA8 := Aside0.mk (KA7.out.putU (k + n) ((z1 + ca) % 4294967296))
         have hback := KR.out.back OV.out (by rw [VL.out, UL.out]; omega) (by rw [OL.out]; exact hkm) ⟨hq1, hq2⟩ HVP.out QQ.out (by rw [HZL.out.2, UL.out]) TP.out.1 TP.out.2.1 (by rw [VL.out]; exact TP.out.2.2.1) (by rw [VL.out]; exact HVAL.out)
          (by rw [KA8.out.ul, UL.out]) h6a (h6b.trans TP.out.2.1) (by rw [VL.out]; exact h6c.trans TP.out.2.2.1) (by rw [VL.out]; exact h6d) h6e
         have BK := Aside0.mk hback.2
         obtain ⟨r1, r1f⟩ := KA8.out.cellO (i := k) hkm
         have KA9 := Aside0.mk (KA8.out.putO k (q - 1))
         clear hz1 h6a h6b h6c h6d h6e hback o1 o1f KA7
         go_wp2
         go_roundg (k + 1)
         case measure => omega
         case rel => exact ⟨k, by omega, Nat.lt_succ_self _, rfl, ⟨_, _, KA9.out, BK.out⟩⟩
      ·have hs63 : xw / 9223372036854775808 = 0 := by have := HF.out.1; rw [if_neg hneg] at this; exact this
       obtain ⟨r1, r1f⟩ := KA5.out.cellO (i := k) hkm
       have KA6 := Aside0.mk (KA5.out.putO k q)
       have hval := TP.out.2.2.2
       rw [if_neg hneg, Int.mul_zero, Int.add_zero] at hval
       have RT := Aside0.mk (KR.out.right OV.out (by rw [VL.out, UL.out]; omega) (by rw [OL.out]; exact hkm) ⟨hq1, hq2⟩ HVP.out QQ.out (by rw [KA5.out.ul, UL.out]) TP.out.1 TP.out.2.1 (by rw [VL.out]; exact TP.out.2.2.1) hval)
       clear hxb hval
       go_wp2
       go_roundg (k + 1)
       case measure => omega
       case rel => exact ⟨k, by omega, Nat.lt_succ_self _, rfl, ⟨_, _, KA6.out, RT.out⟩⟩
end Go.Proofs.YtlkomiiijhphnaaDoor.Big
namespace Go.Proofs.YtlkomiiijhphnaaDoor.Big
open Go.RowKit Go.Proofs.YtlkomiiijhphnaaDoorW.PrintWords Go.Proofs.YtlkomiiijhphnaaDoorW.PrintLast Go.Proofs.YtlkomiiijhphnaaDoorW.PrintMore Go.Proofs.YtlkomiiijhphnaaDoor.Math
set_option linter.unusedVariables false
set_option linter.unusedSimpArgs false
theorem divide_calls (xs ys : List Int) (vx vy : Value) (w : World) (hx : Digs w vx xs) (hy : Digs w vy ys) (ox : Okd xs) (oy : Okd ys) (tx : Tight xs) (ty : Tight ys) (hb : xs.length ≤ 500000) (hb2 : ys.length ≤ 500000) (hne : ys ≠ []) :
  Calls Tryd.prog 82 #[vx, vy] w (Divided w xs ys) := by
 by_cases hlt : val xs < val ys
 ·exact divide_less xs ys vx vy w hx hy ox oy tx ty (by omega) (by omega) hlt
 ·rcases snoc_cases ys with rfl | ⟨l, y, rfl⟩
  ·exact absurd rfl hne
  ·rcases (show l = [] ∨ 1 ≤ l.length from by cases l with | nil => exact .inl rfl | cons _ _ => exact .inr (by simp)) with rfl | h
   ·exact divide_short xs y vx vy w hx hy ox oy tx ty (by omega) (by simpa using hlt)
   ·exact divide_long xs l y vx vy w hx hy ox oy tx ty hb h (by omega)
theorem tdiv_bval {nx ny : Bool} {xs ys qs : List Int} (ox : Okd xs) (oy : Okd ys) (h : val qs = val xs / val ys) : bval (nx != ny) qs = Int.tdiv (bval nx xs) (bval ny ys) := by
 have h1 := val_nonneg ox
 have h2 := val_nonneg oy
 have e := Int.tdiv_eq_ediv_of_nonneg (b := val ys) h1
 cases nx <;> cases ny <;> simp [bval, h, Int.neg_tdiv, Int.tdiv_neg, e]
theorem tmod_bval {nx ny : Bool} {xs ys rs : List Int} (ox : Okd xs) (oy : Okd ys) (h : val rs = val xs % val ys) : bval nx rs = Int.tmod (bval nx xs) (bval ny ys) := by
 have h1 := val_nonneg ox
 have h2 := val_nonneg oy
 have e := Int.tmod_eq_emod_of_nonneg (b := val ys) h1
 cases nx <;> cases ny <;> simp [bval, h, Int.neg_tmod, Int.tmod_neg, e]
def QuoRemPost (w : World) (z r : Nat) (q t : Int) (m : Nat) (e : Ending) (w' : World) : Prop :=
 e = .returned (.tuple #[.pointer (some ⟨z, 0, none⟩), .pointer (some ⟨r, 0, none⟩)]) ∧ Big w' z q m ∧ Big w' r t m ∧ ∃ w1, w.grownBy w1 (some r) ∧ w1.grownBy w' (some z)
set_option maxRecDepth 100000 in
set_option maxHeartbeats 4000000 in
theorem quoRem_walk (z x y r : Nat) (nx ny : Bool) (xs ys : List Int) (A B : Option Addr) (c d : Nat) (w : World) (hz : IsBig w z) (hr : IsBig w r) (hzr : z ≠ r) (hx : Opd w x nx xs A c) (hy : Opd w y ny ys B d) (hm1 : xs.length ≤ 500000) (hm2 : ys.length ≤ 500000) (hne : ys ≠ []) :
  Calls Tryd.prog 38 #[.pointer (some ⟨z, 0, none⟩), .pointer (some ⟨x, 0, none⟩), .pointer (some ⟨y, 0, none⟩), .pointer (some ⟨r, 0, none⟩)] w (QuoRemPost w z r (Int.tdiv (bval nx xs) (bval ny ys)) (Int.tmod (bval nx xs) (bval ny ys)) xs.length) := by
 have HZ := Aside0.mk hz
 have HR := Aside0.mk hr
 have HX := Aside0.mk hx
 have HY := Aside0.mk hy
 have NE := Aside0.mk (And.intro hzr hne)
 obtain ⟨c0, c1, -, -, -, -, hlen⟩ := hx
 obtain ⟨e0, e1, -, -, -, -, hlen2⟩ := hy
 clear hz hr hzr hne
 go_enter Tryd.func38, Tryd.ntmps38
 go_upto_region 1 with fail
 go_cut [10, 11] (fun s10 s11 wx => Aside0 (∃ qs rs, Digs wx s10 qs ∧ Digs wx s11 rs ∧ Okd qs ∧ Okd rs ∧ val qs = val xs / val ys ∧ val rs = val xs % val ys ∧ qs.length ≤ xs.length ∧ rs.length ≤ xs.length ∧ Below w.heap.size w wx))
 case first =>
  go_region_with (((with_reducible refine (divide_calls xs ys _ _ _ ?hx ?hy HX.out.ok HY.out.ok HX.out.ti HY.out.ti hm1 hm2 NE.out.2).mono ?_); (case hx => exact HX.out.d.below (Below.refl _ _).drew); (case hy => exact HY.out.d.below (Below.refl _ _).drew); rintro e w1 ⟨v1, v2, qs, rs, rfl, hq, hrs, oq, or_, eq_, er, lq, lr, hb⟩; have HF := Aside0.mk (And.intro hq (And.intro hrs (And.intro oq (And.intro or_ (And.intro eq_ (And.intro er (And.intro lq (And.intro lr ((Below.refl w.heap.size w).drew.trans hb))))))))); clear hq hrs oq or_ eq_ er lq lr hb))
  all_goals
   go_wp2
   go_meet
   exact ⟨qs, rs, HF.out⟩
 case rest =>
  obtain ⟨qs, rs, hq, hrs, oq, or_, eq_, er, lq, lr, hb⟩ := hcut
  obtain ⟨Q, cq, rfl⟩ := hq.shape
  obtain ⟨R, cr, rfl⟩ := hrs.shape
  have HQ := Aside0.mk hq
  have HRS := Aside0.mk hrs
  have HB := Aside0.mk hb
  have HF := Aside0.mk (And.intro oq (And.intro or_ (And.intro eq_ (And.intro er (And.intro lq lr)))))
  have c0' := pw_cell_below hb c0
  have e0' := pw_cell_below hb e0
  have hlr : rs.length ≤ 500000 := by omega
  clear hq hrs oq or_ eq_ er lq lr hb c0 c1 e0 e1
  go_wp2
  go_quiet (fail)
  have hqd : Below w.heap.size w (wc.drewN nq) := pw_below_drewN HB.out nq
  have HQ2 := Aside0.mk (HQ.out.below (pw_below_drewN (Below.refl _ _) nq))
  have HR2 := Aside0.mk (HRS.out.below (pw_below_drewN (Below.refl _ _) nq))
  have HB2 := Aside0.mk hqd
  obtain ⟨nb, hnb⟩ : ∃ b, b = (nx != ny) := ⟨_, rfl⟩
  rw [show (!nx == ny) = nb from by rw [hnb]; rfl]
  have HNB := Aside0.mk hnb
  clear c0' e0' HQ HRS HB hqd hnb
  generalize wc.drewN nq = w2 at HQ2 HR2 HB2 ⊢
  go_wp2_with (at_builtin; refine wpList_copy rfl _ _ rfl w2.heap.size _ rs rfl rfl (heap_alloc_new w2 _) (HR2.out.below (below_alloc (Below.refl _ _) _)) (by omega) ?_; intro v3 w3 hd3 hg3)
  have hb3 := below_of_grown (below_alloc (Below.refl w2.heap.size w2) (.cells #[] 85)) hg3 (Nat.le_refl _)
  have D3 := Aside0.mk hd3
  have B3 := Aside0.mk (HB2.out.trans (hb3.mono HB2.out.size))
  have HQ3 := Aside0.mk (HQ2.out.below hb3)
  clear hd3 hg3 hb3
  refine (put_big r nx v3 rs _ (HR.out.below B3.out) D3.out HF.out.2.1).mono ?_
  rintro e w4 ⟨rfl, hb4, hg4⟩
  have G4 := Aside0.mk ((below_grownBy B3.out (some r)).trans hg4)
  have HB4 := Aside0.mk hb4
  have HQ4 := Aside0.mk (HQ3.out.grown hg4 (HR.out.below B3.out))
  have HZ4 := Aside0.mk ((HZ.out.below B3.out).grown hg4 NE.out.1)
  clear hb4 hg4
  go_wp2_with fail
  refine (put_big z nb _ qs _ HZ4.out HQ4.out HF.out.1).mono ?_
  rintro e w5 ⟨rfl, hb5, hg5⟩
  have HB5 := Aside0.mk hb5
  have HB6 := Aside0.mk (HB4.out.grown hg5 HZ4.out (fun e => NE.out.1 e.symm))
  have G5 := Aside0.mk hg5
  clear hb5 hg5
  go_wp2
  go_ret2
  obtain ⟨h1, h2, h3, h4, h5, h6⟩ := HF.out
  refine ⟨rfl, ?_, ?_, w4, G4.out, G5.out⟩
  ·rw [← tdiv_bval HX.out.ok HY.out.ok h3, ← HNB.out]
   exact HB5.out.more h5
  ·rw [← tmod_bval HX.out.ok HY.out.ok h4]
   exact HB6.out.more h6
theorem quoRem_calls (z x y r : Nat) (n k : Int) (m1 m2 : Nat) (w : World) (hz : IsBig w z) (hr : IsBig w r) (hzr : z ≠ r) (hx : Big w x n m1) (hy : Big w y k m2) (hm1 : m1 ≤ 500000) (hm2 : m2 ≤ 500000) (hk : k ≠ 0) :
  Calls Tryd.prog 38 #[.pointer (some ⟨z, 0, none⟩), .pointer (some ⟨x, 0, none⟩), .pointer (some ⟨y, 0, none⟩), .pointer (some ⟨r, 0, none⟩)] w (QuoRemPost w z r (Int.tdiv n k) (Int.tmod n k) m1) := by
 obtain ⟨nx, xs, A, c, hxo, rfl, hlx⟩ := hx.opd (by omega)
 obtain ⟨ny, ys, B, d, hyo, rfl, hly⟩ := hy.opd (by omega)
 refine (quoRem_walk z x y r nx ny xs ys A B c d w hz hr hzr hxo hyo (by omega) (by omega) ?_).mono ?_
 ·rintro rfl
  apply hk
  cases ny <;> rfl
 ·rintro e w' ⟨h1, h2, h3, h4⟩
  exact ⟨h1, h2.more hlx, h3.more hlx, h4⟩
end Go.Proofs.YtlkomiiijhphnaaDoor.Big
namespace Go.Proofs.YtlkomiiijhphnaaDoor.Big
open Go.RowKit Go.Proofs.YtlkomiiijhphnaaDoorW.PrintWords Go.Proofs.YtlkomiiijhphnaaDoorW.PrintLast Go.Proofs.YtlkomiiijhphnaaDoorW.PrintMore Go.Proofs.YtlkomiiijhphnaaDoor.Math
set_option linter.unusedVariables false
set_option linter.unusedSimpArgs false
structure NewAt (w wr : World) (x p : Nat) (n now : Int) (m : Nat) : Prop where
 lo : Below w.heap.size w wr
 bx : Big wr x n m
 bp : Big wr p now (m + 1)
 ph : w.heap.size ≤ p
 pos : 0 < now
 hi : now < 4294967296 ^ (m + 1)
 ab : n < (now + 1) * (now + 1)
theorem NewAt.below {w wr w1 : World} {x p : Nat} {n now : Int} {m : Nat} (h : NewAt w wr x p n now m) (hb : Below wr.heap.size wr w1) : NewAt w w1 x p n now m :=
 ⟨h.lo.trans (hb.mono h.lo.size), h.bx.below hb, h.bp.below hb, h.ph, h.pos, h.hi, h.ab⟩
end Go.Proofs.YtlkomiiijhphnaaDoor.Big
