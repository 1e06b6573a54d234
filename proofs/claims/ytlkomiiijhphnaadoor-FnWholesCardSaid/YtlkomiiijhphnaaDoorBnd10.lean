/- The contract of impl.DivideWholes in plain words. Condition: at most 1000000000 limbs. -/
import Derived.Test.YtlkomiiijhphnaaDoorBndB
import Derived.Test.YtlkomiiijhphnaaDoorBigF
import Derived.Test.YtlkomiiijhphnaaDoorG10
namespace Go.Proofs.YtlkomiiijhphnaaDoor
open Go.RowKit Go.Proofs.YtlkomiiijhphnaaDoorW.PrintWords Go.Proofs.YtlkomiiijhphnaaDoorW.PrintLast Go.Proofs.YtlkomiiijhphnaaDoorW.PrintMore Go.Proofs.YtlkomiiijhphnaaDoor.Math Go.Proofs.YtlkomiiijhphnaaDoor.Big Go.Proofs.YtlkomiiijhphnaaDoor.Sq
set_option linter.unusedVariables false
set_option linter.unusedSimpArgs false
theorem big_alloc {w : World} {b : Nat} {n : Int} {m : Nat} (h : Big w b n m) (o : Obj) : Big (w.alloc o) b n m := h.below (below_alloc (Below.refl _ _) _)
theorem big_drew {w : World} {b : Nat} {n : Int} {m : Nat} (h : Big w b n m) : Big w.drew b n m := h.below (Below.refl _ _).drew
theorem is_drew {w : World} {b : Nat} (h : IsBig w b) : IsBig w.drew b := h.below (Below.refl _ _).drew
theorem cell_far_ {w : World} {p q : Addr} {u v : Value} (hne : p.block ≠ q.block) (h : w.cell? q = some v) : (w.setCell p u).cell? q = some v :=
 (World.cell?_setCell_far _ _ _ _ hne).trans h
theorem cell_drew_ {w : World} {q : Addr} {v : Value} (h : w.cell? q = some v) : w.drew.cell? q = some v := h
structure DivBox (w wr : World) (a : Int) (A : Option Addr) (c : Nat) (l : List Int) (b : Int) (B : Option Addr) (d : Nat) (m : List Int) : Prop where
 two : TwoBox w wr a A c l b B d m
 r1 : wr.heap[w.heap.size + 2]? = some (.cells #[.int .i64 0, .slice none 0 0] 26 (0, 0))
 r2 : wr.heap[w.heap.size + 3]? = some (.cells #[.int .i64 0, .slice none 0 0] 26 (0, 0))
theorem DivBox.below {w wr w1 : World} {a : Int} {A : Option Addr} {c : Nat} {l : List Int} {b : Int} {B : Option Addr} {d : Nat} {m : List Int} (h : DivBox w wr a A c l b B d m) (hb : Below wr.heap.size wr w1) : DivBox w w1 a A c l b B d m :=
 ⟨h.two.below hb, blk_below h.r1 hb, blk_below h.r2 hb⟩
theorem DivBox.start (w : World) (a : Int) (A : Option Addr) (c : Nat) (l : List Int) (b : Int) (B : Option Addr) (d : Nat) (m : List Int) :
  DivBox w ((((w.alloc (.cells #[.int .i64 a, .slice A l.length c] 26)).alloc (.cells #[.int .i64 b, .slice B m.length d] 26)).alloc (.cells #[.int .i64 0, .slice none 0 0] 26)).alloc (.cells #[.int .i64 0, .slice none 0 0] 26)) a A c l b B d m := by
 have h := TwoBox.start w a A c l b B d m
 have h1 := heap_alloc_new ((w.alloc (.cells #[.int .i64 a, .slice A l.length c] 26)).alloc (.cells #[.int .i64 b, .slice B m.length d] 26)) (.cells #[.int .i64 0, .slice none 0 0] 26)
 have h2 := heap_alloc_new (((w.alloc (.cells #[.int .i64 a, .slice A l.length c] 26)).alloc (.cells #[.int .i64 b, .slice B m.length d] 26)).alloc (.cells #[.int .i64 0, .slice none 0 0] 26)) (.cells #[.int .i64 0, .slice none 0 0] 26)
 rw [alloc_size, alloc_size] at h1
 rw [alloc_size, alloc_size, alloc_size] at h2
 exact ⟨(h.below (below_alloc (Below.refl _ _) _)).below (below_alloc (Below.refl _ _) _), blk_alloc h1 _, h2⟩
theorem DivBox.cells {w wr : World} {a : Int} {A : Option Addr} {c : Nat} {l : List Int} {b : Int} {B : Option Addr} {d : Nat} {m : List Int} (h : DivBox w wr a A c l b B d m) :
  wr.cell? ⟨w.heap.size + 2, 0, none⟩ = some (.int .i64 0) ∧ wr.cell? ⟨w.heap.size + 2, 1, none⟩ = some (.slice none 0 0) ∧ wr.cell? ⟨w.heap.size + 3, 0, none⟩ = some (.int .i64 0) ∧ wr.cell? ⟨w.heap.size + 3, 1, none⟩ = some (.slice none 0 0) ∧
  wr.frozen? ⟨w.heap.size + 2, 0, none⟩ = false ∧ wr.frozen? ⟨w.heap.size + 2, 1, none⟩ = false ∧ wr.frozen? ⟨w.heap.size + 3, 0, none⟩ = false ∧ wr.frozen? ⟨w.heap.size + 3, 1, none⟩ = false :=
 ⟨(blk_cell h.r1 0).trans rfl, (blk_cell h.r1 1).trans rfl, (blk_cell h.r2 0).trans rfl, (blk_cell h.r2 1).trans rfl, blk_frozen h.r1 0, blk_frozen h.r1 1, blk_frozen h.r2 0, blk_frozen h.r2 1⟩
def divres (s : Int) (l : List Int) (t : Int) (m : List Int) : Int × List Int × Int × List Int × Int :=
 if isW s l && isW t m then (if t = 0 then (0, [], 0, [], 5) else (sgn (Int.tdiv (wv s l) (wv t m)), limbs (Int.tdiv (wv s l) (wv t m)).natAbs, sgn (Int.tmod (wv s l) (wv t m)), limbs (Int.tmod (wv s l) (wv t m)).natAbs, 0)) else (0, [], 0, [], 1)
def TwoRows (w w' : World) (v1 v2 : Value) (q r : List Int) : Prop :=
 Kd.R (Kd.int .i64) 2 w' w.heap.size (fun k => some k ≠ v2.ownBlock) v1 q ∧ Kd.R (Kd.int .i64) 2 w' w.heap.size (fun k => some k ≠ v1.ownBlock) v2 r
theorem wfit_small {n : Int} (h : n.natAbs < 16777216 ^ 200) : wfit n = (sgn n, limbs n.natAbs, 0) := by
 unfold wfit
 rw [if_pos ((limbs_len_iff n 200).1 (limbs_length_le h))]
theorem natAbs_wv {s : Int} {l : List Int} (h : isW s l = true) : (wv s l).natAbs < 16777216 ^ 200 := by
 have hc := isW_cw h
 have h1 := limbs_lt (wv s l).natAbs
 rw [← hc.limbs] at h1
 exact Nat.lt_of_lt_of_le h1 (Nat.pow_le_pow_right (by omega) (isW_len h))
theorem tdiv_small {a b : Int} : (Int.tdiv a b).natAbs ≤ a.natAbs := by
 rw [Int.natAbs_tdiv]
 exact Nat.div_le_self _ _
theorem tmod_small {a b : Int} : (Int.tmod a b).natAbs ≤ a.natAbs := by
 rw [Int.natAbs_tmod]
 exact Nat.mod_le _ _
theorem two_none (w w' : World) : TwoRows w w' (.slice none 0 0) (.slice none 0 0) [] [] :=
 ⟨Kd.R_nil _ _ _ _ _, Kd.R_nil _ _ _ _ _⟩
def divEnd (w wr : World) (a1 v1 a2 v2 : Value) : World := (((wr.setCell ⟨w.heap.size + 2, 0, none⟩ a1).setCell ⟨w.heap.size + 2, 1, none⟩ v1).setCell ⟨w.heap.size + 3, 0, none⟩ a2).setCell ⟨w.heap.size + 3, 1, none⟩ v2
theorem DivBox.fin {w wr : World} {a : Int} {A : Option Addr} {c : Nat} {l : List Int} {b : Int} {B : Option Addr} {d : Nat} {m : List Int} (h : DivBox w wr a A c l b B d m) (a1 v1 a2 v2 : Value) :
  (divEnd w wr a1 v1 a2 v2).heap[w.heap.size + 2]? = some (.cells #[a1, v1] 26 (0, 0)) ∧ (divEnd w wr a1 v1 a2 v2).heap[w.heap.size + 3]? = some (.cells #[a2, v2] 26 (0, 0)) ∧ Below w.heap.size w (divEnd w wr a1 v1 a2 v2) ∧
  ∀ (base n : Nat) (u : Value) (xs : List Value), wr.ownsRow base 2 1 u n xs → (divEnd w wr a1 v1 a2 v2).ownsRow base 2 1 u n xs := by
 have e1 := blk_put (cs := #[a1, .slice none 0 0]) (blk_put (cs := #[.int .i64 0, .slice none 0 0]) h.r1 0 a1 rfl) 1 v1 rfl
 have n32 : ∀ i u (W : World), W.heap[w.heap.size + 3]? = some (.cells #[.int .i64 0, .slice none 0 0] 26 (0, 0)) → (W.setCell ⟨w.heap.size + 2, i, none⟩ u).heap[w.heap.size + 3]? = some (.cells #[.int .i64 0, .slice none 0 0] 26 (0, 0)) :=
  fun i u W hh => blk_grown hh (grownBy_store _ _ _ _) (by simp)
 have e2 := n32 1 v1 _ (n32 0 a1 _ h.r2)
 have e3 := blk_put (cs := #[a2, .slice none 0 0]) (blk_put (cs := #[.int .i64 0, .slice none 0 0]) e2 0 a2 rfl) 1 v2 rfl
 refine ⟨?_, e3, ?_, ?_⟩
 ·exact blk_grown (blk_grown e1 (grownBy_store _ _ _ _) (by simp)) (grownBy_store _ _ _ _) (by simp)
 ·exact (((h.two.lo.setCell (show w.heap.size ≤ (⟨w.heap.size + 2, 0, none⟩ : Addr).block from Nat.le_add_right _ _) _).setCell (show w.heap.size ≤ (⟨w.heap.size + 2, 1, none⟩ : Addr).block from Nat.le_add_right _ _) _).setCell (show w.heap.size ≤ (⟨w.heap.size + 3, 0, none⟩ : Addr).block from Nat.le_add_right _ _) _).setCell (show w.heap.size ≤ (⟨w.heap.size + 3, 1, none⟩ : Addr).block from Nat.le_add_right _ _) _
 ·intro base n u xs hr
  have g1 := blk_put (cs := #[.int .i64 0, .slice none 0 0]) h.r1 0 a1 rfl
  have g2 := blk_put (cs := #[.int .i64 0, .slice none 0 0]) e2 0 a2 rfl
  exact row_store (row_store (row_store (row_store hr h.r1) g1) e2) g2
theorem two_rows {w wr W : World} {v1 v2 : Value} {q r : List Int} {b1 b2 : Nat} (h1 : wr.ownsRow b1 2 1 v1 q.length (nums .i64 q)) (h2 : wr.ownsRow b2 2 1 v2 r.length (nums .i64 r)) (hw : w.heap.size ≤ b1) (hb : b1 ≤ b2) (hlt : ∀ k, v1.ownBlock = some k → k < b2)
  (hk : ∀ (base n : Nat) (u : Value) (xs : List Value), wr.ownsRow base 2 1 u n xs → W.ownsRow base 2 1 u n xs) : TwoRows w W v1 v2 q r := by
 have hne : ∀ k, v1.ownBlock = some k → some k ≠ v2.ownBlock := fun k h e => by
  have := own_base h2 k e.symm
  have := hlt k h
  omega
 refine ⟨Kd.R_of_own (own_weaken (hk _ _ _ _ h1) hw) hne, Kd.R_of_own (own_weaken (hk _ _ _ _ h2) (by omega)) (fun k h e => ?_)⟩
 exact hne k e.symm h.symm
set_option maxRecDepth 100000 in
set_option maxHeartbeats 8000000 in
theorem divideWholes_calls (a0_0 : Int) (A0_1 : Option Addr) (c0_1 : Nat) (l0_1 : List Int) (a1_0 : Int) (A1_1 : Option Addr) (c1_1 : Nat) (l1_1 : List Int) (r1 : Int) (r2 : List Int) (r3 : Int) (r4 : List Int) (r5 : Int) (w : World) (hr0_1 : Kd.C (Kd.int .i64) w A0_1 l0_1.length l0_1) (hc0_1 : l0_1.length ≤ c0_1) (hr1_1 : Kd.C (Kd.int .i64) w A1_1 l1_1.length l1_1) (hc1_1 : l1_1.length ≤ c1_1) (hl : l0_1.length ≤ 1000000000 ∧ l1_1.length ≤ 1000000000) (h : divres a0_0 l0_1 a1_0 l1_1 = (r1, r2, r3, r4, r5)) :
  Calls Tryd.prog 7 #[.agg #[.int .i64 a0_0, .slice A0_1 l0_1.length c0_1], .agg #[.int .i64 a1_0, .slice A1_1 l1_1.length c1_1]] w fun e w' => ∃ v1 v2 : Value, e = .returned (.tuple #[.agg #[.int .i64 r1, v1], .agg #[.int .i64 r3, v2], .int .i64 r5]) ∧ TwoRows w w' v1 v2 r2 r4 ∧ Below w.heap.size w w' := by
 have HR := am_ hr0_1
 have HS := am_ hr1_1
 have D0 := am_ (DivBox.start w a0_0 A0_1 c0_1 l0_1 a1_0 A1_1 c1_1 l1_1)
 have HL := am_ hl
 clear hr0_1 hr1_1 hl
 unfold divres at h
 cases hw : isW a0_0 l0_1
 ·rw [hw] at h
  simp only [Bool.false_and, Bool.false_eq_true, if_false, Prod.mk.injEq] at h
  obtain ⟨rfl, rfl, rfl, rfl, rfl⟩ := h
  have HW := am_ hw
  clear hw
  go_enter Tryd.func7, Tryd.ntmps7
  go_wp2_with fail
  refine (isWhole_of _ _ _ _ (Kd.C_below HR.out D0.out.two.lo) hc0_1 HL.out.1).mono ?_
  rintro e w1 ⟨rfl, hb⟩
  rw [HW.out]
  have D1 := am_ (D0.out.below hb)
  obtain ⟨q0, q1, q2, q3, q4, q5, q6, q7⟩ := D1.out.cells
  clear hb
  go_wp2_with fail
  refine bodyPost_ret (results_list (rs := [.cell 4 26, .cell 5 26, .tmp 6]) rfl (by simp) (.cell (w.heap.size + 2) 26 #[.int .i64 0, .slice none 0 0] (0, 0) _ rfl (D1.out.fin _ _ _ _).1 Tryd.underlying26 rfl (by kernel_rfl) (.cell (w.heap.size + 3) 26 #[.int .i64 0, .slice none 0 0] (0, 0) _ rfl (D1.out.fin _ _ _ _).2.1 Tryd.underlying26 rfl (by kernel_rfl) (.tmp .nil)))) rfl ?_
  exact ⟨_, _, rfl, two_none _ _, (D1.out.fin _ _ _ _).2.2.1⟩
 ·have HW := am_ hw
  cases hv : isW a1_0 l1_1
  ·rw [hw, hv] at h
   simp only [Bool.and_false, Bool.false_eq_true, if_false, Prod.mk.injEq] at h
   obtain ⟨rfl, rfl, rfl, rfl, rfl⟩ := h
   have HV := am_ hv
   clear hw hv
   go_enter Tryd.func7, Tryd.ntmps7
   go_wp2_with fail
   refine (isWhole_of _ _ _ _ (Kd.C_below HR.out D0.out.two.lo) hc0_1 HL.out.1).mono ?_
   rintro e w1 ⟨rfl, hb⟩
   rw [HW.out]
   have D1 := am_ (D0.out.below hb)
   obtain ⟨p0, p1, p2, p3⟩ := D1.out.two.cells
   clear hb
   go_wp2_with fail
   refine (isWhole_of _ _ _ _ (Kd.C_below HS.out D1.out.two.lo) hc1_1 HL.out.2).mono ?_
   rintro e w2 ⟨rfl, hb⟩
   rw [HV.out]
   have D2 := am_ (D1.out.below hb)
   obtain ⟨q0, q1, q2, q3, q4, q5, q6, q7⟩ := D2.out.cells
   clear hb p0 p1 p2 p3
   go_wp2_with fail
   refine bodyPost_ret (results_list (rs := [.cell 4 26, .cell 5 26, .tmp 6]) rfl (by simp) (.cell (w.heap.size + 2) 26 #[.int .i64 0, .slice none 0 0] (0, 0) _ rfl (D2.out.fin _ _ _ _).1 Tryd.underlying26 rfl (by kernel_rfl) (.cell (w.heap.size + 3) 26 #[.int .i64 0, .slice none 0 0] (0, 0) _ rfl (D2.out.fin _ _ _ _).2.1 Tryd.underlying26 rfl (by kernel_rfl) (.tmp .nil)))) rfl ?_
   exact ⟨_, _, rfl, two_none _ _, (D2.out.fin _ _ _ _).2.2.1⟩
  ·rw [hw, hv] at h
   simp only [Bool.and_self, if_true] at h
   have HV := am_ hv
   clear hw hv
   by_cases ht : a1_0 = 0
   ·rw [if_pos ht] at h
    simp only [Prod.mk.injEq] at h
    obtain ⟨rfl, rfl, rfl, rfl, rfl⟩ := h
    have ht2 : (a1_0 == 0) = true := by simpa using ht
    clear ht
    go_enter Tryd.func7, Tryd.ntmps7
    go_wp2_with fail
    refine (isWhole_of _ _ _ _ (Kd.C_below HR.out D0.out.two.lo) hc0_1 HL.out.1).mono ?_
    rintro e w1 ⟨rfl, hb⟩
    rw [HW.out]
    have D1 := am_ (D0.out.below hb)
    obtain ⟨p0, p1, p2, p3⟩ := D1.out.two.cells
    clear hb
    go_wp2_with fail
    refine (isWhole_of _ _ _ _ (Kd.C_below HS.out D1.out.two.lo) hc1_1 HL.out.2).mono ?_
    rintro e w2 ⟨rfl, hb⟩
    rw [HV.out]
    have D2 := am_ (D1.out.below hb)
    obtain ⟨q0, q1, q2, q3, q4, q5, q6, q7⟩ := D2.out.cells
    clear hb p0 p1 p2 p3
    obtain ⟨p0, p1, p2, p3⟩ := D2.out.two.cells
    go_wp2_with fail
    refine bodyPost_ret (results_list (rs := [.cell 4 26, .cell 5 26, .tmp 6]) rfl (by simp) (.cell (w.heap.size + 2) 26 #[.int .i64 0, .slice none 0 0] (0, 0) _ rfl (D2.out.fin _ _ _ _).1 Tryd.underlying26 rfl (by kernel_rfl) (.cell (w.heap.size + 3) 26 #[.int .i64 0, .slice none 0 0] (0, 0) _ rfl (D2.out.fin _ _ _ _).2.1 Tryd.underlying26 rfl (by kernel_rfl) (.tmp .nil)))) rfl ?_
    exact ⟨_, _, rfl, two_none _ _, (D2.out.fin _ _ _ _).2.2.1⟩
   ·rw [if_neg ht] at h
    have HH := am_ h
    have ht2 : (a1_0 == 0) = false := by simpa using ht
    have hne : wv a1_0 l1_1 ≠ 0 := by
     have hc := isW_cw HV.out
     intro e
     have := hc.sgn
     rw [e] at this
     exact ht this
    have HNE := am_ hne
    clear ht h hne
    go_enter Tryd.func7, Tryd.ntmps7
    go_wp2_with fail
    refine (isWhole_of _ _ _ _ (Kd.C_below HR.out D0.out.two.lo) hc0_1 HL.out.1).mono ?_
    rintro e w1 ⟨rfl, hb⟩
    rw [HW.out]
    have D1 := am_ (D0.out.below hb)
    obtain ⟨p0, p1, p2, p3⟩ := D1.out.two.cells
    clear hb
    go_wp2_with fail
    refine (isWhole_of _ _ _ _ (Kd.C_below HS.out D1.out.two.lo) hc1_1 HL.out.2).mono ?_
    rintro e w2 ⟨rfl, hb⟩
    rw [HV.out]
    have D2 := am_ (D1.out.below hb)
    have HB := am_ (Below.refl w2.heap.size w2)
    clear hb p0 p1 p2 p3
    obtain ⟨p0, p1, p2, p3⟩ := D2.out.two.cells
    go_upto_region 5 with fail
    go_cut [7, 8] (fun s7 s8 wx => ∃ z r : Nat, s7 = .pointer (some ⟨z, 0, none⟩) ∧ s8 = .pointer (some ⟨r, 0, none⟩) ∧ Aside0 (Big wx z (Int.tdiv (wv a0_0 l0_1) (wv a1_0 l1_1)) 200 ∧ Big wx r (Int.tmod (wv a0_0 l0_1) (wv a1_0 l1_1)) 200 ∧ Below w2.heap.size w2 wx))
    case first =>
     have KEEP := am_ (show ∀ wx : World, Below w2.heap.size w2 wx → wx.cell? ⟨w.heap.size, 0, none⟩ = some (.int .i64 a0_0) ∧ wx.cell? ⟨w.heap.size, 1, none⟩ = some (.slice A0_1 l0_1.length c0_1) ∧ wx.cell? ⟨w.heap.size + 1, 0, none⟩ = some (.int .i64 a1_0) ∧ wx.cell? ⟨w.heap.size + 1, 1, none⟩ = some (.slice A1_1 l1_1.length c1_1) from fun wx hb => (D2.out.two.below hb).cells)
     go_region_held3 (fun wx => wx.cell? ⟨w.heap.size, 0, none⟩ = some (.int .i64 a0_0) ∧ wx.cell? ⟨w.heap.size, 1, none⟩ = some (.slice A0_1 l0_1.length c0_1) ∧ wx.cell? ⟨w.heap.size + 1, 0, none⟩ = some (.int .i64 a1_0) ∧ wx.cell? ⟨w.heap.size + 1, 1, none⟩ = some (.slice A1_1 l1_1.length c1_1)) (exact KEEP.out _ (bl_ HB)) (first
      | ((with_reducible refine (value_calls a0_0 A0_1 c0_1 l0_1 _ ?va).mono ?_); (case va => exact lims_of (Kd.C_below HR.out (D2.out.two.lo.trans ((bl_ HB).mono D2.out.two.lo.size))) HW.out); rintro e w4 ⟨b, rfl, hge, hbig, hb4⟩; (have BX := am_ (hbig.more (isW_len HW.out))); (have HS4 := below_size hb4); (try simp at HS4); (have GX := am_ hge); (replace HB := am_ (below_step (bl_ HB) hb4)); (have HB4 := am_ hb4); clear hge hbig hb4)
      | ((with_reducible refine (value_calls a1_0 A1_1 c1_1 l1_1 _ ?vb).mono ?_); (case vb => exact lims_of (Kd.C_below HS.out (D2.out.two.lo.trans ((bl_ HB).mono D2.out.two.lo.size))) HV.out); rintro e w5 ⟨b', rfl, hge, hbig, hb5⟩; (have BY := am_ (hbig.more (isW_len HV.out))); (have HS5 := below_size hb5); (try simp at HS5); (replace HB := am_ (below_step (bl_ HB) hb5)); (have HB5 := am_ hb5); clear hge hbig hb5)
      | ((with_reducible refine (quoRem_calls _ _ _ _ (wv a0_0 l0_1) (wv a1_0 l1_1) 200 200 _ ?qz ?qr ?qn ?qx ?qy (by omega) (by omega) HNE.out).mono ?_); (case qz => repeat (first | (with_reducible first | exact is_new _ | exact is_new2 _ _ | apply IsBig.alloc | apply is_drew) | (with_reducible refine IsBig.below ?_ (Aside0.out (by assumption))))); (case qr => repeat (first | (with_reducible first | exact is_new _ | exact is_new2 _ _ | apply IsBig.alloc | apply is_drew) | (with_reducible refine IsBig.below ?_ (Aside0.out (by assumption))))); (case qn => omega); (case qx => repeat (first | (with_reducible first | exact BX.out | apply big_alloc | apply big_drew) | (with_reducible refine Big.below ?_ (Aside0.out (by assumption))))); (case qy => repeat (first | (with_reducible first | exact BY.out | apply big_alloc | apply big_drew) | (with_reducible refine Big.below ?_ (Aside0.out (by assumption))))); rintro e w6 ⟨rfl, hq, hr, w7, hg1, hg2⟩; (have QQ := am_ (And.intro hq (And.intro hr (below_of_grown (below_of_grown (bl_ HB) hg1 (by omega)) hg2 (by omega))))); (replace HB := am_ QQ.out.2.2); clear hq hr hg1 hg2))
     all_goals
      go_wp2
      go_meet
      exact ⟨_, _, rfl, rfl, ⟨QQ.out.1, QQ.out.2.1, QQ.out.2.2⟩⟩
    case rest =>
     obtain ⟨z, r, rfl, rfl, ⟨hz, hr, hlo⟩⟩ := hcut
     have hsm := natAbs_wv HW.out
     have hwq := wfit_small (Nat.lt_of_le_of_lt (tdiv_small (a := wv a0_0 l0_1) (b := wv a1_0 l1_1)) hsm)
     have hwr := wfit_small (Nat.lt_of_le_of_lt (tmod_small (a := wv a0_0 l0_1) (b := wv a1_0 l1_1)) hsm)
     obtain ⟨e1, e2, e3, e4, rfl⟩ : sgn (Int.tdiv (wv a0_0 l0_1) (wv a1_0 l1_1)) = r1 ∧ limbs (Int.tdiv (wv a0_0 l0_1) (wv a1_0 l1_1)).natAbs = r2 ∧ sgn (Int.tmod (wv a0_0 l0_1) (wv a1_0 l1_1)) = r3 ∧ limbs (Int.tmod (wv a0_0 l0_1) (wv a1_0 l1_1)).natAbs = r4 ∧ 0 = r5 := by
      have h := HH.out
      simp only [Prod.mk.injEq] at h
      exact h
     rw [e1, e2] at hwq
     rw [e3, e4] at hwr
     have HWQ := am_ hwq
     have HWR := am_ hwr
     have D3 := am_ (D2.out.below hlo)
     have BZ := am_ hz
     have BR := am_ hr
     clear hz hr hlo hsm hwq hwr e1 e2 e3 e4 p0 p1 p2 p3
     go_wp2_with fail
     refine (whole_calls z _ 200 _ BZ.out (by omega) r1 r2 0 HWQ.out).mono ?_
     rintro e w4 ⟨v1, rfl, hr1, hb4⟩
     obtain ⟨A1, c1, rfl⟩ := own_slice hr1
     have D4 := am_ (D3.out.below hb4)
     have BR4 := am_ (BR.out.below hb4)
     have RW1 := am_ hr1
     have GW := am_ D3.out.two.lo.size
     have hs0 : wc.heap.size ≤ w4.heap.size := hb4.size
     clear hr1 hb4
     go_wp2_with fail
     refine (whole_calls r _ 200 _ (BR4.out.below (below_alloc (Below.refl _ _) _)) (by omega) r3 r4 0 HWR.out).mono ?_
     rintro e w5 ⟨v2, rfl, hr2, hb5⟩
     obtain ⟨A2, c2, rfl⟩ := own_slice hr2
     have hb45 := (below_alloc (Below.refl w4.heap.size w4) (.cells #[.int .i64 r1, .slice A1 r2.length c1] 26)).trans (hb5.mono (by simp))
     have D5 := am_ ((D4.out.below hb45).below (below_alloc (Below.refl _ _) (.cells #[.int .i64 r3, .slice A2 r4.length c2] 26)))
     have RW3 := am_ (own_alloc (pw_own_below RW1.out hb45) (.cells #[.int .i64 r3, .slice A2 r4.length c2] 26))
     have RW2 := am_ (own_alloc hr2 (.cells #[.int .i64 r3, .slice A2 r4.length c2] 26))
     have X1 := am_ (blk_alloc (blk_below (heap_alloc_new w4 (.cells #[.int .i64 r1, .slice A1 r2.length c1] 26)) hb5) (.cells #[.int .i64 r3, .slice A2 r4.length c2] 26))
     have X2 := am_ (heap_alloc_new w5 (.cells #[.int .i64 r3, .slice A2 r4.length c2] 26))
     have hs1 : w.heap.size + 3 < w4.heap.size := blk_lt D4.out.r2
     have hs2 : w4.heap.size < w5.heap.size := by have h := hb5.size; simp at h; omega
     have GR := am_ (show (w4.alloc (.cells #[.int .i64 r1, .slice A1 r2.length c1] 26)).heap.size = w4.heap.size + 1 from by simp)
     clear hr2 hb5 hb45
     go_wp2_with fail
     have LT1 := am_ (fun k h => own_lt RW1.out k h)
     generalize w5.alloc (.cells #[.int .i64 r3, .slice A2 r4.length c2] 26) = w6 at D5 RW3 RW2 X1 X2 ⊢
     have x1 : w6.cell? ⟨w4.heap.size, 0, none⟩ = some (.int .i64 r1) := (blk_cell X1.out 0).trans rfl
     have x2 : w6.cell? ⟨w4.heap.size, 1, none⟩ = some (.slice A1 r2.length c1) := (blk_cell X1.out 1).trans rfl
     have x3 : w6.cell? ⟨w5.heap.size, 0, none⟩ = some (.int .i64 r3) := (blk_cell X2.out 0).trans rfl
     have x4 : w6.cell? ⟨w5.heap.size, 1, none⟩ = some (.slice A2 r4.length c2) := (blk_cell X2.out 1).trans rfl
     obtain ⟨q0, q1, q2, q3, q4, q5, q6, q7⟩ := D5.out.cells
     go_region_held3 (fun wx => wx.cell? ⟨w4.heap.size, 0, none⟩ = some (.int .i64 r1) ∧ wx.cell? ⟨w4.heap.size, 1, none⟩ = some (.slice A1 r2.length c1) ∧ wx.cell? ⟨w5.heap.size, 0, none⟩ = some (.int .i64 r3) ∧ wx.cell? ⟨w5.heap.size, 1, none⟩ = some (.slice A2 r4.length c2)) ((first | ((try dsimp only); (repeat' apply And.intro) <;> (repeat (first | (with_reducible assumption) | (with_reducible refine cell_drew_ ?_) | (with_reducible refine cell_far_ (by simp; omega) ?_)))))) (fail)
     all_goals
      go_wp2
      refine bodyPost_ret (results_list (rs := [.cell 4 26, .cell 5 26, .tmp 6]) rfl (by simp) (.cell (w.heap.size + 2) 26 #[.int .i64 r1, .slice A1 r2.length c1] (0, 0) _ rfl (D5.out.fin _ _ _ _).1 Tryd.underlying26 rfl (by kernel_rfl) (.cell (w.heap.size + 3) 26 #[.int .i64 r3, .slice A2 r4.length c2] (0, 0) _ rfl (D5.out.fin _ _ _ _).2.1 Tryd.underlying26 rfl (by kernel_rfl) (.tmp .nil)))) rfl ?_
      refine ⟨_, _, rfl, two_rows RW3.out RW2.out GW.out ?_ ?_ (D5.out.fin _ _ _ _).2.2.2, ((D5.out.fin (.int .i64 r1) (.slice A1 r2.length c1) (.int .i64 r3) (.slice A2 r4.length c2)).2.2.1).drew⟩
      ·rw [GR.out]; omega
      ·intro k h
       have h2 := LT1.out k h
       rw [GR.out]; omega
def impl_DivideWholes.f (a0_0 : Int) (l0_1 : List Int) (a1_0 : Int) (l1_1 : List Int) : Option (Int × List Int × Int × List Int × Int) := if l0_1.length ≤ 1000000000 ∧ l1_1.length ≤ 1000000000 then some (divres a0_0 l0_1 a1_0 l1_1) else none
theorem impl_DivideWholes.calls (a0_0 : Int) (A0_1 : Option Addr) (c0_1 : Nat) (l0_1 : List Int) (a1_0 : Int) (A1_1 : Option Addr) (c1_1 : Nat) (l1_1 : List Int) (r1 : Int) (r2 : List Int) (r3 : Int) (r4 : List Int) (r5 : Int) (w : World) (hr0_1 : Kd.C (Kd.int .i64) w A0_1 l0_1.length l0_1) (hc0_1 : l0_1.length ≤ c0_1) (hr1_1 : Kd.C (Kd.int .i64) w A1_1 l1_1.length l1_1) (hc1_1 : l1_1.length ≤ c1_1) (h : impl_DivideWholes.f a0_0 l0_1 a1_0 l1_1 = some (r1, r2, r3, r4, r5)) :
  Calls Tryd.prog 7 #[.agg #[.int .i64 a0_0, .slice A0_1 l0_1.length c0_1], .agg #[.int .i64 a1_0, .slice A1_1 l1_1.length c1_1]] w fun e w' => ∃ v1_ v3_ : Value, e = .returned (.tuple #[.agg #[.int .i64 r1, v1_], .agg #[.int .i64 r3, v3_], .int .i64 r5]) ∧ Kd.R (Kd.int .i64) 2 w' w.heap.size (fun k_ => some k_ ≠ (v3_ : Value).ownBlock) v1_ r2 ∧ Kd.R (Kd.int .i64) 2 w' w.heap.size (fun k_ => some k_ ≠ (v1_ : Value).ownBlock) v3_ r4 ∧ Below w.heap.size w w' := by
 unfold impl_DivideWholes.f at h
 split at h
 case isFalse => cases h
 rename_i hl
 injection h with h
 refine (divideWholes_calls a0_0 A0_1 c0_1 l0_1 a1_0 A1_1 c1_1 l1_1 r1 r2 r3 r4 r5 w hr0_1 hc0_1 hr1_1 hc1_1 hl h).mono ?_
 rintro e w' ⟨v1, v2, he, hT, hb⟩
 exact ⟨v1, v2, he, hT.1, hT.2, hb⟩
end Go.Proofs.YtlkomiiijhphnaaDoor
