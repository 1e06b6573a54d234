/- The contract of impl.SquareOfExact in plain words. Conditions: at most 1000000000 limbs; the library's table holds its numbers. -/
import Derived.Test.YtghhphndbbefjaaDoorDyE
import Derived.Test.YtghhphndbbefjaaDoorG10
import Derived.Test.YtghhphndbbefjaaDoorLawD
namespace Go.Proofs.YtghhphndbbefjaaDoor
open Go.RowKit Go.Proofs.YtghhphndbbefjaaDoorW.PrintWords Go.Proofs.YtghhphndbbefjaaDoorW.PrintLast Go.Proofs.YtghhphndbbefjaaDoorW.PrintMore Go.Proofs.YtghhphndbbefjaaDoor.Math Go.Proofs.YtghhphndbbefjaaDoor.Big Go.Proofs.YtghhphndbbefjaaDoor.Sq
set_option linter.unusedVariables false
set_option linter.unusedSimpArgs false
def sqres (s : Int) (l : List Int) (e t : Int) (m : List Int) (f : Int) : Int × List Int × Int × Int :=
 if isD s l e && isD t m f then
  (if fits (wv s l * wv s l) (e + e) && fits (wv t m * wv t m) (f + f) then dyfit (wv s l * wv s l * 2 ^ (e + e - mn (e + e) (f + f)).toNat + wv t m * wv t m * 2 ^ (f + f - mn (e + e) (f + f)).toNat) (mn (e + e) (f + f)) else (0, [], 0, 3))
 else (0, [], 0, 1)
structure NB (wr : World) (g b : Nat) (V p : Int) (m : Nat) : Prop where
 x : wr.heap[g]? = some (.cells #[.pointer (some ⟨b, 0, none⟩), .int .i64 p] 90 (0, 0))
 big : Big wr b V m
theorem NB.below {wr w1 : World} {g b : Nat} {V p : Int} {m : Nat} (h : NB wr g b V p m) (hb : Below wr.heap.size wr w1) : NB w1 g b V p m := ⟨blk_below h.x hb, h.big.below hb⟩
theorem NB.cells {wr : World} {g b : Nat} {V p : Int} {m : Nat} (h : NB wr g b V p m) : wr.cell? ⟨g, 0, none⟩ = some (.pointer (some ⟨b, 0, none⟩)) ∧ wr.cell? ⟨g, 1, none⟩ = some (.int .i64 p) := ⟨(blk_cell h.x 0).trans rfl, (blk_cell h.x 1).trans rfl⟩
theorem put2 {wr : World} {g : Nat} {x0 x1 : Value} {T : TypeId} (h : BX wr g #[x0, x1] T) (a b : Value) : BX ((wr.setCell ⟨g, 0, none⟩ a).setCell ⟨g, 1, none⟩ b) g #[a, b] T := ⟨bq2_ h.x⟩
theorem big_put {wr : World} {g z : Nat} {V : Int} {m : Nat} {x0 x1 : Value} (h : BX wr g #[x0, x1] 90) (hz : Big wr z V m) (a b : Value) : Big ((wr.setCell ⟨g, 0, none⟩ a).setCell ⟨g, 1, none⟩ b) z V m :=
 big_storeN (big_storeN hz h.x) (blk_put (cs := #[x0, x1]) h.x 0 a rfl)
theorem set2 {w wr : World} {g n : Nat} (h : Below n w wr) (hg : n ≤ g) (a b : Value) : Below n w ((wr.setCell ⟨g, 0, none⟩ a).setCell ⟨g, 1, none⟩ b) :=
 (h.setCell (show n ≤ (⟨g, 0, none⟩ : Addr).block from hg) _).setCell (show n ≤ (⟨g, 1, none⟩ : Addr).block from hg) _
theorem all_two (V p U q : Int) : allfit 2 (fun i => if i = 0 then V else U) (fun i => if i = 0 then p else q) = (fits V p && fits U q) := by
 unfold allfit
 simp [List.range_succ]
theorem num_two {w : World} {g x y : Nat} {V p U q : Int} (h : w.heap[g]? = some (.cells #[.pointer (some ⟨x, 0, none⟩), .int .i64 p, .pointer (some ⟨y, 0, none⟩), .int .i64 q] 90 (0, 0))) (hx : Big w x V 400) (hy : Big w y U 400) (hp : -20000 ≤ p ∧ p ≤ 20000) (hq : -20000 ≤ q ∧ q ≤ 20000) :
  NumRow w w g 2 (fun i => if i = 0 then x else y) (fun i => if i = 0 then V else U) (fun i => if i = 0 then p else q) := by
 refine ⟨Below.refl _ _, fun i hi => ?_⟩
 rcases (show i = 0 ∨ i = 1 from by omega) with rfl | rfl
 ·exact ⟨(blk_cell h 0).trans rfl, (blk_cell h 1).trans rfl, hx, hp⟩
 ·exact ⟨(blk_cell h 2).trans rfl, (blk_cell h 3).trans rfl, hy, hq⟩
def impl_SquareOfExact.f (a0_0 : Int) (l0_1 : List Int) (a0_2 a0_3 : Int) (l0_4 : List Int) (a0_5 : Int) : Option (Int × List Int × Int × Int) := if l0_1.length ≤ 1000000000 ∧ l0_4.length ≤ 1000000000 then some (sqres a0_0 l0_1 a0_2 a0_3 l0_4 a0_5) else none
set_option maxRecDepth 100000 in
set_option maxHeartbeats 4000000 in
theorem impl_SquareOfExact.calls (a0_0 : Int) (A0_1 : Option Addr) (c0_1 : Nat) (l0_1 : List Int) (a0_2 a0_3 : Int) (A0_4 : Option Addr) (c0_4 : Nat) (l0_4 : List Int) (a0_5 : Int) (r1 : Int) (r2 : List Int) (r3 r4 : Int) (w : World) (hr0_1 : Kd.C (Kd.int .i64) w A0_1 l0_1.length l0_1) (hc0_1 : l0_1.length ≤ c0_1) (hr0_4 : Kd.C (Kd.int .i64) w A0_4 l0_4.length l0_4) (hc0_4 : l0_4.length ≤ c0_4) (hT : Tab w) (h : impl_SquareOfExact.f a0_0 l0_1 a0_2 a0_3 l0_4 a0_5 = some (r1, r2, r3, r4)) :
  Calls Tryd.prog 32 #[.agg #[.int .i64 a0_0, .slice A0_1 l0_1.length c0_1, .int .i64 a0_2, .int .i64 a0_3, .slice A0_4 l0_4.length c0_4, .int .i64 a0_5]] w fun e w' => ∃ v1_ : Value, e = .returned (.tuple #[.agg #[.int .i64 r1, v1_, .int .i64 r3], .int .i64 r4]) ∧ Kd.R (Kd.int .i64) 2 w' w.heap.size (fun _ => True) v1_ r2 ∧ Below w.heap.size w w' := by
 unfold impl_SquareOfExact.f at h
 split at h
 case isFalse => cases h
 rename_i hl
 injection h with h
 have HR := Aside0.mk hr0_1
 have HS := Aside0.mk hr0_4
 have R0 := Aside0.mk (ResD.next (ExBox.start w a0_0 A0_1 c0_1 l0_1 a0_2 a0_3 A0_4 c0_4 l0_4 a0_5).lo)
 have X0 := Aside0.mk ((ExBox.start w a0_0 A0_1 c0_1 l0_1 a0_2 a0_3 A0_4 c0_4 l0_4 a0_5).below (below_alloc (Below.refl _ _) (.cells #[.int .i64 0, .slice none 0 0, .int .i64 0] 45)))
 have HT := Aside0.mk hT
 have HL := Aside0.mk hl
 clear hr0_1 hr0_4 hT hl
 rw [alloc_size] at R0
 unfold sqres at h
 obtain ⟨p0, p1, p2, p3, p4, p5⟩ := X0.out.cells
 cases hw : isD a0_0 l0_1 a0_2 && isD a0_3 l0_4 a0_5
 ·rw [hw] at h
  simp only [Bool.false_eq_true, if_false, Prod.mk.injEq] at h
  obtain ⟨rfl, rfl, rfl, rfl⟩ := h
  have HW := Aside0.mk hw
  clear hw
  go_enter Tryd.func32, Tryd.ntmps32
  go_wp2_with fail
  refine (isExact_calls _ _ _ _ _ _ _ _ _ _ _ (Kd.C_below HR.out X0.out.lo) hc0_1 HL.out.1 (Kd.C_below HS.out X0.out.lo) hc0_4 HL.out.2).mono ?_
  rintro e w1 ⟨rfl, hb⟩
  rw [HW.out]
  have R1 := Aside0.mk (R0.out.below hb)
  obtain ⟨q0, q1, q2, q3, q4, q5⟩ := R1.out.cells
  clear hb p0 p1 p2 p3 p4 p5
  go_wp2_with fail
  refine bodyPost_ret (results_ct rfl _ _ (w.heap.size + 1) 45 #[.int .i64 0, .slice none 0 0, .int .i64 0] (0, 0) _ rfl (R1.out.put _ _ _) Tryd.underlying45 rfl (by kernel_rfl)) rfl ?_
  exact ⟨_, rfl, R1.out.row (own_zero w1 (w.heap.size + 3)) (by omega) _ _ _, R1.out.low _ _ _⟩
 ·rw [hw] at h
  simp only [if_true] at h
  have HH := Aside0.mk h
  have HW := Aside0.mk hw
  have HD := Aside0.mk (show isD a0_0 l0_1 a0_2 = true ∧ isD a0_3 l0_4 a0_5 = true from by simpa using hw)
  have HE := Aside0.mk (show (-5000 ≤ a0_2 ∧ a0_2 ≤ 5000) ∧ (-5000 ≤ a0_5 ∧ a0_5 ≤ 5000) from ⟨isD_exp HD.out.1, isD_exp HD.out.2⟩)
  clear h hw
  go_enter Tryd.func32, Tryd.ntmps32
  go_wp2_with fail
  refine (isExact_calls _ _ _ _ _ _ _ _ _ _ _ (Kd.C_below HR.out X0.out.lo) hc0_1 HL.out.1 (Kd.C_below HS.out X0.out.lo) hc0_4 HL.out.2).mono ?_
  rintro e w2 ⟨rfl, hb⟩
  rw [HW.out]
  have R2 := Aside0.mk (R0.out.below hb)
  have X2 := Aside0.mk (X0.out.below hb)
  have HB := Aside0.mk (Below.refl w2.heap.size w2)
  obtain ⟨w1, ew⟩ : ∃ w1, w1 = w2 := ⟨_, rfl⟩
  rw [← ew]
  have HB := Aside0.mk (show Below w2.heap.size w2 w1 from by rw [ew]; exact HB.out)
  clear hb p0 p1 p2 p3 p4 p5
  obtain ⟨p0, p1, p2, p3, p4, p5⟩ := X2.out.cells
  rw [← ew] at p0 p1 p2 p3 p4 p5
  clear ew
  go_upto_region 3 with fail
  go_cut [4, 5] (fun s4 s5 wx => ∃ g4 g5 b b' : Nat, s4 = .pointer (some ⟨g4, 0, none⟩) ∧ s5 = .pointer (some ⟨g5, 0, none⟩) ∧ Aside0 (NB wx g4 b (wv a0_0 l0_1) a0_2 200 ∧ NB wx g5 b' (wv a0_3 l0_4) a0_5 200 ∧ Below w2.heap.size w2 wx))
  case first =>
   have KEEP := Aside0.mk (show ∀ wx : World, Below w2.heap.size w2 wx → wx.cell? ⟨w.heap.size, 0, none⟩ = some (.int .i64 a0_0) ∧ wx.cell? ⟨w.heap.size, 1, none⟩ = some (.slice A0_1 l0_1.length c0_1) ∧ wx.cell? ⟨w.heap.size, 2, none⟩ = some (.int .i64 a0_2) ∧ wx.cell? ⟨w.heap.size, 3, none⟩ = some (.int .i64 a0_3) ∧ wx.cell? ⟨w.heap.size, 4, none⟩ = some (.slice A0_4 l0_4.length c0_4) ∧ wx.cell? ⟨w.heap.size, 5, none⟩ = some (.int .i64 a0_5) from fun wx hb => (X2.out.below hb).cells)
   refine start_ (n := 10) (S := fun w' => w'.cell? ⟨w.heap.size, 0, none⟩ = some (.int .i64 a0_0) ∧ w'.cell? ⟨w.heap.size, 1, none⟩ = some (.slice A0_1 l0_1.length c0_1) ∧ w'.cell? ⟨w.heap.size, 2, none⟩ = some (.int .i64 a0_2) ∧ w'.cell? ⟨w.heap.size, 3, none⟩ = some (.int .i64 a0_3) ∧ w'.cell? ⟨w.heap.size, 4, none⟩ = some (.slice A0_4 l0_4.length c0_4) ∧ w'.cell? ⟨w.heap.size, 5, none⟩ = some (.int .i64 a0_5)) (ds := [8, 9]) #[false, false, false, false, false, false, false, false, false, false] (by kernel_rfl) rfl rfl (⟨p0, p1, p2, p3, p4, p5⟩) (fun hHeld => ?_)
   have D := Aside0.mk ((Below.refl w1.heap.size w1).drew); generalize w1.drew = w0 at hHeld D ⊢; replace HB := Aside0.mk (HB.out.trans (D.out.mono HB.out.size))
   refine pu_ #[true, false, false, false, false, false, false, false, false, false] 0 12 (by kernel_rfl) ?_
   refine pu_ #[true, false, false, true, false, false, false, false, false, false] 3 15 (by kernel_rfl) ?_
   refine tk_ #[true, true, false, true, false, false, false, false, false, false] 1 13 (by kernel_rfl) hHeld ?_
   refine tk_ #[true, true, false, true, true, false, false, false, false, false] 4 16 (by kernel_rfl) hHeld ?_
   refine join_ (σ := Nat × Nat × Nat × Nat) 2 #[true, true, true, true, true, true, true, true, false, false] (fun s => [(14, .agg #[.pointer (some ⟨s.1, 0, none⟩), .int .i64 a0_2]), (17, .agg #[.pointer (some ⟨s.2.1, 0, none⟩), .int .i64 a0_5]), (4, .pointer (some ⟨s.2.2.1, 0, none⟩)), (5, .pointer (some ⟨s.2.2.2, 0, none⟩))]) (fun s w' => (w'.cell? ⟨w.heap.size, 0, none⟩ = some (.int .i64 a0_0) ∧ w'.cell? ⟨w.heap.size, 1, none⟩ = some (.slice A0_1 l0_1.length c0_1) ∧ w'.cell? ⟨w.heap.size, 2, none⟩ = some (.int .i64 a0_2) ∧ w'.cell? ⟨w.heap.size, 3, none⟩ = some (.int .i64 a0_3) ∧ w'.cell? ⟨w.heap.size, 4, none⟩ = some (.slice A0_4 l0_4.length c0_4) ∧ w'.cell? ⟨w.heap.size, 5, none⟩ = some (.int .i64 a0_5)) ∧ BX w' s.2.2.1 #[.pointer none, .int .i64 0] 90 ∧ BX w' s.2.2.2 #[.pointer none, .int .i64 0] 90 ∧ s.2.2.1 ≠ s.2.2.2 ∧ Big w' s.1 (wv a0_0 l0_1) 200 ∧ Big w' s.2.1 (wv a0_3 l0_4) 200 ∧ Below w2.heap.size w2 w' ∧ w2.heap.size ≤ s.2.2.1 ∧ w2.heap.size ≤ s.2.2.2) ?cont (fun hJ => ?_)
   case cont =>
    rintro ⟨b, b', g4, g5⟩ w1 ⟨hHeld, h1, h2, h3, h4, h5, h6, h7, h8⟩
    try dsimp only at hHeld h1 h2 h3 h4 h5 h6 h7 h8
    have G4 := Aside0.mk h1; have G5 := Aside0.mk h2; have NE := Aside0.mk h3; have BA := Aside0.mk h4; have BB := Aside0.mk h5; have HB := Aside0.mk h6; have EG4 := Aside0.mk h7; have EG5 := Aside0.mk h8; clear h1 h2 h3 h4 h5 h6 h7 h8
    refine norm_ (a' := ?_) ?_ ?_
    rotate_left
    ·simp only [putAll, Act.put, List.setIfInBounds_toArray, List.set_cons_zero, List.set_cons_succ]
     rfl
    refine last_ (i := 8) (N := none) #[true, true, true, true, true, true, true, true, true, false] rfl rfl (by kernel_rfl) (by decide) (fun K hK => ?_)
    obtain ⟨ca0, ca1, fa0, fa1⟩ := ck2_ (Aside0.mk G4.out.x)
    refine skip_ (w1 := ?_) (by rfl) rfl ?_ ?_
    rotate_left
    ·go_simp
     rfl
    refine hK.out _ _ ?_
    clear hK K
    clear ca0 ca1 fa0 fa1
    have X := Aside0.mk (put2 G4.out (.pointer (some ⟨b, 0, none⟩)) (.int .i64 (a0_2)))
    replace G5 := Aside0.mk ((G5.out.far NE.out.symm 0 (.pointer (some ⟨b, 0, none⟩))).far NE.out.symm 1 (.int .i64 (a0_2)))
    replace BA := Aside0.mk (big_put G4.out BA.out (.pointer (some ⟨b, 0, none⟩)) (.int .i64 (a0_2))); replace BB := Aside0.mk (big_put G4.out BB.out (.pointer (some ⟨b, 0, none⟩)) (.int .i64 (a0_2)))
    replace HB := Aside0.mk (set2 HB.out EG4.out (.pointer (some ⟨b, 0, none⟩)) (.int .i64 (a0_2)))
    replace G4 := X; clear X
    refine last_ (i := 9) (N := none) #[true, true, true, true, true, true, true, true, true, true] rfl rfl (by kernel_rfl) (by decide) (fun K hK => ?_)
    obtain ⟨cb0, cb1, fb0, fb1⟩ := ck2_ (Aside0.mk G5.out.x)
    refine skip_ (w1 := ?_) (by rfl) rfl ?_ ?_
    rotate_left
    ·go_simp
     rfl
    refine hK.out _ _ ?_
    clear hK K
    clear cb0 cb1 fb0 fb1
    have X := Aside0.mk (put2 G5.out (.pointer (some ⟨b', 0, none⟩)) (.int .i64 (a0_5)))
    replace G4 := Aside0.mk ((G4.out.far NE.out 0 (.pointer (some ⟨b', 0, none⟩))).far NE.out 1 (.int .i64 (a0_5)))
    replace BA := Aside0.mk (big_put G5.out BA.out (.pointer (some ⟨b', 0, none⟩)) (.int .i64 (a0_5))); replace BB := Aside0.mk (big_put G5.out BB.out (.pointer (some ⟨b', 0, none⟩)) (.int .i64 (a0_5)))
    replace HB := Aside0.mk (set2 HB.out EG5.out (.pointer (some ⟨b', 0, none⟩)) (.int .i64 (a0_5)))
    replace G5 := X; clear X
    refine done_ (by kernel_rfl) ?_
    go_wp2
    go_meet
    exact ⟨g4, g5, b, b', rfl, rfl, ⟨⟨G4.out.x, BA.out⟩, ⟨G5.out.x, BB.out⟩, HB.out⟩⟩
   refine three_ (i := 2) (j := 6) (k := 7) (Ni := some 14) (Nj := some 4) (Nk := some 5) #[true, true, true, true, true, false, false, false, false, false] #[true, true, false, true, true, false, true, false, false, false] #[true, true, false, true, true, false, false, true, false, false] rfl rfl rfl rfl rfl rfl (by kernel_rfl) (by decide) (by decide) (by decide) (fun K hK => ?_) (fun K hK => ?_) (fun K hK => ?_)
   ·skip
    refine goes_ Tryd.func68 (by kernel_rfl) rfl #[.agg #[.int .i64 a0_0, .slice A0_1 l0_1.length c0_1, .int .i64 a0_2]] (by rfl) rfl rfl ma_ ?_
    with_reducible refine (dvalue_calls a0_0 A0_1 c0_1 l0_1 a0_2 _ (Kd.C_below HR.out (X2.out.lo.trans (HB.out.mono X2.out.lo.size))) (isD_isW HD.out.1)).mono ?_
    rintro x w1 ⟨b, rfl, -, hbig, hb⟩
    refine ⟨_, rfl, ?_⟩
    have BA := Aside0.mk (hbig)
    replace HB := Aside0.mk (HB.out.trans (hb.mono HB.out.size))
    clear hb hbig
    refine hK.out _ _ (KEEP.out _ HB.out) (fun hHeld => ?_)
    clear hK K
    refine nr_ ?_
    refine three_ (i := 5) (j := 6) (k := 7) (Ni := some 17) (Nj := some 4) (Nk := some 5) #[true, true, true, true, true, true, false, false, false, false] #[true, true, true, true, true, false, true, false, false, false] #[true, true, true, true, true, false, false, true, false, false] rfl rfl rfl rfl rfl rfl (by kernel_rfl) (by decide) (by decide) (by decide) (fun K hK => ?_) (fun K hK => ?_) (fun K hK => ?_)
    ·skip
     refine goes_ Tryd.func68 (by kernel_rfl) rfl #[.agg #[.int .i64 a0_3, .slice A0_4 l0_4.length c0_4, .int .i64 a0_5]] (by rfl) rfl rfl ma_ ?_
     with_reducible refine (dvalue_calls a0_3 A0_4 c0_4 l0_4 a0_5 _ (Kd.C_below HS.out (X2.out.lo.trans (HB.out.mono X2.out.lo.size))) (isD_isW HD.out.2)).mono ?_
     rintro x w1 ⟨b', rfl, -, hbig, hb⟩
     refine ⟨_, rfl, ?_⟩
     have BB := Aside0.mk (hbig)
     replace BA := Aside0.mk (BA.out.below hb)
     replace HB := Aside0.mk (HB.out.trans (hb.mono HB.out.size))
     clear hb hbig
     refine hK.out _ _ (KEEP.out _ HB.out) (fun hHeld => ?_)
     clear hK K
     refine nr_ ?_
     refine two_ (i := 6) (j := 7) (Ni := some 4) (Nj := some 5) #[true, true, true, true, true, true, true, false, false, false] #[true, true, true, true, true, true, false, true, false, false] rfl rfl rfl rfl (by kernel_rfl) (by decide) (by decide) (fun K hK => ?_) (fun K hK => ?_)
     ·skip
      refine box_step ?hg (N := 4) ?hd (cs := #[.pointer none, .int .i64 0]) (t := 90) ?hr ?_; (case hd => rfl); (case hg => rfl); (case hr => first | (go_simp; done) | (go_simp; rfl))
      intro g4 hg w1 hbox hb
      have G4 := Aside0.mk (show BX w1 g4 #[.pointer none, .int .i64 0] 90 from ⟨hbox⟩)
      have EG4 := Aside0.mk (show w2.heap.size ≤ g4 from by rw [hg]; exact HB.out.size)
      replace BA := Aside0.mk (BA.out.below hb)
      replace BB := Aside0.mk (BB.out.below hb)
      replace HB := Aside0.mk (HB.out.trans (hb.mono HB.out.size))
      clear hb hg hbox
      refine hK.out _ _ (KEEP.out _ HB.out) (fun hHeld => ?_)
      clear hK K
      refine nr_ ?_
      refine one_ (i := 7) (N := some 5) #[true, true, true, true, true, true, true, true, false, false] rfl rfl (by kernel_rfl) (by decide) (fun K hK => ?_)
      refine box_step ?hg (N := 5) ?hd (cs := #[.pointer none, .int .i64 0]) (t := 90) ?hr ?_; (case hd => rfl); (case hg => rfl); (case hr => first | (go_simp; done) | (go_simp; rfl))
      intro g5 hg w1 hbox hb
      have G5 := Aside0.mk (show BX w1 g5 #[.pointer none, .int .i64 0] 90 from ⟨hbox⟩)
      have EG5 := Aside0.mk (show w2.heap.size ≤ g5 from by rw [hg]; exact HB.out.size)
      have NE := Aside0.mk (show g4 ≠ g5 from by rw [hg]; exact Nat.ne_of_lt (blk_lt G4.out.x))
      replace BA := Aside0.mk (BA.out.below hb)
      replace BB := Aside0.mk (BB.out.below hb)
      replace G4 := Aside0.mk (G4.out.below hb)
      replace HB := Aside0.mk (HB.out.trans (hb.mono HB.out.size))
      clear hb hg hbox
      refine hK.out _ _ (KEEP.out _ HB.out) (fun hHeld => ?_)
      clear hK K
      refine nr_ ?_
      exact norm_ (by first | (simp only [putAll, Act.put, List.setIfInBounds_toArray, List.set_cons_zero, List.set_cons_succ]; done) | (simp only [putAll, Act.put, List.setIfInBounds_toArray, List.set_cons_zero, List.set_cons_succ]; rfl)) (hJ (b, b', g4, g5) _ ⟨hHeld, G4.out, G5.out, NE.out, BA.out, BB.out, HB.out, EG4.out, EG5.out⟩)
     ·skip
      refine box_step ?hg (N := 5) ?hd (cs := #[.pointer none, .int .i64 0]) (t := 90) ?hr ?_; (case hd => rfl); (case hg => rfl); (case hr => first | (go_simp; done) | (go_simp; rfl))
      intro g5 hg w1 hbox hb
      have G5 := Aside0.mk (show BX w1 g5 #[.pointer none, .int .i64 0] 90 from ⟨hbox⟩)
      have EG5 := Aside0.mk (show w2.heap.size ≤ g5 from by rw [hg]; exact HB.out.size)
      replace BA := Aside0.mk (BA.out.below hb)
      replace BB := Aside0.mk (BB.out.below hb)
      replace HB := Aside0.mk (HB.out.trans (hb.mono HB.out.size))
      clear hb hg hbox
      refine hK.out _ _ (KEEP.out _ HB.out) (fun hHeld => ?_)
      clear hK K
      refine nr_ ?_
      refine one_ (i := 6) (N := some 4) #[true, true, true, true, true, true, true, true, false, false] rfl rfl (by kernel_rfl) (by decide) (fun K hK => ?_)
      refine box_step ?hg (N := 4) ?hd (cs := #[.pointer none, .int .i64 0]) (t := 90) ?hr ?_; (case hd => rfl); (case hg => rfl); (case hr => first | (go_simp; done) | (go_simp; rfl))
      intro g4 hg w1 hbox hb
      have G4 := Aside0.mk (show BX w1 g4 #[.pointer none, .int .i64 0] 90 from ⟨hbox⟩)
      have EG4 := Aside0.mk (show w2.heap.size ≤ g4 from by rw [hg]; exact HB.out.size)
      have NE := Aside0.mk (show g4 ≠ g5 from by rw [hg]; exact Nat.ne_of_gt (blk_lt G5.out.x))
      replace BA := Aside0.mk (BA.out.below hb)
      replace BB := Aside0.mk (BB.out.below hb)
      replace G5 := Aside0.mk (G5.out.below hb)
      replace HB := Aside0.mk (HB.out.trans (hb.mono HB.out.size))
      clear hb hg hbox
      refine hK.out _ _ (KEEP.out _ HB.out) (fun hHeld => ?_)
      clear hK K
      refine nr_ ?_
      exact norm_ (by first | (simp only [putAll, Act.put, List.setIfInBounds_toArray, List.set_cons_zero, List.set_cons_succ]; done) | (simp only [putAll, Act.put, List.setIfInBounds_toArray, List.set_cons_zero, List.set_cons_succ]; rfl)) (hJ (b, b', g4, g5) _ ⟨hHeld, G4.out, G5.out, NE.out, BA.out, BB.out, HB.out, EG4.out, EG5.out⟩)
    ·skip
     refine box_step ?hg (N := 4) ?hd (cs := #[.pointer none, .int .i64 0]) (t := 90) ?hr ?_; (case hd => rfl); (case hg => rfl); (case hr => first | (go_simp; done) | (go_simp; rfl))
     intro g4 hg w1 hbox hb
     have G4 := Aside0.mk (show BX w1 g4 #[.pointer none, .int .i64 0] 90 from ⟨hbox⟩)
     have EG4 := Aside0.mk (show w2.heap.size ≤ g4 from by rw [hg]; exact HB.out.size)
     replace BA := Aside0.mk (BA.out.below hb)
     replace HB := Aside0.mk (HB.out.trans (hb.mono HB.out.size))
     clear hb hg hbox
     refine hK.out _ _ (KEEP.out _ HB.out) (fun hHeld => ?_)
     clear hK K
     refine nr_ ?_
     refine two_ (i := 5) (j := 7) (Ni := some 17) (Nj := some 5) #[true, true, true, true, true, true, true, false, false, false] #[true, true, true, true, true, false, true, true, false, false] rfl rfl rfl rfl (by kernel_rfl) (by decide) (by decide) (fun K hK => ?_) (fun K hK => ?_)
     ·skip
      refine goes_ Tryd.func68 (by kernel_rfl) rfl #[.agg #[.int .i64 a0_3, .slice A0_4 l0_4.length c0_4, .int .i64 a0_5]] (by rfl) rfl rfl ma_ ?_
      with_reducible refine (dvalue_calls a0_3 A0_4 c0_4 l0_4 a0_5 _ (Kd.C_below HS.out (X2.out.lo.trans (HB.out.mono X2.out.lo.size))) (isD_isW HD.out.2)).mono ?_
      rintro x w1 ⟨b', rfl, -, hbig, hb⟩
      refine ⟨_, rfl, ?_⟩
      have BB := Aside0.mk (hbig)
      replace BA := Aside0.mk (BA.out.below hb)
      replace G4 := Aside0.mk (G4.out.below hb)
      replace HB := Aside0.mk (HB.out.trans (hb.mono HB.out.size))
      clear hb hbig
      refine hK.out _ _ (KEEP.out _ HB.out) (fun hHeld => ?_)
      clear hK K
      refine nr_ ?_
      refine one_ (i := 7) (N := some 5) #[true, true, true, true, true, true, true, true, false, false] rfl rfl (by kernel_rfl) (by decide) (fun K hK => ?_)
      refine box_step ?hg (N := 5) ?hd (cs := #[.pointer none, .int .i64 0]) (t := 90) ?hr ?_; (case hd => rfl); (case hg => rfl); (case hr => first | (go_simp; done) | (go_simp; rfl))
      intro g5 hg w1 hbox hb
      have G5 := Aside0.mk (show BX w1 g5 #[.pointer none, .int .i64 0] 90 from ⟨hbox⟩)
      have EG5 := Aside0.mk (show w2.heap.size ≤ g5 from by rw [hg]; exact HB.out.size)
      have NE := Aside0.mk (show g4 ≠ g5 from by rw [hg]; exact Nat.ne_of_lt (blk_lt G4.out.x))
      replace BA := Aside0.mk (BA.out.below hb)
      replace G4 := Aside0.mk (G4.out.below hb)
      replace BB := Aside0.mk (BB.out.below hb)
      replace HB := Aside0.mk (HB.out.trans (hb.mono HB.out.size))
      clear hb hg hbox
      refine hK.out _ _ (KEEP.out _ HB.out) (fun hHeld => ?_)
      clear hK K
      refine nr_ ?_
      exact norm_ (by first | (simp only [putAll, Act.put, List.setIfInBounds_toArray, List.set_cons_zero, List.set_cons_succ]; done) | (simp only [putAll, Act.put, List.setIfInBounds_toArray, List.set_cons_zero, List.set_cons_succ]; rfl)) (hJ (b, b', g4, g5) _ ⟨hHeld, G4.out, G5.out, NE.out, BA.out, BB.out, HB.out, EG4.out, EG5.out⟩)
     ·skip
      refine box_step ?hg (N := 5) ?hd (cs := #[.pointer none, .int .i64 0]) (t := 90) ?hr ?_; (case hd => rfl); (case hg => rfl); (case hr => first | (go_simp; done) | (go_simp; rfl))
      intro g5 hg w1 hbox hb
      have G5 := Aside0.mk (show BX w1 g5 #[.pointer none, .int .i64 0] 90 from ⟨hbox⟩)
      have EG5 := Aside0.mk (show w2.heap.size ≤ g5 from by rw [hg]; exact HB.out.size)
      have NE := Aside0.mk (show g4 ≠ g5 from by rw [hg]; exact Nat.ne_of_lt (blk_lt G4.out.x))
      replace BA := Aside0.mk (BA.out.below hb)
      replace G4 := Aside0.mk (G4.out.below hb)
      replace HB := Aside0.mk (HB.out.trans (hb.mono HB.out.size))
      clear hb hg hbox
      refine hK.out _ _ (KEEP.out _ HB.out) (fun hHeld => ?_)
      clear hK K
      refine nr_ ?_
      refine one_ (i := 5) (N := some 17) #[true, true, true, true, true, true, true, true, false, false] rfl rfl (by kernel_rfl) (by decide) (fun K hK => ?_)
      refine goes_ Tryd.func68 (by kernel_rfl) rfl #[.agg #[.int .i64 a0_3, .slice A0_4 l0_4.length c0_4, .int .i64 a0_5]] (by rfl) rfl rfl ma_ ?_
      with_reducible refine (dvalue_calls a0_3 A0_4 c0_4 l0_4 a0_5 _ (Kd.C_below HS.out (X2.out.lo.trans (HB.out.mono X2.out.lo.size))) (isD_isW HD.out.2)).mono ?_
      rintro x w1 ⟨b', rfl, -, hbig, hb⟩
      refine ⟨_, rfl, ?_⟩
      have BB := Aside0.mk (hbig)
      replace BA := Aside0.mk (BA.out.below hb)
      replace G4 := Aside0.mk (G4.out.below hb)
      replace G5 := Aside0.mk (G5.out.below hb)
      replace HB := Aside0.mk (HB.out.trans (hb.mono HB.out.size))
      clear hb hbig
      refine hK.out _ _ (KEEP.out _ HB.out) (fun hHeld => ?_)
      clear hK K
      refine nr_ ?_
      exact norm_ (by first | (simp only [putAll, Act.put, List.setIfInBounds_toArray, List.set_cons_zero, List.set_cons_succ]; done) | (simp only [putAll, Act.put, List.setIfInBounds_toArray, List.set_cons_zero, List.set_cons_succ]; rfl)) (hJ (b, b', g4, g5) _ ⟨hHeld, G4.out, G5.out, NE.out, BA.out, BB.out, HB.out, EG4.out, EG5.out⟩)
    ·skip
     refine box_step ?hg (N := 5) ?hd (cs := #[.pointer none, .int .i64 0]) (t := 90) ?hr ?_; (case hd => rfl); (case hg => rfl); (case hr => first | (go_simp; done) | (go_simp; rfl))
     intro g5 hg w1 hbox hb
     have G5 := Aside0.mk (show BX w1 g5 #[.pointer none, .int .i64 0] 90 from ⟨hbox⟩)
     have EG5 := Aside0.mk (show w2.heap.size ≤ g5 from by rw [hg]; exact HB.out.size)
     replace BA := Aside0.mk (BA.out.below hb)
     replace HB := Aside0.mk (HB.out.trans (hb.mono HB.out.size))
     clear hb hg hbox
     refine hK.out _ _ (KEEP.out _ HB.out) (fun hHeld => ?_)
     clear hK K
     refine nr_ ?_
     refine two_ (i := 5) (j := 6) (Ni := some 17) (Nj := some 4) #[true, true, true, true, true, true, false, true, false, false] #[true, true, true, true, true, false, true, true, false, false] rfl rfl rfl rfl (by kernel_rfl) (by decide) (by decide) (fun K hK => ?_) (fun K hK => ?_)
     ·skip
      refine goes_ Tryd.func68 (by kernel_rfl) rfl #[.agg #[.int .i64 a0_3, .slice A0_4 l0_4.length c0_4, .int .i64 a0_5]] (by rfl) rfl rfl ma_ ?_
      with_reducible refine (dvalue_calls a0_3 A0_4 c0_4 l0_4 a0_5 _ (Kd.C_below HS.out (X2.out.lo.trans (HB.out.mono X2.out.lo.size))) (isD_isW HD.out.2)).mono ?_
      rintro x w1 ⟨b', rfl, -, hbig, hb⟩
      refine ⟨_, rfl, ?_⟩
      have BB := Aside0.mk (hbig)
      replace BA := Aside0.mk (BA.out.below hb)
      replace G5 := Aside0.mk (G5.out.below hb)
      replace HB := Aside0.mk (HB.out.trans (hb.mono HB.out.size))
      clear hb hbig
      refine hK.out _ _ (KEEP.out _ HB.out) (fun hHeld => ?_)
      clear hK K
      refine nr_ ?_
      refine one_ (i := 6) (N := some 4) #[true, true, true, true, true, true, true, true, false, false] rfl rfl (by kernel_rfl) (by decide) (fun K hK => ?_)
      refine box_step ?hg (N := 4) ?hd (cs := #[.pointer none, .int .i64 0]) (t := 90) ?hr ?_; (case hd => rfl); (case hg => rfl); (case hr => first | (go_simp; done) | (go_simp; rfl))
      intro g4 hg w1 hbox hb
      have G4 := Aside0.mk (show BX w1 g4 #[.pointer none, .int .i64 0] 90 from ⟨hbox⟩)
      have EG4 := Aside0.mk (show w2.heap.size ≤ g4 from by rw [hg]; exact HB.out.size)
      have NE := Aside0.mk (show g4 ≠ g5 from by rw [hg]; exact Nat.ne_of_gt (blk_lt G5.out.x))
      replace BA := Aside0.mk (BA.out.below hb)
      replace G5 := Aside0.mk (G5.out.below hb)
      replace BB := Aside0.mk (BB.out.below hb)
      replace HB := Aside0.mk (HB.out.trans (hb.mono HB.out.size))
      clear hb hg hbox
      refine hK.out _ _ (KEEP.out _ HB.out) (fun hHeld => ?_)
      clear hK K
      refine nr_ ?_
      exact norm_ (by first | (simp only [putAll, Act.put, List.setIfInBounds_toArray, List.set_cons_zero, List.set_cons_succ]; done) | (simp only [putAll, Act.put, List.setIfInBounds_toArray, List.set_cons_zero, List.set_cons_succ]; rfl)) (hJ (b, b', g4, g5) _ ⟨hHeld, G4.out, G5.out, NE.out, BA.out, BB.out, HB.out, EG4.out, EG5.out⟩)
     ·skip
      refine box_step ?hg (N := 4) ?hd (cs := #[.pointer none, .int .i64 0]) (t := 90) ?hr ?_; (case hd => rfl); (case hg => rfl); (case hr => first | (go_simp; done) | (go_simp; rfl))
      intro g4 hg w1 hbox hb
      have G4 := Aside0.mk (show BX w1 g4 #[.pointer none, .int .i64 0] 90 from ⟨hbox⟩)
      have EG4 := Aside0.mk (show w2.heap.size ≤ g4 from by rw [hg]; exact HB.out.size)
      have NE := Aside0.mk (show g4 ≠ g5 from by rw [hg]; exact Nat.ne_of_gt (blk_lt G5.out.x))
      replace BA := Aside0.mk (BA.out.below hb)
      replace G5 := Aside0.mk (G5.out.below hb)
      replace HB := Aside0.mk (HB.out.trans (hb.mono HB.out.size))
      clear hb hg hbox
      refine hK.out _ _ (KEEP.out _ HB.out) (fun hHeld => ?_)
      clear hK K
      refine nr_ ?_
      refine one_ (i := 5) (N := some 17) #[true, true, true, true, true, true, true, true, false, false] rfl rfl (by kernel_rfl) (by decide) (fun K hK => ?_)
      refine goes_ Tryd.func68 (by kernel_rfl) rfl #[.agg #[.int .i64 a0_3, .slice A0_4 l0_4.length c0_4, .int .i64 a0_5]] (by rfl) rfl rfl ma_ ?_
      with_reducible refine (dvalue_calls a0_3 A0_4 c0_4 l0_4 a0_5 _ (Kd.C_below HS.out (X2.out.lo.trans (HB.out.mono X2.out.lo.size))) (isD_isW HD.out.2)).mono ?_
      rintro x w1 ⟨b', rfl, -, hbig, hb⟩
      refine ⟨_, rfl, ?_⟩
      have BB := Aside0.mk (hbig)
      replace BA := Aside0.mk (BA.out.below hb)
      replace G5 := Aside0.mk (G5.out.below hb)
      replace G4 := Aside0.mk (G4.out.below hb)
      replace HB := Aside0.mk (HB.out.trans (hb.mono HB.out.size))
      clear hb hbig
      refine hK.out _ _ (KEEP.out _ HB.out) (fun hHeld => ?_)
      clear hK K
      refine nr_ ?_
      exact norm_ (by first | (simp only [putAll, Act.put, List.setIfInBounds_toArray, List.set_cons_zero, List.set_cons_succ]; done) | (simp only [putAll, Act.put, List.setIfInBounds_toArray, List.set_cons_zero, List.set_cons_succ]; rfl)) (hJ (b, b', g4, g5) _ ⟨hHeld, G4.out, G5.out, NE.out, BA.out, BB.out, HB.out, EG4.out, EG5.out⟩)
   ·skip
    refine box_step ?hg (N := 4) ?hd (cs := #[.pointer none, .int .i64 0]) (t := 90) ?hr ?_; (case hd => rfl); (case hg => rfl); (case hr => first | (go_simp; done) | (go_simp; rfl))
    intro g4 hg w1 hbox hb
    have G4 := Aside0.mk (show BX w1 g4 #[.pointer none, .int .i64 0] 90 from ⟨hbox⟩)
    have EG4 := Aside0.mk (show w2.heap.size ≤ g4 from by rw [hg]; exact HB.out.size)
    replace HB := Aside0.mk (HB.out.trans (hb.mono HB.out.size))
    clear hb hg hbox
    refine hK.out _ _ (KEEP.out _ HB.out) (fun hHeld => ?_)
    clear hK K
    refine nr_ ?_
    refine two_ (i := 2) (j := 7) (Ni := some 14) (Nj := some 5) #[true, true, true, true, true, false, true, false, false, false] #[true, true, false, true, true, false, true, true, false, false] rfl rfl rfl rfl (by kernel_rfl) (by decide) (by decide) (fun K hK => ?_) (fun K hK => ?_)
    ·skip
     refine goes_ Tryd.func68 (by kernel_rfl) rfl #[.agg #[.int .i64 a0_0, .slice A0_1 l0_1.length c0_1, .int .i64 a0_2]] (by rfl) rfl rfl ma_ ?_
     with_reducible refine (dvalue_calls a0_0 A0_1 c0_1 l0_1 a0_2 _ (Kd.C_below HR.out (X2.out.lo.trans (HB.out.mono X2.out.lo.size))) (isD_isW HD.out.1)).mono ?_
     rintro x w1 ⟨b, rfl, -, hbig, hb⟩
     refine ⟨_, rfl, ?_⟩
     have BA := Aside0.mk (hbig)
     replace G4 := Aside0.mk (G4.out.below hb)
     replace HB := Aside0.mk (HB.out.trans (hb.mono HB.out.size))
     clear hb hbig
     refine hK.out _ _ (KEEP.out _ HB.out) (fun hHeld => ?_)
     clear hK K
     refine nr_ ?_
     refine two_ (i := 5) (j := 7) (Ni := some 17) (Nj := some 5) #[true, true, true, true, true, true, true, false, false, false] #[true, true, true, true, true, false, true, true, false, false] rfl rfl rfl rfl (by kernel_rfl) (by decide) (by decide) (fun K hK => ?_) (fun K hK => ?_)
     ·skip
      refine goes_ Tryd.func68 (by kernel_rfl) rfl #[.agg #[.int .i64 a0_3, .slice A0_4 l0_4.length c0_4, .int .i64 a0_5]] (by rfl) rfl rfl ma_ ?_
      with_reducible refine (dvalue_calls a0_3 A0_4 c0_4 l0_4 a0_5 _ (Kd.C_below HS.out (X2.out.lo.trans (HB.out.mono X2.out.lo.size))) (isD_isW HD.out.2)).mono ?_
      rintro x w1 ⟨b', rfl, -, hbig, hb⟩
      refine ⟨_, rfl, ?_⟩
      have BB := Aside0.mk (hbig)
      replace G4 := Aside0.mk (G4.out.below hb)
      replace BA := Aside0.mk (BA.out.below hb)
      replace HB := Aside0.mk (HB.out.trans (hb.mono HB.out.size))
      clear hb hbig
      refine hK.out _ _ (KEEP.out _ HB.out) (fun hHeld => ?_)
      clear hK K
      refine nr_ ?_
      refine one_ (i := 7) (N := some 5) #[true, true, true, true, true, true, true, true, false, false] rfl rfl (by kernel_rfl) (by decide) (fun K hK => ?_)
      refine box_step ?hg (N := 5) ?hd (cs := #[.pointer none, .int .i64 0]) (t := 90) ?hr ?_; (case hd => rfl); (case hg => rfl); (case hr => first | (go_simp; done) | (go_simp; rfl))
      intro g5 hg w1 hbox hb
      have G5 := Aside0.mk (show BX w1 g5 #[.pointer none, .int .i64 0] 90 from ⟨hbox⟩)
      have EG5 := Aside0.mk (show w2.heap.size ≤ g5 from by rw [hg]; exact HB.out.size)
      have NE := Aside0.mk (show g4 ≠ g5 from by rw [hg]; exact Nat.ne_of_lt (blk_lt G4.out.x))
      replace G4 := Aside0.mk (G4.out.below hb)
      replace BA := Aside0.mk (BA.out.below hb)
      replace BB := Aside0.mk (BB.out.below hb)
      replace HB := Aside0.mk (HB.out.trans (hb.mono HB.out.size))
      clear hb hg hbox
      refine hK.out _ _ (KEEP.out _ HB.out) (fun hHeld => ?_)
      clear hK K
      refine nr_ ?_
      exact norm_ (by first | (simp only [putAll, Act.put, List.setIfInBounds_toArray, List.set_cons_zero, List.set_cons_succ]; done) | (simp only [putAll, Act.put, List.setIfInBounds_toArray, List.set_cons_zero, List.set_cons_succ]; rfl)) (hJ (b, b', g4, g5) _ ⟨hHeld, G4.out, G5.out, NE.out, BA.out, BB.out, HB.out, EG4.out, EG5.out⟩)
     ·skip
      refine box_step ?hg (N := 5) ?hd (cs := #[.pointer none, .int .i64 0]) (t := 90) ?hr ?_; (case hd => rfl); (case hg => rfl); (case hr => first | (go_simp; done) | (go_simp; rfl))
      intro g5 hg w1 hbox hb
      have G5 := Aside0.mk (show BX w1 g5 #[.pointer none, .int .i64 0] 90 from ⟨hbox⟩)
      have EG5 := Aside0.mk (show w2.heap.size ≤ g5 from by rw [hg]; exact HB.out.size)
      have NE := Aside0.mk (show g4 ≠ g5 from by rw [hg]; exact Nat.ne_of_lt (blk_lt G4.out.x))
      replace G4 := Aside0.mk (G4.out.below hb)
      replace BA := Aside0.mk (BA.out.below hb)
      replace HB := Aside0.mk (HB.out.trans (hb.mono HB.out.size))
      clear hb hg hbox
      refine hK.out _ _ (KEEP.out _ HB.out) (fun hHeld => ?_)
      clear hK K
      refine nr_ ?_
      refine one_ (i := 5) (N := some 17) #[true, true, true, true, true, true, true, true, false, false] rfl rfl (by kernel_rfl) (by decide) (fun K hK => ?_)
      refine goes_ Tryd.func68 (by kernel_rfl) rfl #[.agg #[.int .i64 a0_3, .slice A0_4 l0_4.length c0_4, .int .i64 a0_5]] (by rfl) rfl rfl ma_ ?_
      with_reducible refine (dvalue_calls a0_3 A0_4 c0_4 l0_4 a0_5 _ (Kd.C_below HS.out (X2.out.lo.trans (HB.out.mono X2.out.lo.size))) (isD_isW HD.out.2)).mono ?_
      rintro x w1 ⟨b', rfl, -, hbig, hb⟩
      refine ⟨_, rfl, ?_⟩
      have BB := Aside0.mk (hbig)
      replace G4 := Aside0.mk (G4.out.below hb)
      replace BA := Aside0.mk (BA.out.below hb)
      replace G5 := Aside0.mk (G5.out.below hb)
      replace HB := Aside0.mk (HB.out.trans (hb.mono HB.out.size))
      clear hb hbig
      refine hK.out _ _ (KEEP.out _ HB.out) (fun hHeld => ?_)
      clear hK K
      refine nr_ ?_
      exact norm_ (by first | (simp only [putAll, Act.put, List.setIfInBounds_toArray, List.set_cons_zero, List.set_cons_succ]; done) | (simp only [putAll, Act.put, List.setIfInBounds_toArray, List.set_cons_zero, List.set_cons_succ]; rfl)) (hJ (b, b', g4, g5) _ ⟨hHeld, G4.out, G5.out, NE.out, BA.out, BB.out, HB.out, EG4.out, EG5.out⟩)
    ·skip
     refine box_step ?hg (N := 5) ?hd (cs := #[.pointer none, .int .i64 0]) (t := 90) ?hr ?_; (case hd => rfl); (case hg => rfl); (case hr => first | (go_simp; done) | (go_simp; rfl))
     intro g5 hg w1 hbox hb
     have G5 := Aside0.mk (show BX w1 g5 #[.pointer none, .int .i64 0] 90 from ⟨hbox⟩)
     have EG5 := Aside0.mk (show w2.heap.size ≤ g5 from by rw [hg]; exact HB.out.size)
     have NE := Aside0.mk (show g4 ≠ g5 from by rw [hg]; exact Nat.ne_of_lt (blk_lt G4.out.x))
     replace G4 := Aside0.mk (G4.out.below hb)
     replace HB := Aside0.mk (HB.out.trans (hb.mono HB.out.size))
     clear hb hg hbox
     refine hK.out _ _ (KEEP.out _ HB.out) (fun hHeld => ?_)
     clear hK K
     refine nr_ ?_
     refine one_ (i := 2) (N := some 14) #[true, true, true, true, true, false, true, true, false, false] rfl rfl (by kernel_rfl) (by decide) (fun K hK => ?_)
     refine goes_ Tryd.func68 (by kernel_rfl) rfl #[.agg #[.int .i64 a0_0, .slice A0_1 l0_1.length c0_1, .int .i64 a0_2]] (by rfl) rfl rfl ma_ ?_
     with_reducible refine (dvalue_calls a0_0 A0_1 c0_1 l0_1 a0_2 _ (Kd.C_below HR.out (X2.out.lo.trans (HB.out.mono X2.out.lo.size))) (isD_isW HD.out.1)).mono ?_
     rintro x w1 ⟨b, rfl, -, hbig, hb⟩
     refine ⟨_, rfl, ?_⟩
     have BA := Aside0.mk (hbig)
     replace G4 := Aside0.mk (G4.out.below hb)
     replace G5 := Aside0.mk (G5.out.below hb)
     replace HB := Aside0.mk (HB.out.trans (hb.mono HB.out.size))
     clear hb hbig
     refine hK.out _ _ (KEEP.out _ HB.out) (fun hHeld => ?_)
     clear hK K
     refine nr_ ?_
     refine one_ (i := 5) (N := some 17) #[true, true, true, true, true, true, true, true, false, false] rfl rfl (by kernel_rfl) (by decide) (fun K hK => ?_)
     refine goes_ Tryd.func68 (by kernel_rfl) rfl #[.agg #[.int .i64 a0_3, .slice A0_4 l0_4.length c0_4, .int .i64 a0_5]] (by rfl) rfl rfl ma_ ?_
     with_reducible refine (dvalue_calls a0_3 A0_4 c0_4 l0_4 a0_5 _ (Kd.C_below HS.out (X2.out.lo.trans (HB.out.mono X2.out.lo.size))) (isD_isW HD.out.2)).mono ?_
     rintro x w1 ⟨b', rfl, -, hbig, hb⟩
     refine ⟨_, rfl, ?_⟩
     have BB := Aside0.mk (hbig)
     replace G4 := Aside0.mk (G4.out.below hb)
     replace G5 := Aside0.mk (G5.out.below hb)
     replace BA := Aside0.mk (BA.out.below hb)
     replace HB := Aside0.mk (HB.out.trans (hb.mono HB.out.size))
     clear hb hbig
     refine hK.out _ _ (KEEP.out _ HB.out) (fun hHeld => ?_)
     clear hK K
     refine nr_ ?_
     exact norm_ (by first | (simp only [putAll, Act.put, List.setIfInBounds_toArray, List.set_cons_zero, List.set_cons_succ]; done) | (simp only [putAll, Act.put, List.setIfInBounds_toArray, List.set_cons_zero, List.set_cons_succ]; rfl)) (hJ (b, b', g4, g5) _ ⟨hHeld, G4.out, G5.out, NE.out, BA.out, BB.out, HB.out, EG4.out, EG5.out⟩)
   ·skip
    refine box_step ?hg (N := 5) ?hd (cs := #[.pointer none, .int .i64 0]) (t := 90) ?hr ?_; (case hd => rfl); (case hg => rfl); (case hr => first | (go_simp; done) | (go_simp; rfl))
    intro g5 hg w1 hbox hb
    have G5 := Aside0.mk (show BX w1 g5 #[.pointer none, .int .i64 0] 90 from ⟨hbox⟩)
    have EG5 := Aside0.mk (show w2.heap.size ≤ g5 from by rw [hg]; exact HB.out.size)
    replace HB := Aside0.mk (HB.out.trans (hb.mono HB.out.size))
    clear hb hg hbox
    refine hK.out _ _ (KEEP.out _ HB.out) (fun hHeld => ?_)
    clear hK K
    refine nr_ ?_
    refine two_ (i := 2) (j := 6) (Ni := some 14) (Nj := some 4) #[true, true, true, true, true, false, false, true, false, false] #[true, true, false, true, true, false, true, true, false, false] rfl rfl rfl rfl (by kernel_rfl) (by decide) (by decide) (fun K hK => ?_) (fun K hK => ?_)
    ·skip
     refine goes_ Tryd.func68 (by kernel_rfl) rfl #[.agg #[.int .i64 a0_0, .slice A0_1 l0_1.length c0_1, .int .i64 a0_2]] (by rfl) rfl rfl ma_ ?_
     with_reducible refine (dvalue_calls a0_0 A0_1 c0_1 l0_1 a0_2 _ (Kd.C_below HR.out (X2.out.lo.trans (HB.out.mono X2.out.lo.size))) (isD_isW HD.out.1)).mono ?_
     rintro x w1 ⟨b, rfl, -, hbig, hb⟩
     refine ⟨_, rfl, ?_⟩
     have BA := Aside0.mk (hbig)
     replace G5 := Aside0.mk (G5.out.below hb)
     replace HB := Aside0.mk (HB.out.trans (hb.mono HB.out.size))
     clear hb hbig
     refine hK.out _ _ (KEEP.out _ HB.out) (fun hHeld => ?_)
     clear hK K
     refine nr_ ?_
     refine two_ (i := 5) (j := 6) (Ni := some 17) (Nj := some 4) #[true, true, true, true, true, true, false, true, false, false] #[true, true, true, true, true, false, true, true, false, false] rfl rfl rfl rfl (by kernel_rfl) (by decide) (by decide) (fun K hK => ?_) (fun K hK => ?_)
     ·skip
      refine goes_ Tryd.func68 (by kernel_rfl) rfl #[.agg #[.int .i64 a0_3, .slice A0_4 l0_4.length c0_4, .int .i64 a0_5]] (by rfl) rfl rfl ma_ ?_
      with_reducible refine (dvalue_calls a0_3 A0_4 c0_4 l0_4 a0_5 _ (Kd.C_below HS.out (X2.out.lo.trans (HB.out.mono X2.out.lo.size))) (isD_isW HD.out.2)).mono ?_
      rintro x w1 ⟨b', rfl, -, hbig, hb⟩
      refine ⟨_, rfl, ?_⟩
      have BB := Aside0.mk (hbig)
      replace G5 := Aside0.mk (G5.out.below hb)
      replace BA := Aside0.mk (BA.out.below hb)
      replace HB := Aside0.mk (HB.out.trans (hb.mono HB.out.size))
      clear hb hbig
      refine hK.out _ _ (KEEP.out _ HB.out) (fun hHeld => ?_)
      clear hK K
      refine nr_ ?_
      refine one_ (i := 6) (N := some 4) #[true, true, true, true, true, true, true, true, false, false] rfl rfl (by kernel_rfl) (by decide) (fun K hK => ?_)
      refine box_step ?hg (N := 4) ?hd (cs := #[.pointer none, .int .i64 0]) (t := 90) ?hr ?_; (case hd => rfl); (case hg => rfl); (case hr => first | (go_simp; done) | (go_simp; rfl))
      intro g4 hg w1 hbox hb
      have G4 := Aside0.mk (show BX w1 g4 #[.pointer none, .int .i64 0] 90 from ⟨hbox⟩)
      have EG4 := Aside0.mk (show w2.heap.size ≤ g4 from by rw [hg]; exact HB.out.size)
      have NE := Aside0.mk (show g4 ≠ g5 from by rw [hg]; exact Nat.ne_of_gt (blk_lt G5.out.x))
      replace G5 := Aside0.mk (G5.out.below hb)
      replace BA := Aside0.mk (BA.out.below hb)
      replace BB := Aside0.mk (BB.out.below hb)
      replace HB := Aside0.mk (HB.out.trans (hb.mono HB.out.size))
      clear hb hg hbox
      refine hK.out _ _ (KEEP.out _ HB.out) (fun hHeld => ?_)
      clear hK K
      refine nr_ ?_
      exact norm_ (by first | (simp only [putAll, Act.put, List.setIfInBounds_toArray, List.set_cons_zero, List.set_cons_succ]; done) | (simp only [putAll, Act.put, List.setIfInBounds_toArray, List.set_cons_zero, List.set_cons_succ]; rfl)) (hJ (b, b', g4, g5) _ ⟨hHeld, G4.out, G5.out, NE.out, BA.out, BB.out, HB.out, EG4.out, EG5.out⟩)
     ·skip
      refine box_step ?hg (N := 4) ?hd (cs := #[.pointer none, .int .i64 0]) (t := 90) ?hr ?_; (case hd => rfl); (case hg => rfl); (case hr => first | (go_simp; done) | (go_simp; rfl))
      intro g4 hg w1 hbox hb
      have G4 := Aside0.mk (show BX w1 g4 #[.pointer none, .int .i64 0] 90 from ⟨hbox⟩)
      have EG4 := Aside0.mk (show w2.heap.size ≤ g4 from by rw [hg]; exact HB.out.size)
      have NE := Aside0.mk (show g4 ≠ g5 from by rw [hg]; exact Nat.ne_of_gt (blk_lt G5.out.x))
      replace G5 := Aside0.mk (G5.out.below hb)
      replace BA := Aside0.mk (BA.out.below hb)
      replace HB := Aside0.mk (HB.out.trans (hb.mono HB.out.size))
      clear hb hg hbox
      refine hK.out _ _ (KEEP.out _ HB.out) (fun hHeld => ?_)
      clear hK K
      refine nr_ ?_
      refine one_ (i := 5) (N := some 17) #[true, true, true, true, true, true, true, true, false, false] rfl rfl (by kernel_rfl) (by decide) (fun K hK => ?_)
      refine goes_ Tryd.func68 (by kernel_rfl) rfl #[.agg #[.int .i64 a0_3, .slice A0_4 l0_4.length c0_4, .int .i64 a0_5]] (by rfl) rfl rfl ma_ ?_
      with_reducible refine (dvalue_calls a0_3 A0_4 c0_4 l0_4 a0_5 _ (Kd.C_below HS.out (X2.out.lo.trans (HB.out.mono X2.out.lo.size))) (isD_isW HD.out.2)).mono ?_
      rintro x w1 ⟨b', rfl, -, hbig, hb⟩
      refine ⟨_, rfl, ?_⟩
      have BB := Aside0.mk (hbig)
      replace G5 := Aside0.mk (G5.out.below hb)
      replace BA := Aside0.mk (BA.out.below hb)
      replace G4 := Aside0.mk (G4.out.below hb)
      replace HB := Aside0.mk (HB.out.trans (hb.mono HB.out.size))
      clear hb hbig
      refine hK.out _ _ (KEEP.out _ HB.out) (fun hHeld => ?_)
      clear hK K
      refine nr_ ?_
      exact norm_ (by first | (simp only [putAll, Act.put, List.setIfInBounds_toArray, List.set_cons_zero, List.set_cons_succ]; done) | (simp only [putAll, Act.put, List.setIfInBounds_toArray, List.set_cons_zero, List.set_cons_succ]; rfl)) (hJ (b, b', g4, g5) _ ⟨hHeld, G4.out, G5.out, NE.out, BA.out, BB.out, HB.out, EG4.out, EG5.out⟩)
    ·skip
     refine box_step ?hg (N := 4) ?hd (cs := #[.pointer none, .int .i64 0]) (t := 90) ?hr ?_; (case hd => rfl); (case hg => rfl); (case hr => first | (go_simp; done) | (go_simp; rfl))
     intro g4 hg w1 hbox hb
     have G4 := Aside0.mk (show BX w1 g4 #[.pointer none, .int .i64 0] 90 from ⟨hbox⟩)
     have EG4 := Aside0.mk (show w2.heap.size ≤ g4 from by rw [hg]; exact HB.out.size)
     have NE := Aside0.mk (show g4 ≠ g5 from by rw [hg]; exact Nat.ne_of_gt (blk_lt G5.out.x))
     replace G5 := Aside0.mk (G5.out.below hb)
     replace HB := Aside0.mk (HB.out.trans (hb.mono HB.out.size))
     clear hb hg hbox
     refine hK.out _ _ (KEEP.out _ HB.out) (fun hHeld => ?_)
     clear hK K
     refine nr_ ?_
     refine one_ (i := 2) (N := some 14) #[true, true, true, true, true, false, true, true, false, false] rfl rfl (by kernel_rfl) (by decide) (fun K hK => ?_)
     refine goes_ Tryd.func68 (by kernel_rfl) rfl #[.agg #[.int .i64 a0_0, .slice A0_1 l0_1.length c0_1, .int .i64 a0_2]] (by rfl) rfl rfl ma_ ?_
     with_reducible refine (dvalue_calls a0_0 A0_1 c0_1 l0_1 a0_2 _ (Kd.C_below HR.out (X2.out.lo.trans (HB.out.mono X2.out.lo.size))) (isD_isW HD.out.1)).mono ?_
     rintro x w1 ⟨b, rfl, -, hbig, hb⟩
     refine ⟨_, rfl, ?_⟩
     have BA := Aside0.mk (hbig)
     replace G5 := Aside0.mk (G5.out.below hb)
     replace G4 := Aside0.mk (G4.out.below hb)
     replace HB := Aside0.mk (HB.out.trans (hb.mono HB.out.size))
     clear hb hbig
     refine hK.out _ _ (KEEP.out _ HB.out) (fun hHeld => ?_)
     clear hK K
     refine nr_ ?_
     refine one_ (i := 5) (N := some 17) #[true, true, true, true, true, true, true, true, false, false] rfl rfl (by kernel_rfl) (by decide) (fun K hK => ?_)
     refine goes_ Tryd.func68 (by kernel_rfl) rfl #[.agg #[.int .i64 a0_3, .slice A0_4 l0_4.length c0_4, .int .i64 a0_5]] (by rfl) rfl rfl ma_ ?_
     with_reducible refine (dvalue_calls a0_3 A0_4 c0_4 l0_4 a0_5 _ (Kd.C_below HS.out (X2.out.lo.trans (HB.out.mono X2.out.lo.size))) (isD_isW HD.out.2)).mono ?_
     rintro x w1 ⟨b', rfl, -, hbig, hb⟩
     refine ⟨_, rfl, ?_⟩
     have BB := Aside0.mk (hbig)
     replace G5 := Aside0.mk (G5.out.below hb)
     replace G4 := Aside0.mk (G4.out.below hb)
     replace BA := Aside0.mk (BA.out.below hb)
     replace HB := Aside0.mk (HB.out.trans (hb.mono HB.out.size))
     clear hb hbig
     refine hK.out _ _ (KEEP.out _ HB.out) (fun hHeld => ?_)
     clear hK K
     refine nr_ ?_
     exact norm_ (by first | (simp only [putAll, Act.put, List.setIfInBounds_toArray, List.set_cons_zero, List.set_cons_succ]; done) | (simp only [putAll, Act.put, List.setIfInBounds_toArray, List.set_cons_zero, List.set_cons_succ]; rfl)) (hJ (b, b', g4, g5) _ ⟨hHeld, G4.out, G5.out, NE.out, BA.out, BB.out, HB.out, EG4.out, EG5.out⟩)
  case rest =>
   obtain ⟨ga, gb, za, zb, rfl, rfl, ⟨hN4, hN5, hlo⟩⟩ := hcut
   have N4 := Aside0.mk hN4; have N5 := Aside0.mk hN5; have R3 := Aside0.mk (R2.out.below hlo)
   clear hN4 hN5 hlo p0 p1 p2 p3 p4 p5 HB
   generalize wc = w2 at N4 N5 R3 ⊢
   have HB := Aside0.mk (Below.refl w2.heap.size w2)
   obtain ⟨w1, ew⟩ : ∃ w1, w1 = w2 := ⟨_, rfl⟩
   rw [← ew]
   have HB := Aside0.mk (show Below w2.heap.size w2 w1 from by rw [ew]; exact HB.out)
   clear ew
   go_upto_region 4 with fail
   go_cut [6, 7] (fun s6 s7 wx => ∃ g4 g5 b b' : Nat, s6 = .pointer (some ⟨g4, 0, none⟩) ∧ s7 = .pointer (some ⟨g5, 0, none⟩) ∧ Aside0 (NB wx g4 b (wv a0_0 l0_1 * wv a0_0 l0_1) (a0_2 + a0_2) 400 ∧ NB wx g5 b' (wv a0_3 l0_4 * wv a0_3 l0_4) (a0_5 + a0_5) 400 ∧ Below w2.heap.size w2 wx))
   case first =>
    have KEEP := Aside0.mk (show ∀ wx : World, Below w2.heap.size w2 wx → wx.cell? ⟨ga, 0, none⟩ = some (.pointer (some ⟨za, 0, none⟩)) ∧ wx.cell? ⟨ga, 1, none⟩ = some (.int .i64 a0_2) ∧ wx.cell? ⟨gb, 0, none⟩ = some (.pointer (some ⟨zb, 0, none⟩)) ∧ wx.cell? ⟨gb, 1, none⟩ = some (.int .i64 a0_5) from fun wx hb => ⟨(N4.out.below hb).cells.1, (N4.out.below hb).cells.2, (N5.out.below hb).cells.1, (N5.out.below hb).cells.2⟩)
    refine start_ (n := 10) (S := fun w' => w'.cell? ⟨ga, 0, none⟩ = some (.pointer (some ⟨za, 0, none⟩)) ∧ w'.cell? ⟨ga, 1, none⟩ = some (.int .i64 a0_2) ∧ w'.cell? ⟨gb, 0, none⟩ = some (.pointer (some ⟨zb, 0, none⟩)) ∧ w'.cell? ⟨gb, 1, none⟩ = some (.int .i64 a0_5)) (ds := [8, 9]) #[false, false, false, false, false, false, false, false, false, false] (by kernel_rfl) rfl rfl (KEEP.out w1 HB.out) (fun hHeld => ?_)
    have D := Aside0.mk ((Below.refl w1.heap.size w1).drew); generalize w1.drew = w0 at hHeld D ⊢; replace HB := Aside0.mk (HB.out.trans (D.out.mono HB.out.size))
    refine tk_ #[true, false, false, false, false, false, false, false, false, false] 0 18 (by kernel_rfl) hHeld ?_
    refine tk_ #[true, true, false, false, false, false, false, false, false, false] 1 19 (by kernel_rfl) hHeld ?_
    refine tk_ #[true, true, false, true, false, false, false, false, false, false] 3 21 (by kernel_rfl) hHeld ?_
    refine tk_ #[true, true, false, true, true, false, false, false, false, false] 4 22 (by kernel_rfl) hHeld ?_
    refine join_ (σ := Nat × Nat × Nat × Nat) 2 #[true, true, true, true, true, true, true, true, false, false] (fun s => [(20, .agg #[.pointer (some ⟨s.1, 0, none⟩), .int .i64 (a0_2 + a0_2)]), (23, .agg #[.pointer (some ⟨s.2.1, 0, none⟩), .int .i64 (a0_5 + a0_5)]), (6, .pointer (some ⟨s.2.2.1, 0, none⟩)), (7, .pointer (some ⟨s.2.2.2, 0, none⟩))]) (fun s w' => (w'.cell? ⟨ga, 0, none⟩ = some (.pointer (some ⟨za, 0, none⟩)) ∧ w'.cell? ⟨ga, 1, none⟩ = some (.int .i64 a0_2) ∧ w'.cell? ⟨gb, 0, none⟩ = some (.pointer (some ⟨zb, 0, none⟩)) ∧ w'.cell? ⟨gb, 1, none⟩ = some (.int .i64 a0_5)) ∧ BX w' s.2.2.1 #[.pointer none, .int .i64 0] 90 ∧ BX w' s.2.2.2 #[.pointer none, .int .i64 0] 90 ∧ s.2.2.1 ≠ s.2.2.2 ∧ Big w' s.1 (wv a0_0 l0_1 * wv a0_0 l0_1) 400 ∧ Big w' s.2.1 (wv a0_3 l0_4 * wv a0_3 l0_4) 400 ∧ Below w2.heap.size w2 w' ∧ w2.heap.size ≤ s.2.2.1 ∧ w2.heap.size ≤ s.2.2.2) ?cont (fun hJ => ?_)
    case cont =>
     rintro ⟨b, b', g4, g5⟩ w1 ⟨hHeld, h1, h2, h3, h4, h5, h6, h7, h8⟩
     try dsimp only at hHeld h1 h2 h3 h4 h5 h6 h7 h8
     have G4 := Aside0.mk h1; have G5 := Aside0.mk h2; have NE := Aside0.mk h3; have BA := Aside0.mk h4; have BB := Aside0.mk h5; have HB := Aside0.mk h6; have EG4 := Aside0.mk h7; have EG5 := Aside0.mk h8; clear h1 h2 h3 h4 h5 h6 h7 h8
     refine norm_ (a' := ?_) ?_ ?_
     rotate_left
     ·simp only [putAll, Act.put, List.setIfInBounds_toArray, List.set_cons_zero, List.set_cons_succ]
      rfl
     refine last_ (i := 8) (N := none) #[true, true, true, true, true, true, true, true, true, false] rfl rfl (by kernel_rfl) (by decide) (fun K hK => ?_)
     obtain ⟨ca0, ca1, fa0, fa1⟩ := ck2_ (Aside0.mk G4.out.x)
     refine skip_ (w1 := ?_) (by rfl) rfl ?_ ?_
     rotate_left
     ·go_simp
      rfl
     refine hK.out _ _ ?_
     clear hK K
     clear ca0 ca1 fa0 fa1
     have X := Aside0.mk (put2 G4.out (.pointer (some ⟨b, 0, none⟩)) (.int .i64 (a0_2 + a0_2)))
     replace G5 := Aside0.mk ((G5.out.far NE.out.symm 0 (.pointer (some ⟨b, 0, none⟩))).far NE.out.symm 1 (.int .i64 (a0_2 + a0_2)))
     replace BA := Aside0.mk (big_put G4.out BA.out (.pointer (some ⟨b, 0, none⟩)) (.int .i64 (a0_2 + a0_2))); replace BB := Aside0.mk (big_put G4.out BB.out (.pointer (some ⟨b, 0, none⟩)) (.int .i64 (a0_2 + a0_2)))
     replace HB := Aside0.mk (set2 HB.out EG4.out (.pointer (some ⟨b, 0, none⟩)) (.int .i64 (a0_2 + a0_2)))
     replace G4 := X; clear X
     refine last_ (i := 9) (N := none) #[true, true, true, true, true, true, true, true, true, true] rfl rfl (by kernel_rfl) (by decide) (fun K hK => ?_)
     obtain ⟨cb0, cb1, fb0, fb1⟩ := ck2_ (Aside0.mk G5.out.x)
     refine skip_ (w1 := ?_) (by rfl) rfl ?_ ?_
     rotate_left
     ·go_simp
      rfl
     refine hK.out _ _ ?_
     clear hK K
     clear cb0 cb1 fb0 fb1
     have X := Aside0.mk (put2 G5.out (.pointer (some ⟨b', 0, none⟩)) (.int .i64 (a0_5 + a0_5)))
     replace G4 := Aside0.mk ((G4.out.far NE.out 0 (.pointer (some ⟨b', 0, none⟩))).far NE.out 1 (.int .i64 (a0_5 + a0_5)))
     replace BA := Aside0.mk (big_put G5.out BA.out (.pointer (some ⟨b', 0, none⟩)) (.int .i64 (a0_5 + a0_5))); replace BB := Aside0.mk (big_put G5.out BB.out (.pointer (some ⟨b', 0, none⟩)) (.int .i64 (a0_5 + a0_5)))
     replace HB := Aside0.mk (set2 HB.out EG5.out (.pointer (some ⟨b', 0, none⟩)) (.int .i64 (a0_5 + a0_5)))
     replace G5 := X; clear X
     refine done_ (by kernel_rfl) ?_
     go_wp2
     go_meet
     exact ⟨g4, g5, b, b', rfl, rfl, ⟨⟨G4.out.x, BA.out⟩, ⟨G5.out.x, BB.out⟩, HB.out⟩⟩
    refine three_ (i := 2) (j := 6) (k := 7) (Ni := some 20) (Nj := some 6) (Nk := some 7) #[true, true, true, true, true, false, false, false, false, false] #[true, true, false, true, true, false, true, false, false, false] #[true, true, false, true, true, false, false, true, false, false] rfl rfl rfl rfl rfl rfl (by kernel_rfl) (by decide) (by decide) (by decide) (fun K hK => ?_) (fun K hK => ?_) (fun K hK => ?_)
    ·skip
     refine goes_ Tryd.func74 (by kernel_rfl) rfl #[.agg #[.pointer (some ⟨za, 0, none⟩), .int .i64 a0_2], .agg #[.pointer (some ⟨za, 0, none⟩), .int .i64 a0_2]] (by rfl) rfl rfl ma_ ?_
     with_reducible refine (times_calls za za _ _ a0_2 a0_2 _ (N4.out.big.below HB.out) (N4.out.big.below HB.out) HE.out.1 HE.out.1).mono ?_
     rintro x w1 ⟨b, rfl, hbig, -, hb⟩
     refine ⟨_, rfl, ?_⟩
     have BA := Aside0.mk (hbig)
     replace HB := Aside0.mk (HB.out.trans (hb.mono HB.out.size))
     clear hb hbig
     refine hK.out _ _ (KEEP.out _ HB.out) (fun hHeld => ?_)
     clear hK K
     refine nr_ ?_
     refine three_ (i := 5) (j := 6) (k := 7) (Ni := some 23) (Nj := some 6) (Nk := some 7) #[true, true, true, true, true, true, false, false, false, false] #[true, true, true, true, true, false, true, false, false, false] #[true, true, true, true, true, false, false, true, false, false] rfl rfl rfl rfl rfl rfl (by kernel_rfl) (by decide) (by decide) (by decide) (fun K hK => ?_) (fun K hK => ?_) (fun K hK => ?_)
     ·skip
      refine goes_ Tryd.func74 (by kernel_rfl) rfl #[.agg #[.pointer (some ⟨zb, 0, none⟩), .int .i64 a0_5], .agg #[.pointer (some ⟨zb, 0, none⟩), .int .i64 a0_5]] (by rfl) rfl rfl ma_ ?_
      with_reducible refine (times_calls zb zb _ _ a0_5 a0_5 _ (N5.out.big.below HB.out) (N5.out.big.below HB.out) HE.out.2 HE.out.2).mono ?_
      rintro x w1 ⟨b', rfl, hbig, -, hb⟩
      refine ⟨_, rfl, ?_⟩
      have BB := Aside0.mk (hbig)
      replace BA := Aside0.mk (BA.out.below hb)
      replace HB := Aside0.mk (HB.out.trans (hb.mono HB.out.size))
      clear hb hbig
      refine hK.out _ _ (KEEP.out _ HB.out) (fun hHeld => ?_)
      clear hK K
      refine nr_ ?_
      refine two_ (i := 6) (j := 7) (Ni := some 6) (Nj := some 7) #[true, true, true, true, true, true, true, false, false, false] #[true, true, true, true, true, true, false, true, false, false] rfl rfl rfl rfl (by kernel_rfl) (by decide) (by decide) (fun K hK => ?_) (fun K hK => ?_)
      ·skip
       refine box_step ?hg (N := 6) ?hd (cs := #[.pointer none, .int .i64 0]) (t := 90) ?hr ?_; (case hd => rfl); (case hg => rfl); (case hr => first | (go_simp; done) | (go_simp; rfl))
       intro g4 hg w1 hbox hb
       have G4 := Aside0.mk (show BX w1 g4 #[.pointer none, .int .i64 0] 90 from ⟨hbox⟩)
       have EG4 := Aside0.mk (show w2.heap.size ≤ g4 from by rw [hg]; exact HB.out.size)
       replace BA := Aside0.mk (BA.out.below hb)
       replace BB := Aside0.mk (BB.out.below hb)
       replace HB := Aside0.mk (HB.out.trans (hb.mono HB.out.size))
       clear hb hg hbox
       refine hK.out _ _ (KEEP.out _ HB.out) (fun hHeld => ?_)
       clear hK K
       refine nr_ ?_
       refine one_ (i := 7) (N := some 7) #[true, true, true, true, true, true, true, true, false, false] rfl rfl (by kernel_rfl) (by decide) (fun K hK => ?_)
       refine box_step ?hg (N := 7) ?hd (cs := #[.pointer none, .int .i64 0]) (t := 90) ?hr ?_; (case hd => rfl); (case hg => rfl); (case hr => first | (go_simp; done) | (go_simp; rfl))
       intro g5 hg w1 hbox hb
       have G5 := Aside0.mk (show BX w1 g5 #[.pointer none, .int .i64 0] 90 from ⟨hbox⟩)
       have EG5 := Aside0.mk (show w2.heap.size ≤ g5 from by rw [hg]; exact HB.out.size)
       have NE := Aside0.mk (show g4 ≠ g5 from by rw [hg]; exact Nat.ne_of_lt (blk_lt G4.out.x))
       replace BA := Aside0.mk (BA.out.below hb)
       replace BB := Aside0.mk (BB.out.below hb)
       replace G4 := Aside0.mk (G4.out.below hb)
       replace HB := Aside0.mk (HB.out.trans (hb.mono HB.out.size))
       clear hb hg hbox
       refine hK.out _ _ (KEEP.out _ HB.out) (fun hHeld => ?_)
       clear hK K
       refine nr_ ?_
       exact norm_ (by first | (simp only [putAll, Act.put, List.setIfInBounds_toArray, List.set_cons_zero, List.set_cons_succ]; done) | (simp only [putAll, Act.put, List.setIfInBounds_toArray, List.set_cons_zero, List.set_cons_succ]; rfl)) (hJ (b, b', g4, g5) _ ⟨hHeld, G4.out, G5.out, NE.out, BA.out, BB.out, HB.out, EG4.out, EG5.out⟩)
      ·skip
       refine box_step ?hg (N := 7) ?hd (cs := #[.pointer none, .int .i64 0]) (t := 90) ?hr ?_; (case hd => rfl); (case hg => rfl); (case hr => first | (go_simp; done) | (go_simp; rfl))
       intro g5 hg w1 hbox hb
       have G5 := Aside0.mk (show BX w1 g5 #[.pointer none, .int .i64 0] 90 from ⟨hbox⟩)
       have EG5 := Aside0.mk (show w2.heap.size ≤ g5 from by rw [hg]; exact HB.out.size)
       replace BA := Aside0.mk (BA.out.below hb)
       replace BB := Aside0.mk (BB.out.below hb)
       replace HB := Aside0.mk (HB.out.trans (hb.mono HB.out.size))
       clear hb hg hbox
       refine hK.out _ _ (KEEP.out _ HB.out) (fun hHeld => ?_)
       clear hK K
       refine nr_ ?_
       refine one_ (i := 6) (N := some 6) #[true, true, true, true, true, true, true, true, false, false] rfl rfl (by kernel_rfl) (by decide) (fun K hK => ?_)
       refine box_step ?hg (N := 6) ?hd (cs := #[.pointer none, .int .i64 0]) (t := 90) ?hr ?_; (case hd => rfl); (case hg => rfl); (case hr => first | (go_simp; done) | (go_simp; rfl))
       intro g4 hg w1 hbox hb
       have G4 := Aside0.mk (show BX w1 g4 #[.pointer none, .int .i64 0] 90 from ⟨hbox⟩)
       have EG4 := Aside0.mk (show w2.heap.size ≤ g4 from by rw [hg]; exact HB.out.size)
       have NE := Aside0.mk (show g4 ≠ g5 from by rw [hg]; exact Nat.ne_of_gt (blk_lt G5.out.x))
       replace BA := Aside0.mk (BA.out.below hb)
       replace BB := Aside0.mk (BB.out.below hb)
       replace G5 := Aside0.mk (G5.out.below hb)
       replace HB := Aside0.mk (HB.out.trans (hb.mono HB.out.size))
       clear hb hg hbox
       refine hK.out _ _ (KEEP.out _ HB.out) (fun hHeld => ?_)
       clear hK K
       refine nr_ ?_
       exact norm_ (by first | (simp only [putAll, Act.put, List.setIfInBounds_toArray, List.set_cons_zero, List.set_cons_succ]; done) | (simp only [putAll, Act.put, List.setIfInBounds_toArray, List.set_cons_zero, List.set_cons_succ]; rfl)) (hJ (b, b', g4, g5) _ ⟨hHeld, G4.out, G5.out, NE.out, BA.out, BB.out, HB.out, EG4.out, EG5.out⟩)
     ·skip
      refine box_step ?hg (N := 6) ?hd (cs := #[.pointer none, .int .i64 0]) (t := 90) ?hr ?_; (case hd => rfl); (case hg => rfl); (case hr => first | (go_simp; done) | (go_simp; rfl))
      intro g4 hg w1 hbox hb
      have G4 := Aside0.mk (show BX w1 g4 #[.pointer none, .int .i64 0] 90 from ⟨hbox⟩)
      have EG4 := Aside0.mk (show w2.heap.size ≤ g4 from by rw [hg]; exact HB.out.size)
      replace BA := Aside0.mk (BA.out.below hb)
      replace HB := Aside0.mk (HB.out.trans (hb.mono HB.out.size))
      clear hb hg hbox
      refine hK.out _ _ (KEEP.out _ HB.out) (fun hHeld => ?_)
      clear hK K
      refine nr_ ?_
      refine two_ (i := 5) (j := 7) (Ni := some 23) (Nj := some 7) #[true, true, true, true, true, true, true, false, false, false] #[true, true, true, true, true, false, true, true, false, false] rfl rfl rfl rfl (by kernel_rfl) (by decide) (by decide) (fun K hK => ?_) (fun K hK => ?_)
      ·skip
       refine goes_ Tryd.func74 (by kernel_rfl) rfl #[.agg #[.pointer (some ⟨zb, 0, none⟩), .int .i64 a0_5], .agg #[.pointer (some ⟨zb, 0, none⟩), .int .i64 a0_5]] (by rfl) rfl rfl ma_ ?_
       with_reducible refine (times_calls zb zb _ _ a0_5 a0_5 _ (N5.out.big.below HB.out) (N5.out.big.below HB.out) HE.out.2 HE.out.2).mono ?_
       rintro x w1 ⟨b', rfl, hbig, -, hb⟩
       refine ⟨_, rfl, ?_⟩
       have BB := Aside0.mk (hbig)
       replace BA := Aside0.mk (BA.out.below hb)
       replace G4 := Aside0.mk (G4.out.below hb)
       replace HB := Aside0.mk (HB.out.trans (hb.mono HB.out.size))
       clear hb hbig
       refine hK.out _ _ (KEEP.out _ HB.out) (fun hHeld => ?_)
       clear hK K
       refine nr_ ?_
       refine one_ (i := 7) (N := some 7) #[true, true, true, true, true, true, true, true, false, false] rfl rfl (by kernel_rfl) (by decide) (fun K hK => ?_)
       refine box_step ?hg (N := 7) ?hd (cs := #[.pointer none, .int .i64 0]) (t := 90) ?hr ?_; (case hd => rfl); (case hg => rfl); (case hr => first | (go_simp; done) | (go_simp; rfl))
       intro g5 hg w1 hbox hb
       have G5 := Aside0.mk (show BX w1 g5 #[.pointer none, .int .i64 0] 90 from ⟨hbox⟩)
       have EG5 := Aside0.mk (show w2.heap.size ≤ g5 from by rw [hg]; exact HB.out.size)
       have NE := Aside0.mk (show g4 ≠ g5 from by rw [hg]; exact Nat.ne_of_lt (blk_lt G4.out.x))
       replace BA := Aside0.mk (BA.out.below hb)
       replace G4 := Aside0.mk (G4.out.below hb)
       replace BB := Aside0.mk (BB.out.below hb)
       replace HB := Aside0.mk (HB.out.trans (hb.mono HB.out.size))
       clear hb hg hbox
       refine hK.out _ _ (KEEP.out _ HB.out) (fun hHeld => ?_)
       clear hK K
       refine nr_ ?_
       exact norm_ (by first | (simp only [putAll, Act.put, List.setIfInBounds_toArray, List.set_cons_zero, List.set_cons_succ]; done) | (simp only [putAll, Act.put, List.setIfInBounds_toArray, List.set_cons_zero, List.set_cons_succ]; rfl)) (hJ (b, b', g4, g5) _ ⟨hHeld, G4.out, G5.out, NE.out, BA.out, BB.out, HB.out, EG4.out, EG5.out⟩)
      ·skip
       refine box_step ?hg (N := 7) ?hd (cs := #[.pointer none, .int .i64 0]) (t := 90) ?hr ?_; (case hd => rfl); (case hg => rfl); (case hr => first | (go_simp; done) | (go_simp; rfl))
       intro g5 hg w1 hbox hb
       have G5 := Aside0.mk (show BX w1 g5 #[.pointer none, .int .i64 0] 90 from ⟨hbox⟩)
       have EG5 := Aside0.mk (show w2.heap.size ≤ g5 from by rw [hg]; exact HB.out.size)
       have NE := Aside0.mk (show g4 ≠ g5 from by rw [hg]; exact Nat.ne_of_lt (blk_lt G4.out.x))
       replace BA := Aside0.mk (BA.out.below hb)
       replace G4 := Aside0.mk (G4.out.below hb)
       replace HB := Aside0.mk (HB.out.trans (hb.mono HB.out.size))
       clear hb hg hbox
       refine hK.out _ _ (KEEP.out _ HB.out) (fun hHeld => ?_)
       clear hK K
       refine nr_ ?_
       refine one_ (i := 5) (N := some 23) #[true, true, true, true, true, true, true, true, false, false] rfl rfl (by kernel_rfl) (by decide) (fun K hK => ?_)
       refine goes_ Tryd.func74 (by kernel_rfl) rfl #[.agg #[.pointer (some ⟨zb, 0, none⟩), .int .i64 a0_5], .agg #[.pointer (some ⟨zb, 0, none⟩), .int .i64 a0_5]] (by rfl) rfl rfl ma_ ?_
       with_reducible refine (times_calls zb zb _ _ a0_5 a0_5 _ (N5.out.big.below HB.out) (N5.out.big.below HB.out) HE.out.2 HE.out.2).mono ?_
       rintro x w1 ⟨b', rfl, hbig, -, hb⟩
       refine ⟨_, rfl, ?_⟩
       have BB := Aside0.mk (hbig)
       replace BA := Aside0.mk (BA.out.below hb)
       replace G4 := Aside0.mk (G4.out.below hb)
       replace G5 := Aside0.mk (G5.out.below hb)
       replace HB := Aside0.mk (HB.out.trans (hb.mono HB.out.size))
       clear hb hbig
       refine hK.out _ _ (KEEP.out _ HB.out) (fun hHeld => ?_)
       clear hK K
       refine nr_ ?_
       exact norm_ (by first | (simp only [putAll, Act.put, List.setIfInBounds_toArray, List.set_cons_zero, List.set_cons_succ]; done) | (simp only [putAll, Act.put, List.setIfInBounds_toArray, List.set_cons_zero, List.set_cons_succ]; rfl)) (hJ (b, b', g4, g5) _ ⟨hHeld, G4.out, G5.out, NE.out, BA.out, BB.out, HB.out, EG4.out, EG5.out⟩)
     ·skip
      refine box_step ?hg (N := 7) ?hd (cs := #[.pointer none, .int .i64 0]) (t := 90) ?hr ?_; (case hd => rfl); (case hg => rfl); (case hr => first | (go_simp; done) | (go_simp; rfl))
      intro g5 hg w1 hbox hb
      have G5 := Aside0.mk (show BX w1 g5 #[.pointer none, .int .i64 0] 90 from ⟨hbox⟩)
      have EG5 := Aside0.mk (show w2.heap.size ≤ g5 from by rw [hg]; exact HB.out.size)
      replace BA := Aside0.mk (BA.out.below hb)
      replace HB := Aside0.mk (HB.out.trans (hb.mono HB.out.size))
      clear hb hg hbox
      refine hK.out _ _ (KEEP.out _ HB.out) (fun hHeld => ?_)
      clear hK K
      refine nr_ ?_
      refine two_ (i := 5) (j := 6) (Ni := some 23) (Nj := some 6) #[true, true, true, true, true, true, false, true, false, false] #[true, true, true, true, true, false, true, true, false, false] rfl rfl rfl rfl (by kernel_rfl) (by decide) (by decide) (fun K hK => ?_) (fun K hK => ?_)
      ·skip
       refine goes_ Tryd.func74 (by kernel_rfl) rfl #[.agg #[.pointer (some ⟨zb, 0, none⟩), .int .i64 a0_5], .agg #[.pointer (some ⟨zb, 0, none⟩), .int .i64 a0_5]] (by rfl) rfl rfl ma_ ?_
       with_reducible refine (times_calls zb zb _ _ a0_5 a0_5 _ (N5.out.big.below HB.out) (N5.out.big.below HB.out) HE.out.2 HE.out.2).mono ?_
       rintro x w1 ⟨b', rfl, hbig, -, hb⟩
       refine ⟨_, rfl, ?_⟩
       have BB := Aside0.mk (hbig)
       replace BA := Aside0.mk (BA.out.below hb)
       replace G5 := Aside0.mk (G5.out.below hb)
       replace HB := Aside0.mk (HB.out.trans (hb.mono HB.out.size))
       clear hb hbig
       refine hK.out _ _ (KEEP.out _ HB.out) (fun hHeld => ?_)
       clear hK K
       refine nr_ ?_
       refine one_ (i := 6) (N := some 6) #[true, true, true, true, true, true, true, true, false, false] rfl rfl (by kernel_rfl) (by decide) (fun K hK => ?_)
       refine box_step ?hg (N := 6) ?hd (cs := #[.pointer none, .int .i64 0]) (t := 90) ?hr ?_; (case hd => rfl); (case hg => rfl); (case hr => first | (go_simp; done) | (go_simp; rfl))
       intro g4 hg w1 hbox hb
       have G4 := Aside0.mk (show BX w1 g4 #[.pointer none, .int .i64 0] 90 from ⟨hbox⟩)
       have EG4 := Aside0.mk (show w2.heap.size ≤ g4 from by rw [hg]; exact HB.out.size)
       have NE := Aside0.mk (show g4 ≠ g5 from by rw [hg]; exact Nat.ne_of_gt (blk_lt G5.out.x))
       replace BA := Aside0.mk (BA.out.below hb)
       replace G5 := Aside0.mk (G5.out.below hb)
       replace BB := Aside0.mk (BB.out.below hb)
       replace HB := Aside0.mk (HB.out.trans (hb.mono HB.out.size))
       clear hb hg hbox
       refine hK.out _ _ (KEEP.out _ HB.out) (fun hHeld => ?_)
       clear hK K
       refine nr_ ?_
       exact norm_ (by first | (simp only [putAll, Act.put, List.setIfInBounds_toArray, List.set_cons_zero, List.set_cons_succ]; done) | (simp only [putAll, Act.put, List.setIfInBounds_toArray, List.set_cons_zero, List.set_cons_succ]; rfl)) (hJ (b, b', g4, g5) _ ⟨hHeld, G4.out, G5.out, NE.out, BA.out, BB.out, HB.out, EG4.out, EG5.out⟩)
      ·skip
       refine box_step ?hg (N := 6) ?hd (cs := #[.pointer none, .int .i64 0]) (t := 90) ?hr ?_; (case hd => rfl); (case hg => rfl); (case hr => first | (go_simp; done) | (go_simp; rfl))
       intro g4 hg w1 hbox hb
       have G4 := Aside0.mk (show BX w1 g4 #[.pointer none, .int .i64 0] 90 from ⟨hbox⟩)
       have EG4 := Aside0.mk (show w2.heap.size ≤ g4 from by rw [hg]; exact HB.out.size)
       have NE := Aside0.mk (show g4 ≠ g5 from by rw [hg]; exact Nat.ne_of_gt (blk_lt G5.out.x))
       replace BA := Aside0.mk (BA.out.below hb)
       replace G5 := Aside0.mk (G5.out.below hb)
       replace HB := Aside0.mk (HB.out.trans (hb.mono HB.out.size))
       clear hb hg hbox
       refine hK.out _ _ (KEEP.out _ HB.out) (fun hHeld => ?_)
       clear hK K
       refine nr_ ?_
       refine one_ (i := 5) (N := some 23) #[true, true, true, true, true, true, true, true, false, false] rfl rfl (by kernel_rfl) (by decide) (fun K hK => ?_)
       refine goes_ Tryd.func74 (by kernel_rfl) rfl #[.agg #[.pointer (some ⟨zb, 0, none⟩), .int .i64 a0_5], .agg #[.pointer (some ⟨zb, 0, none⟩), .int .i64 a0_5]] (by rfl) rfl rfl ma_ ?_
       with_reducible refine (times_calls zb zb _ _ a0_5 a0_5 _ (N5.out.big.below HB.out) (N5.out.big.below HB.out) HE.out.2 HE.out.2).mono ?_
       rintro x w1 ⟨b', rfl, hbig, -, hb⟩
       refine ⟨_, rfl, ?_⟩
       have BB := Aside0.mk (hbig)
       replace BA := Aside0.mk (BA.out.below hb)
       replace G5 := Aside0.mk (G5.out.below hb)
       replace G4 := Aside0.mk (G4.out.below hb)
       replace HB := Aside0.mk (HB.out.trans (hb.mono HB.out.size))
       clear hb hbig
       refine hK.out _ _ (KEEP.out _ HB.out) (fun hHeld => ?_)
       clear hK K
       refine nr_ ?_
       exact norm_ (by first | (simp only [putAll, Act.put, List.setIfInBounds_toArray, List.set_cons_zero, List.set_cons_succ]; done) | (simp only [putAll, Act.put, List.setIfInBounds_toArray, List.set_cons_zero, List.set_cons_succ]; rfl)) (hJ (b, b', g4, g5) _ ⟨hHeld, G4.out, G5.out, NE.out, BA.out, BB.out, HB.out, EG4.out, EG5.out⟩)
    ·skip
     refine box_step ?hg (N := 6) ?hd (cs := #[.pointer none, .int .i64 0]) (t := 90) ?hr ?_; (case hd => rfl); (case hg => rfl); (case hr => first | (go_simp; done) | (go_simp; rfl))
     intro g4 hg w1 hbox hb
     have G4 := Aside0.mk (show BX w1 g4 #[.pointer none, .int .i64 0] 90 from ⟨hbox⟩)
     have EG4 := Aside0.mk (show w2.heap.size ≤ g4 from by rw [hg]; exact HB.out.size)
     replace HB := Aside0.mk (HB.out.trans (hb.mono HB.out.size))
     clear hb hg hbox
     refine hK.out _ _ (KEEP.out _ HB.out) (fun hHeld => ?_)
     clear hK K
     refine nr_ ?_
     refine two_ (i := 2) (j := 7) (Ni := some 20) (Nj := some 7) #[true, true, true, true, true, false, true, false, false, false] #[true, true, false, true, true, false, true, true, false, false] rfl rfl rfl rfl (by kernel_rfl) (by decide) (by decide) (fun K hK => ?_) (fun K hK => ?_)
     ·skip
      refine goes_ Tryd.func74 (by kernel_rfl) rfl #[.agg #[.pointer (some ⟨za, 0, none⟩), .int .i64 a0_2], .agg #[.pointer (some ⟨za, 0, none⟩), .int .i64 a0_2]] (by rfl) rfl rfl ma_ ?_
      with_reducible refine (times_calls za za _ _ a0_2 a0_2 _ (N4.out.big.below HB.out) (N4.out.big.below HB.out) HE.out.1 HE.out.1).mono ?_
      rintro x w1 ⟨b, rfl, hbig, -, hb⟩
      refine ⟨_, rfl, ?_⟩
      have BA := Aside0.mk (hbig)
      replace G4 := Aside0.mk (G4.out.below hb)
      replace HB := Aside0.mk (HB.out.trans (hb.mono HB.out.size))
      clear hb hbig
      refine hK.out _ _ (KEEP.out _ HB.out) (fun hHeld => ?_)
      clear hK K
      refine nr_ ?_
      refine two_ (i := 5) (j := 7) (Ni := some 23) (Nj := some 7) #[true, true, true, true, true, true, true, false, false, false] #[true, true, true, true, true, false, true, true, false, false] rfl rfl rfl rfl (by kernel_rfl) (by decide) (by decide) (fun K hK => ?_) (fun K hK => ?_)
      ·skip
       refine goes_ Tryd.func74 (by kernel_rfl) rfl #[.agg #[.pointer (some ⟨zb, 0, none⟩), .int .i64 a0_5], .agg #[.pointer (some ⟨zb, 0, none⟩), .int .i64 a0_5]] (by rfl) rfl rfl ma_ ?_
       with_reducible refine (times_calls zb zb _ _ a0_5 a0_5 _ (N5.out.big.below HB.out) (N5.out.big.below HB.out) HE.out.2 HE.out.2).mono ?_
       rintro x w1 ⟨b', rfl, hbig, -, hb⟩
       refine ⟨_, rfl, ?_⟩
       have BB := Aside0.mk (hbig)
       replace G4 := Aside0.mk (G4.out.below hb)
       replace BA := Aside0.mk (BA.out.below hb)
       replace HB := Aside0.mk (HB.out.trans (hb.mono HB.out.size))
       clear hb hbig
       refine hK.out _ _ (KEEP.out _ HB.out) (fun hHeld => ?_)
       clear hK K
       refine nr_ ?_
       refine one_ (i := 7) (N := some 7) #[true, true, true, true, true, true, true, true, false, false] rfl rfl (by kernel_rfl) (by decide) (fun K hK => ?_)
       refine box_step ?hg (N := 7) ?hd (cs := #[.pointer none, .int .i64 0]) (t := 90) ?hr ?_; (case hd => rfl); (case hg => rfl); (case hr => first | (go_simp; done) | (go_simp; rfl))
       intro g5 hg w1 hbox hb
       have G5 := Aside0.mk (show BX w1 g5 #[.pointer none, .int .i64 0] 90 from ⟨hbox⟩)
       have EG5 := Aside0.mk (show w2.heap.size ≤ g5 from by rw [hg]; exact HB.out.size)
       have NE := Aside0.mk (show g4 ≠ g5 from by rw [hg]; exact Nat.ne_of_lt (blk_lt G4.out.x))
       replace G4 := Aside0.mk (G4.out.below hb)
       replace BA := Aside0.mk (BA.out.below hb)
       replace BB := Aside0.mk (BB.out.below hb)
       replace HB := Aside0.mk (HB.out.trans (hb.mono HB.out.size))
       clear hb hg hbox
       refine hK.out _ _ (KEEP.out _ HB.out) (fun hHeld => ?_)
       clear hK K
       refine nr_ ?_
       exact norm_ (by first | (simp only [putAll, Act.put, List.setIfInBounds_toArray, List.set_cons_zero, List.set_cons_succ]; done) | (simp only [putAll, Act.put, List.setIfInBounds_toArray, List.set_cons_zero, List.set_cons_succ]; rfl)) (hJ (b, b', g4, g5) _ ⟨hHeld, G4.out, G5.out, NE.out, BA.out, BB.out, HB.out, EG4.out, EG5.out⟩)
      ·skip
       refine box_step ?hg (N := 7) ?hd (cs := #[.pointer none, .int .i64 0]) (t := 90) ?hr ?_; (case hd => rfl); (case hg => rfl); (case hr => first | (go_simp; done) | (go_simp; rfl))
       intro g5 hg w1 hbox hb
       have G5 := Aside0.mk (show BX w1 g5 #[.pointer none, .int .i64 0] 90 from ⟨hbox⟩)
       have EG5 := Aside0.mk (show w2.heap.size ≤ g5 from by rw [hg]; exact HB.out.size)
       have NE := Aside0.mk (show g4 ≠ g5 from by rw [hg]; exact Nat.ne_of_lt (blk_lt G4.out.x))
       replace G4 := Aside0.mk (G4.out.below hb)
       replace BA := Aside0.mk (BA.out.below hb)
       replace HB := Aside0.mk (HB.out.trans (hb.mono HB.out.size))
       clear hb hg hbox
       refine hK.out _ _ (KEEP.out _ HB.out) (fun hHeld => ?_)
       clear hK K
       refine nr_ ?_
       refine one_ (i := 5) (N := some 23) #[true, true, true, true, true, true, true, true, false, false] rfl rfl (by kernel_rfl) (by decide) (fun K hK => ?_)
       refine goes_ Tryd.func74 (by kernel_rfl) rfl #[.agg #[.pointer (some ⟨zb, 0, none⟩), .int .i64 a0_5], .agg #[.pointer (some ⟨zb, 0, none⟩), .int .i64 a0_5]] (by rfl) rfl rfl ma_ ?_
       with_reducible refine (times_calls zb zb _ _ a0_5 a0_5 _ (N5.out.big.below HB.out) (N5.out.big.below HB.out) HE.out.2 HE.out.2).mono ?_
       rintro x w1 ⟨b', rfl, hbig, -, hb⟩
       refine ⟨_, rfl, ?_⟩
       have BB := Aside0.mk (hbig)
       replace G4 := Aside0.mk (G4.out.below hb)
       replace BA := Aside0.mk (BA.out.below hb)
       replace G5 := Aside0.mk (G5.out.below hb)
       replace HB := Aside0.mk (HB.out.trans (hb.mono HB.out.size))
       clear hb hbig
       refine hK.out _ _ (KEEP.out _ HB.out) (fun hHeld => ?_)
       clear hK K
       refine nr_ ?_
       exact norm_ (by first | (simp only [putAll, Act.put, List.setIfInBounds_toArray, List.set_cons_zero, List.set_cons_succ]; done) | (simp only [putAll, Act.put, List.setIfInBounds_toArray, List.set_cons_zero, List.set_cons_succ]; rfl)) (hJ (b, b', g4, g5) _ ⟨hHeld, G4.out, G5.out, NE.out, BA.out, BB.out, HB.out, EG4.out, EG5.out⟩)
     ·skip
      refine box_step ?hg (N := 7) ?hd (cs := #[.pointer none, .int .i64 0]) (t := 90) ?hr ?_; (case hd => rfl); (case hg => rfl); (case hr => first | (go_simp; done) | (go_simp; rfl))
      intro g5 hg w1 hbox hb
      have G5 := Aside0.mk (show BX w1 g5 #[.pointer none, .int .i64 0] 90 from ⟨hbox⟩)
      have EG5 := Aside0.mk (show w2.heap.size ≤ g5 from by rw [hg]; exact HB.out.size)
      have NE := Aside0.mk (show g4 ≠ g5 from by rw [hg]; exact Nat.ne_of_lt (blk_lt G4.out.x))
      replace G4 := Aside0.mk (G4.out.below hb)
      replace HB := Aside0.mk (HB.out.trans (hb.mono HB.out.size))
      clear hb hg hbox
      refine hK.out _ _ (KEEP.out _ HB.out) (fun hHeld => ?_)
      clear hK K
      refine nr_ ?_
      refine one_ (i := 2) (N := some 20) #[true, true, true, true, true, false, true, true, false, false] rfl rfl (by kernel_rfl) (by decide) (fun K hK => ?_)
      refine goes_ Tryd.func74 (by kernel_rfl) rfl #[.agg #[.pointer (some ⟨za, 0, none⟩), .int .i64 a0_2], .agg #[.pointer (some ⟨za, 0, none⟩), .int .i64 a0_2]] (by rfl) rfl rfl ma_ ?_
      with_reducible refine (times_calls za za _ _ a0_2 a0_2 _ (N4.out.big.below HB.out) (N4.out.big.below HB.out) HE.out.1 HE.out.1).mono ?_
      rintro x w1 ⟨b, rfl, hbig, -, hb⟩
      refine ⟨_, rfl, ?_⟩
      have BA := Aside0.mk (hbig)
      replace G4 := Aside0.mk (G4.out.below hb)
      replace G5 := Aside0.mk (G5.out.below hb)
      replace HB := Aside0.mk (HB.out.trans (hb.mono HB.out.size))
      clear hb hbig
      refine hK.out _ _ (KEEP.out _ HB.out) (fun hHeld => ?_)
      clear hK K
      refine nr_ ?_
      refine one_ (i := 5) (N := some 23) #[true, true, true, true, true, true, true, true, false, false] rfl rfl (by kernel_rfl) (by decide) (fun K hK => ?_)
      refine goes_ Tryd.func74 (by kernel_rfl) rfl #[.agg #[.pointer (some ⟨zb, 0, none⟩), .int .i64 a0_5], .agg #[.pointer (some ⟨zb, 0, none⟩), .int .i64 a0_5]] (by rfl) rfl rfl ma_ ?_
      with_reducible refine (times_calls zb zb _ _ a0_5 a0_5 _ (N5.out.big.below HB.out) (N5.out.big.below HB.out) HE.out.2 HE.out.2).mono ?_
      rintro x w1 ⟨b', rfl, hbig, -, hb⟩
      refine ⟨_, rfl, ?_⟩
      have BB := Aside0.mk (hbig)
      replace G4 := Aside0.mk (G4.out.below hb)
      replace G5 := Aside0.mk (G5.out.below hb)
      replace BA := Aside0.mk (BA.out.below hb)
      replace HB := Aside0.mk (HB.out.trans (hb.mono HB.out.size))
      clear hb hbig
      refine hK.out _ _ (KEEP.out _ HB.out) (fun hHeld => ?_)
      clear hK K
      refine nr_ ?_
      exact norm_ (by first | (simp only [putAll, Act.put, List.setIfInBounds_toArray, List.set_cons_zero, List.set_cons_succ]; done) | (simp only [putAll, Act.put, List.setIfInBounds_toArray, List.set_cons_zero, List.set_cons_succ]; rfl)) (hJ (b, b', g4, g5) _ ⟨hHeld, G4.out, G5.out, NE.out, BA.out, BB.out, HB.out, EG4.out, EG5.out⟩)
    ·skip
     refine box_step ?hg (N := 7) ?hd (cs := #[.pointer none, .int .i64 0]) (t := 90) ?hr ?_; (case hd => rfl); (case hg => rfl); (case hr => first | (go_simp; done) | (go_simp; rfl))
     intro g5 hg w1 hbox hb
     have G5 := Aside0.mk (show BX w1 g5 #[.pointer none, .int .i64 0] 90 from ⟨hbox⟩)
     have EG5 := Aside0.mk (show w2.heap.size ≤ g5 from by rw [hg]; exact HB.out.size)
     replace HB := Aside0.mk (HB.out.trans (hb.mono HB.out.size))
     clear hb hg hbox
     refine hK.out _ _ (KEEP.out _ HB.out) (fun hHeld => ?_)
     clear hK K
     refine nr_ ?_
     refine two_ (i := 2) (j := 6) (Ni := some 20) (Nj := some 6) #[true, true, true, true, true, false, false, true, false, false] #[true, true, false, true, true, false, true, true, false, false] rfl rfl rfl rfl (by kernel_rfl) (by decide) (by decide) (fun K hK => ?_) (fun K hK => ?_)
     ·skip
      refine goes_ Tryd.func74 (by kernel_rfl) rfl #[.agg #[.pointer (some ⟨za, 0, none⟩), .int .i64 a0_2], .agg #[.pointer (some ⟨za, 0, none⟩), .int .i64 a0_2]] (by rfl) rfl rfl ma_ ?_
      with_reducible refine (times_calls za za _ _ a0_2 a0_2 _ (N4.out.big.below HB.out) (N4.out.big.below HB.out) HE.out.1 HE.out.1).mono ?_
      rintro x w1 ⟨b, rfl, hbig, -, hb⟩
      refine ⟨_, rfl, ?_⟩
      have BA := Aside0.mk (hbig)
      replace G5 := Aside0.mk (G5.out.below hb)
      replace HB := Aside0.mk (HB.out.trans (hb.mono HB.out.size))
      clear hb hbig
      refine hK.out _ _ (KEEP.out _ HB.out) (fun hHeld => ?_)
      clear hK K
      refine nr_ ?_
      refine two_ (i := 5) (j := 6) (Ni := some 23) (Nj := some 6) #[true, true, true, true, true, true, false, true, false, false] #[true, true, true, true, true, false, true, true, false, false] rfl rfl rfl rfl (by kernel_rfl) (by decide) (by decide) (fun K hK => ?_) (fun K hK => ?_)
      ·skip
       refine goes_ Tryd.func74 (by kernel_rfl) rfl #[.agg #[.pointer (some ⟨zb, 0, none⟩), .int .i64 a0_5], .agg #[.pointer (some ⟨zb, 0, none⟩), .int .i64 a0_5]] (by rfl) rfl rfl ma_ ?_
       with_reducible refine (times_calls zb zb _ _ a0_5 a0_5 _ (N5.out.big.below HB.out) (N5.out.big.below HB.out) HE.out.2 HE.out.2).mono ?_
       rintro x w1 ⟨b', rfl, hbig, -, hb⟩
       refine ⟨_, rfl, ?_⟩
       have BB := Aside0.mk (hbig)
       replace G5 := Aside0.mk (G5.out.below hb)
       replace BA := Aside0.mk (BA.out.below hb)
       replace HB := Aside0.mk (HB.out.trans (hb.mono HB.out.size))
       clear hb hbig
       refine hK.out _ _ (KEEP.out _ HB.out) (fun hHeld => ?_)
       clear hK K
       refine nr_ ?_
       refine one_ (i := 6) (N := some 6) #[true, true, true, true, true, true, true, true, false, false] rfl rfl (by kernel_rfl) (by decide) (fun K hK => ?_)
       refine box_step ?hg (N := 6) ?hd (cs := #[.pointer none, .int .i64 0]) (t := 90) ?hr ?_; (case hd => rfl); (case hg => rfl); (case hr => first | (go_simp; done) | (go_simp; rfl))
       intro g4 hg w1 hbox hb
       have G4 := Aside0.mk (show BX w1 g4 #[.pointer none, .int .i64 0] 90 from ⟨hbox⟩)
       have EG4 := Aside0.mk (show w2.heap.size ≤ g4 from by rw [hg]; exact HB.out.size)
       have NE := Aside0.mk (show g4 ≠ g5 from by rw [hg]; exact Nat.ne_of_gt (blk_lt G5.out.x))
       replace G5 := Aside0.mk (G5.out.below hb)
       replace BA := Aside0.mk (BA.out.below hb)
       replace BB := Aside0.mk (BB.out.below hb)
       replace HB := Aside0.mk (HB.out.trans (hb.mono HB.out.size))
       clear hb hg hbox
       refine hK.out _ _ (KEEP.out _ HB.out) (fun hHeld => ?_)
       clear hK K
       refine nr_ ?_
       exact norm_ (by first | (simp only [putAll, Act.put, List.setIfInBounds_toArray, List.set_cons_zero, List.set_cons_succ]; done) | (simp only [putAll, Act.put, List.setIfInBounds_toArray, List.set_cons_zero, List.set_cons_succ]; rfl)) (hJ (b, b', g4, g5) _ ⟨hHeld, G4.out, G5.out, NE.out, BA.out, BB.out, HB.out, EG4.out, EG5.out⟩)
      ·skip
       refine box_step ?hg (N := 6) ?hd (cs := #[.pointer none, .int .i64 0]) (t := 90) ?hr ?_; (case hd => rfl); (case hg => rfl); (case hr => first | (go_simp; done) | (go_simp; rfl))
       intro g4 hg w1 hbox hb
       have G4 := Aside0.mk (show BX w1 g4 #[.pointer none, .int .i64 0] 90 from ⟨hbox⟩)
       have EG4 := Aside0.mk (show w2.heap.size ≤ g4 from by rw [hg]; exact HB.out.size)
       have NE := Aside0.mk (show g4 ≠ g5 from by rw [hg]; exact Nat.ne_of_gt (blk_lt G5.out.x))
       replace G5 := Aside0.mk (G5.out.below hb)
       replace BA := Aside0.mk (BA.out.below hb)
       replace HB := Aside0.mk (HB.out.trans (hb.mono HB.out.size))
       clear hb hg hbox
       refine hK.out _ _ (KEEP.out _ HB.out) (fun hHeld => ?_)
       clear hK K
       refine nr_ ?_
       refine one_ (i := 5) (N := some 23) #[true, true, true, true, true, true, true, true, false, false] rfl rfl (by kernel_rfl) (by decide) (fun K hK => ?_)
       refine goes_ Tryd.func74 (by kernel_rfl) rfl #[.agg #[.pointer (some ⟨zb, 0, none⟩), .int .i64 a0_5], .agg #[.pointer (some ⟨zb, 0, none⟩), .int .i64 a0_5]] (by rfl) rfl rfl ma_ ?_
       with_reducible refine (times_calls zb zb _ _ a0_5 a0_5 _ (N5.out.big.below HB.out) (N5.out.big.below HB.out) HE.out.2 HE.out.2).mono ?_
       rintro x w1 ⟨b', rfl, hbig, -, hb⟩
       refine ⟨_, rfl, ?_⟩
       have BB := Aside0.mk (hbig)
       replace G5 := Aside0.mk (G5.out.below hb)
       replace BA := Aside0.mk (BA.out.below hb)
       replace G4 := Aside0.mk (G4.out.below hb)
       replace HB := Aside0.mk (HB.out.trans (hb.mono HB.out.size))
       clear hb hbig
       refine hK.out _ _ (KEEP.out _ HB.out) (fun hHeld => ?_)
       clear hK K
       refine nr_ ?_
       exact norm_ (by first | (simp only [putAll, Act.put, List.setIfInBounds_toArray, List.set_cons_zero, List.set_cons_succ]; done) | (simp only [putAll, Act.put, List.setIfInBounds_toArray, List.set_cons_zero, List.set_cons_succ]; rfl)) (hJ (b, b', g4, g5) _ ⟨hHeld, G4.out, G5.out, NE.out, BA.out, BB.out, HB.out, EG4.out, EG5.out⟩)
     ·skip
      refine box_step ?hg (N := 6) ?hd (cs := #[.pointer none, .int .i64 0]) (t := 90) ?hr ?_; (case hd => rfl); (case hg => rfl); (case hr => first | (go_simp; done) | (go_simp; rfl))
      intro g4 hg w1 hbox hb
      have G4 := Aside0.mk (show BX w1 g4 #[.pointer none, .int .i64 0] 90 from ⟨hbox⟩)
      have EG4 := Aside0.mk (show w2.heap.size ≤ g4 from by rw [hg]; exact HB.out.size)
      have NE := Aside0.mk (show g4 ≠ g5 from by rw [hg]; exact Nat.ne_of_gt (blk_lt G5.out.x))
      replace G5 := Aside0.mk (G5.out.below hb)
      replace HB := Aside0.mk (HB.out.trans (hb.mono HB.out.size))
      clear hb hg hbox
      refine hK.out _ _ (KEEP.out _ HB.out) (fun hHeld => ?_)
      clear hK K
      refine nr_ ?_
      refine one_ (i := 2) (N := some 20) #[true, true, true, true, true, false, true, true, false, false] rfl rfl (by kernel_rfl) (by decide) (fun K hK => ?_)
      refine goes_ Tryd.func74 (by kernel_rfl) rfl #[.agg #[.pointer (some ⟨za, 0, none⟩), .int .i64 a0_2], .agg #[.pointer (some ⟨za, 0, none⟩), .int .i64 a0_2]] (by rfl) rfl rfl ma_ ?_
      with_reducible refine (times_calls za za _ _ a0_2 a0_2 _ (N4.out.big.below HB.out) (N4.out.big.below HB.out) HE.out.1 HE.out.1).mono ?_
      rintro x w1 ⟨b, rfl, hbig, -, hb⟩
      refine ⟨_, rfl, ?_⟩
      have BA := Aside0.mk (hbig)
      replace G5 := Aside0.mk (G5.out.below hb)
      replace G4 := Aside0.mk (G4.out.below hb)
      replace HB := Aside0.mk (HB.out.trans (hb.mono HB.out.size))
      clear hb hbig
      refine hK.out _ _ (KEEP.out _ HB.out) (fun hHeld => ?_)
      clear hK K
      refine nr_ ?_
      refine one_ (i := 5) (N := some 23) #[true, true, true, true, true, true, true, true, false, false] rfl rfl (by kernel_rfl) (by decide) (fun K hK => ?_)
      refine goes_ Tryd.func74 (by kernel_rfl) rfl #[.agg #[.pointer (some ⟨zb, 0, none⟩), .int .i64 a0_5], .agg #[.pointer (some ⟨zb, 0, none⟩), .int .i64 a0_5]] (by rfl) rfl rfl ma_ ?_
      with_reducible refine (times_calls zb zb _ _ a0_5 a0_5 _ (N5.out.big.below HB.out) (N5.out.big.below HB.out) HE.out.2 HE.out.2).mono ?_
      rintro x w1 ⟨b', rfl, hbig, -, hb⟩
      refine ⟨_, rfl, ?_⟩
      have BB := Aside0.mk (hbig)
      replace G5 := Aside0.mk (G5.out.below hb)
      replace G4 := Aside0.mk (G4.out.below hb)
      replace BA := Aside0.mk (BA.out.below hb)
      replace HB := Aside0.mk (HB.out.trans (hb.mono HB.out.size))
      clear hb hbig
      refine hK.out _ _ (KEEP.out _ HB.out) (fun hHeld => ?_)
      clear hK K
      refine nr_ ?_
      exact norm_ (by first | (simp only [putAll, Act.put, List.setIfInBounds_toArray, List.set_cons_zero, List.set_cons_succ]; done) | (simp only [putAll, Act.put, List.setIfInBounds_toArray, List.set_cons_zero, List.set_cons_succ]; rfl)) (hJ (b, b', g4, g5) _ ⟨hHeld, G4.out, G5.out, NE.out, BA.out, BB.out, HB.out, EG4.out, EG5.out⟩)
   case rest =>
    obtain ⟨gc, gd, zc, zd, rfl, rfl, ⟨hN6, hN7, hlo⟩⟩ := hcut
    have N6 := Aside0.mk hN6; have N7 := Aside0.mk hN7; have R4 := Aside0.mk (R3.out.below hlo)
    obtain ⟨p0, p1⟩ := N6.out.cells
    obtain ⟨p2, p3⟩ := N7.out.cells
    clear hN6 hN7 hlo HB
    go_wp2_with fail
    have N0 := Aside0.mk (below_alloc (Below.refl wc.heap.size wc) (.cells #[.pointer (some ⟨zc, 0, none⟩), .int .i64 (a0_2 + a0_2), .pointer (some ⟨zd, 0, none⟩), .int .i64 (a0_5 + a0_5)] 90))
    have NR := Aside0.mk (heap_alloc_new wc (.cells #[.pointer (some ⟨zc, 0, none⟩), .int .i64 (a0_2 + a0_2), .pointer (some ⟨zd, 0, none⟩), .int .i64 (a0_5 + a0_5)] 90))
    have R5 := Aside0.mk (R4.out.below N0.out)
    have N6 := Aside0.mk (N6.out.below N0.out)
    have N7 := Aside0.mk (N7.out.below N0.out)
    have AF := Aside0.mk (all_two (wv a0_0 l0_1 * wv a0_0 l0_1) (a0_2 + a0_2) (wv a0_3 l0_4 * wv a0_3 l0_4) (a0_5 + a0_5))
    have NM := Aside0.mk (num_two NR.out N6.out.big N7.out.big (by have := HE.out; omega) (by have := HE.out; omega))
    clear p0 p1 p2 p3 NR
    refine (areSmall_calls wc.heap.size 2 2 _ _ _ _ (by omega) NM.out (HT.out.below R5.out.lo)).mono ?_
    rintro e w6 ⟨rfl, hb⟩
    rw [AF.out]
    have R6 := Aside0.mk (R5.out.below hb)
    have N6 := Aside0.mk (N6.out.below hb)
    have N7 := Aside0.mk (N7.out.below hb)
    clear hb
    cases hf : fits (wv a0_0 l0_1 * wv a0_0 l0_1) (a0_2 + a0_2) && fits (wv a0_3 l0_4 * wv a0_3 l0_4) (a0_5 + a0_5)
    ·have h := HH.out
     rw [hf] at h
     simp only [Bool.false_eq_true, if_false, Prod.mk.injEq] at h
     obtain ⟨rfl, rfl, rfl, rfl⟩ := h
     obtain ⟨q0, q1, q2, q3, q4, q5⟩ := R6.out.cells
     clear hf
     go_wp2_with fail
     refine bodyPost_ret (results_ct rfl _ _ (w.heap.size + 1) 45 #[.int .i64 0, .slice none 0 0, .int .i64 0] (0, 0) _ rfl (R6.out.put _ _ _) Tryd.underlying45 rfl (by kernel_rfl)) rfl ?_
     exact ⟨_, rfl, R6.out.row (own_zero w6 (w.heap.size + 3)) (by omega) _ _ _, R6.out.low _ _ _⟩
    ·have h := HH.out
     rw [hf] at h
     simp only [if_true] at h
     have HF := Aside0.mk h
     obtain ⟨p0, p1⟩ := N6.out.cells
     obtain ⟨p2, p3⟩ := N7.out.cells
     clear hf h
     go_wp2_with fail
     refine (plus_calls zc zd _ _ (a0_2 + a0_2) (a0_5 + a0_5) _ N6.out.big N7.out.big (by have := HE.out; omega) (by have := HE.out; omega) (HT.out.below R6.out.lo)).mono ?_
     rintro e w7 ⟨z, rfl, hbig, hp, hb⟩
     have R7 := Aside0.mk (R6.out.below hb)
     have BZ := Aside0.mk hbig
     have HP := Aside0.mk hp
     clear hbig hp hb p0 p1 p2 p3
     go_wp2_with fail
     refine (dyadic_calls z _ _ 5000 _ BZ.out (by omega) (by have := HP.out; omega) (by have := HP.out; omega) (HT.out.below R7.out.lo) r1 r2 r3 r4 HF.out).mono ?_
     rintro e w8 ⟨v, rfl, hr, hb⟩
     obtain ⟨A1, c1, rfl⟩ := own_slice hr
     have R8 := Aside0.mk (R7.out.below hb)
     have HRW := Aside0.mk hr
     obtain ⟨q0, q1, q2, q3, q4, q5⟩ := R8.out.cells
     clear hr hb
     go_wp2_with fail
     refine bodyPost_ret (results_ct rfl _ _ (w.heap.size + 1) 45 #[.int .i64 r1, .slice A1 r2.length c1, .int .i64 r3] (0, 0) _ rfl (R8.out.put _ _ _) Tryd.underlying45 rfl (by kernel_rfl)) rfl ?_
     exact ⟨_, rfl, R8.out.row HRW.out R7.out.lo.size _ _ _, R8.out.low _ _ _⟩
end Go.Proofs.YtghhphndbbefjaaDoor
