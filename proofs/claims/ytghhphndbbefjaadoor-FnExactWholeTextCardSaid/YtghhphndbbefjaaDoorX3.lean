/- Functions of the program as plain Lean functions, each with a proof that its call does what that function says. Printed by a program over the kit's print; conditions stand in each contract. -/
import Derived.Test.YtghhphndbbefjaaDoorSq
import Derived.Test.YtghhphndbbefjaaDoorBnd12
import Derived.Test.YtghhphndbbefjaaDoorX0
import Derived.Test.YtghhphndbbefjaaDoorX1
import Derived.Test.YtghhphndbbefjaaDoorX2
namespace Go.Proofs.YtghhphndbbefjaaDoor.X
open Go.RowKit Go.Proofs.YtghhphndbbefjaaDoorW.PrintWords Go.Proofs.YtghhphndbbefjaaDoorW.PrintLast Go.Proofs.YtghhphndbbefjaaDoorW.PrintMore Go.Proofs.YtghhphndbbefjaaDoor.Sq
attribute [local go_sem] max2_int min2_int max_two min_two max_three min_three max_four min_four   -- for this text's walks alone
set_option linter.unusedVariables false
set_option linter.unusedSimpArgs false

/-! ### laws_FnExactWholeText: function 4 -/
def laws_FnExactWholeText.j0 : Nat → Bool → Int → List Int → Int → List Int → Option (Bool)
  | 0, _, _, _, _, _ => none
  | k + 1, x34, x151000, x151001, x163000, x163001 => if x34 = true then (some false) else ((laws_toWhole.f k x151000 x151001).bind fun bt165 => ((laws_eqWhole.f k x163000 x163001 bt165.1 bt165.2).bind fun t169 => (if t169 = true then (some true) else (some false))))
def laws_FnExactWholeText.f (k : Nat) (a0_0 : Int) (l0_1 : List Int) : Option (Bool) := (laws_szWhole.f a0_0 l0_1 1048576).bind fun t151 => (if t151 < 0 then (some true) else ((laws_toWhole.f k a0_0 l0_1).bind fun bt152 => ((spec_WholeText.f k bt152.1 bt152.2).bind fun bt156 => ((laws_toWhole.f k a0_0 l0_1).bind fun bt158 => ((impl_WholeText.f bt158.1 bt158.2).bind fun bt163 => (if bt163.1.toList = bt156.1.toList then (laws_FnExactWholeText.j0 k (bt163.2 != bt156.2) a0_0 l0_1 bt158.1 bt158.2) else (laws_FnExactWholeText.j0 k true a0_0 l0_1 bt158.1 bt158.2)))))))
theorem laws_FnExactWholeText.mono_l : ∀ k, (∀ y0 y1 y2 y3 y4, LeO (laws_FnExactWholeText.j0 k y0 y1 y2 y3 y4) (laws_FnExactWholeText.j0 (k + 1) y0 y1 y2 y3 y4))
  | 0 => fun _ _ _ _ _ r h => by simp [laws_FnExactWholeText.j0] at h
  | k + 1 => by
    have ih0 := laws_FnExactWholeText.mono_l k
    · intro y0 y1 y2 y3 y4
      unfold laws_FnExactWholeText.j0
      repeat' first
      | (with_reducible exact ih0 _ _ _ _ _)
      | (with_reducible exact laws_eqWhole.mono _ _ _ _ _)
      | (with_reducible exact laws_toWhole.mono _ _ _)
      | (with_reducible exact spec_WholeText.mono _ _ _)
      | (with_reducible exact LeO.refl _)
      | (with_reducible exact LeO.none _)
      | (with_reducible refine LeO.ite ?_ ?_)
      | (with_reducible refine LeO.bind ?_ (fun _ => ?_))
      | exact ih0 _ _ _ _ _
      | exact laws_eqWhole.mono _ _ _ _ _
      | exact laws_toWhole.mono _ _ _
      | exact spec_WholeText.mono _ _ _
      | exact LeO.none _
      | refine LeO.ite ?_ ?_
      | refine LeO.bind ?_ (fun _ => ?_)
theorem laws_FnExactWholeText.mono : ∀ a0 a1 k, LeO (laws_FnExactWholeText.f k a0 a1) (laws_FnExactWholeText.f (k + 1) a0 a1) := by
  intro a0 a1 k
  have ih0 := laws_FnExactWholeText.mono_l k
  unfold laws_FnExactWholeText.f
  repeat' first
      | (with_reducible exact ih0 _ _ _ _ _)
      | (with_reducible exact laws_eqWhole.mono _ _ _ _ _)
      | (with_reducible exact laws_toWhole.mono _ _ _)
      | (with_reducible exact spec_WholeText.mono _ _ _)
      | (with_reducible exact LeO.refl _)
      | (with_reducible exact LeO.none _)
      | (with_reducible refine LeO.ite ?_ ?_)
      | (with_reducible refine LeO.bind ?_ (fun _ => ?_))
      | exact ih0 _ _ _ _ _
      | exact laws_eqWhole.mono _ _ _ _ _
      | exact laws_toWhole.mono _ _ _
      | exact spec_WholeText.mono _ _ _
      | exact LeO.none _
      | refine LeO.ite ?_ ?_
      | refine LeO.bind ?_ (fun _ => ?_)
set_option maxHeartbeats 8000000 in
set_option maxRecDepth 100000 in
theorem laws_FnExactWholeText.calls (k : Nat) (a0_0 : Int) (A0_1 : Option Addr) (c0_1 : Nat) (l0_1 : List Int) (r : Bool) (w : World) (hr0_1 : Kd.C (Kd.int .i64) w A0_1 l0_1.length l0_1) (hc0_1 : l0_1.length ≤ c0_1) (h : laws_FnExactWholeText.f k a0_0 l0_1 = some r) :
  Calls Tryd.prog 4 #[.agg #[.int .i64 a0_0, .slice A0_1 l0_1.length c0_1]] w fun e w' => e = .returned (.bool r) ∧ Below w.heap.size w w' := by
 have hu24 := Tryd.underlying24; have hu26 := Tryd.underlying26; have HR0_1 := Aside0.mk hr0_1; have HC0_1 := Aside0.mk hc0_1; clear hr0_1 hc0_1; have HB := am_ (Below.refl w.heap.size w)
 have H : ((laws_szWhole.f a0_0 l0_1 1048576).bind fun t151 => (if t151 < 0 then (some true) else ((laws_toWhole.f k a0_0 l0_1).bind fun bt152 => ((spec_WholeText.f k bt152.1 bt152.2).bind fun bt156 => ((laws_toWhole.f k a0_0 l0_1).bind fun bt158 => ((impl_WholeText.f bt158.1 bt158.2).bind fun bt163 => (if bt163.1.toList = bt156.1.toList then (laws_FnExactWholeText.j0 k (bt163.2 != bt156.2) a0_0 l0_1 bt158.1 bt158.2) else (laws_FnExactWholeText.j0 k true a0_0 l0_1 bt158.1 bt158.2)))))))) = some r := h
 clear h
 replace H := Option.bind_eq_some_iff.mp H
 obtain ⟨t151, A20, H⟩ := H
 replace H : (if t151 < 0 then (some true) else ((laws_toWhole.f k a0_0 l0_1).bind fun bt152 => ((spec_WholeText.f k bt152.1 bt152.2).bind fun bt156 => ((laws_toWhole.f k a0_0 l0_1).bind fun bt158 => ((impl_WholeText.f bt158.1 bt158.2).bind fun bt163 => (if bt163.1.toList = bt156.1.toList then (laws_FnExactWholeText.j0 k (bt163.2 != bt156.2) a0_0 l0_1 bt158.1 bt158.2) else (laws_FnExactWholeText.j0 k true a0_0 l0_1 bt158.1 bt158.2))))))) = some r := H
 have A2 := Aside0.mk A20; clear A20
 by_cases c3 : t151 < 0
 ·rw [if_pos c3] at H
  have c3b0 : decide (t151 < 0) = true := decide_eq_true c3
  clear c3; obtain rfl := Option.some.inj H
  go_enter Tryd.func4, Tryd.ntmps4
  go_wp2_with (first | ((with_reducible refine gate_dst (N := 1) rfl ?_); refine box_event ?hg (N := 1) ?hd (cs := #[.int .i64 a0_0, .slice A0_1 l0_1.length c0_1]) (t := 24) ?hr ?_; (case hd => rfl); (case hg => rfl); (case hr => first | (go_simp; done) | (go_simp; rfl)); intro gb150 hg w4 hbox hb; have BK150 := am_ (hbox); have GW150 := am_ (gs_ hg HB); have GE150 := am_ (gs_ hg HB); replace HB := am_ (below_step (bl_ HB) hb); clear hb hbox hg; have hcz5_0 : w4.cell? ⟨gb150, 0, none⟩ = some (.int .i64 a0_0) := bc_ BK150 0; have hcz5_1 : w4.cell? ⟨gb150, 1, none⟩ = some (.slice A0_1 l0_1.length c0_1) := bc_ BK150 1; have hfz5_0 := blk_frozen BK150.out 0; have hfz5_1 := blk_frozen BK150.out 1) | ((with_reducible refine gate_callee (f := 11) rfl ?_); refine goesL_ (some 11) rfl rfl Tryd.func11 (by kernel_rfl) rfl #[.agg #[.int .i64 a0_0, .slice A0_1 l0_1.length c0_1], .int .i64 1048576] rfl ma_ ?_; (with_reducible refine (laws_szWhole.calls a0_0 _ _ l0_1 1048576 t151 _ ?side1 ?side2 A2.out).mono ?_); (case side1 => exact cb_ HR0_1 HB); (case side2 => exact HC0_1.out); rintro e w6 ⟨rfl, hb⟩; refine ⟨_, rfl, ?_⟩; replace BK150 := am_ (blk_below (bk_ BK150) hb); replace HB := am_ (below_step (bl_ HB) hb); (try clear hb); (try clear hb2); (try clear hk); (try clear hi)))
  go_ret
  exact ⟨by first | rfl | (simp [errW_none, errW_some] <;> rfl) | (simp [*, errW_none, errW_some] <;> rfl), bl_ HB⟩
 ·rw [if_neg c3] at H
  have c3b0 : decide (t151 < 0) = false := decide_eq_false c3
  clear c3
  replace H := Option.bind_eq_some_iff.mp H
  obtain ⟨⟨t152, t153⟩, A70, H⟩ := H
  replace H : ((spec_WholeText.f k t152 t153).bind fun bt156 => ((laws_toWhole.f k a0_0 l0_1).bind fun bt158 => ((impl_WholeText.f bt158.1 bt158.2).bind fun bt163 => (if bt163.1.toList = bt156.1.toList then (laws_FnExactWholeText.j0 k (bt163.2 != bt156.2) a0_0 l0_1 bt158.1 bt158.2) else (laws_FnExactWholeText.j0 k true a0_0 l0_1 bt158.1 bt158.2))))) = some r := H
  have A7 := Aside0.mk A70; clear A70
  replace H := Option.bind_eq_some_iff.mp H
  obtain ⟨⟨t156, t157⟩, A80, H⟩ := H
  replace H : ((laws_toWhole.f k a0_0 l0_1).bind fun bt158 => ((impl_WholeText.f bt158.1 bt158.2).bind fun bt163 => (if bt163.1.toList = t156.toList then (laws_FnExactWholeText.j0 k (bt163.2 != t157) a0_0 l0_1 bt158.1 bt158.2) else (laws_FnExactWholeText.j0 k true a0_0 l0_1 bt158.1 bt158.2)))) = some r := H
  have A8 := Aside0.mk A80; clear A80
  replace H := Option.bind_eq_some_iff.mp H
  obtain ⟨⟨t158, t159⟩, A90, H⟩ := H
  replace H : ((impl_WholeText.f t158 t159).bind fun bt163 => (if bt163.1.toList = t156.toList then (laws_FnExactWholeText.j0 k (bt163.2 != t157) a0_0 l0_1 t158 t159) else (laws_FnExactWholeText.j0 k true a0_0 l0_1 t158 t159))) = some r := H
  have A9 := Aside0.mk A90; clear A90
  replace H := Option.bind_eq_some_iff.mp H
  obtain ⟨⟨t163, t164⟩, A100, H⟩ := H
  replace H : (if t163.toList = t156.toList then (laws_FnExactWholeText.j0 k (t164 != t157) a0_0 l0_1 t158 t159) else (laws_FnExactWholeText.j0 k true a0_0 l0_1 t158 t159)) = some r := H
  have A10 := Aside0.mk A100; clear A100; have HC11 := Aside0.mk H; clear H
  go_enter Tryd.func4, Tryd.ntmps4
  go_upto_region 8 with (first | ((with_reducible refine gate_dst (N := 1) rfl ?_); refine box_event ?hg (N := 1) ?hd (cs := #[.int .i64 a0_0, .slice A0_1 l0_1.length c0_1]) (t := 24) ?hr ?_; (case hd => rfl); (case hg => rfl); (case hr => first | (go_simp; done) | (go_simp; rfl)); intro gb150 hg w12 hbox hb; have BK150 := am_ (hbox); have GW150 := am_ (gs_ hg HB); have GE150 := am_ (gs_ hg HB); replace HB := am_ (below_step (bl_ HB) hb); clear hb hbox hg; have hcz13_0 : w12.cell? ⟨gb150, 0, none⟩ = some (.int .i64 a0_0) := bc_ BK150 0; have hcz13_1 : w12.cell? ⟨gb150, 1, none⟩ = some (.slice A0_1 l0_1.length c0_1) := bc_ BK150 1; have hfz13_0 := blk_frozen BK150.out 0; have hfz13_1 := blk_frozen BK150.out 1) | ((with_reducible refine gate_callee (f := 11) rfl ?_); refine goesL_ (some 11) rfl rfl Tryd.func11 (by kernel_rfl) rfl #[.agg #[.int .i64 a0_0, .slice A0_1 l0_1.length c0_1], .int .i64 1048576] rfl ma_ ?_; (with_reducible refine (laws_szWhole.calls a0_0 _ _ l0_1 1048576 t151 _ ?side1 ?side2 A2.out).mono ?_); (case side1 => exact cb_ HR0_1 HB); (case side2 => exact HC0_1.out); rintro e w14 ⟨rfl, hb⟩; refine ⟨_, rfl, ?_⟩; replace BK150 := am_ (blk_below (bk_ BK150) hb); replace HB := am_ (below_step (bl_ HB) hb); (try clear hb); (try clear hb2); (try clear hk); (try clear hi); have hcz15_0 : w14.cell? ⟨gb150, 0, none⟩ = some (.int .i64 a0_0) := bc_ BK150 0; have hcz15_1 : w14.cell? ⟨gb150, 1, none⟩ = some (.slice A0_1 l0_1.length c0_1) := bc_ BK150 1; have hfz15_0 := blk_frozen BK150.out 0; have hfz15_1 := blk_frozen BK150.out 1) | ((with_reducible refine gate_callee (f := 13) rfl ?_); refine goesL_ (some 16) rfl rfl Tryd.func13 (by kernel_rfl) rfl #[.agg #[.int .i64 a0_0, .slice A0_1 l0_1.length c0_1]] rfl ma_ ?_; (with_reducible refine (laws_toWhole.calls k a0_0 _ _ l0_1 t152 t153 _ ?side1 ?side2 A7.out).mono ?_); (case side1 => exact cb_ HR0_1 HB); (case side2 => exact HC0_1.out); rintro e w16 ⟨v154, rfl, ho0, hb⟩; refine ⟨_, rfl, ?_⟩; have HO155 := am_ (Kd.R_lower ho0 (below_size (bl_ HB))); replace BK150 := am_ (blk_below (bk_ BK150) hb); replace HB := am_ (below_step (bl_ HB) hb); (try clear hb); (try clear hb2); (try clear hk); (try clear hi); (try clear ho0); obtain ⟨Ao17, co17, eo17⟩ := Kd.R_slice HO155.out; subst eo17) | ((with_reducible refine gate_callee (f := 18) rfl ?_); refine goesL_ (some 17) rfl rfl Tryd.func18 (by kernel_rfl) rfl #[.agg #[.int .i64 t152, .slice Ao17 t153.length co17]] rfl ma_ ?_; (with_reducible refine (spec_WholeText.calls k t152 _ _ t153 t156 t157 _ ?side1 ?side2 A8.out).mono ?_); (case side1 => exact cr_ HO155); (case side2 => exact (Kd.R_reads' HO155.out).2.1); rintro e w18 ⟨rfl, hb⟩; refine ⟨_, rfl, ?_⟩; replace HO155 := am_ (Kd.R_below (kr_ HO155) hb); replace BK150 := am_ (blk_below (bk_ BK150) hb); replace HB := am_ (below_step (bl_ HB) hb); (try clear hb); (try clear hb2); (try clear hk); (try clear hi); have hcz19_0 : w18.cell? ⟨gb150, 0, none⟩ = some (.int .i64 a0_0) := bc_ BK150 0; have hcz19_1 : w18.cell? ⟨gb150, 1, none⟩ = some (.slice A0_1 l0_1.length c0_1) := bc_ BK150 1; have hfz19_0 := blk_frozen BK150.out 0; have hfz19_1 := blk_frozen BK150.out 1) | ((with_reducible refine gate_callee (f := 13) rfl ?_); refine goesL_ (some 21) rfl rfl Tryd.func13 (by kernel_rfl) rfl #[.agg #[.int .i64 a0_0, .slice A0_1 l0_1.length c0_1]] rfl ma_ ?_; (with_reducible refine (laws_toWhole.calls k a0_0 _ _ l0_1 t158 t159 _ ?side1 ?side2 A9.out).mono ?_); (case side1 => exact cb_ HR0_1 HB); (case side2 => exact HC0_1.out); rintro e w20 ⟨v160, rfl, ho0, hb⟩; refine ⟨_, rfl, ?_⟩; have HO161 := am_ (Kd.R_lower (Kd.R_new' ho0 (Kd.R_lt (kr_ HO155))) (below_size (bl_ HB))); replace HO155 := am_ (Kd.R_elder' (kr_ HO155) (Kd.R_base ho0) hb); replace BK150 := am_ (blk_below (bk_ BK150) hb); replace HB := am_ (below_step (bl_ HB) hb); (try clear hb); (try clear hb2); (try clear hk); (try clear hi); (try clear ho0)) | ((with_reducible refine gate_dst (N := 6) rfl ?_); refine box_event ?hg (N := 6) ?hd (cs := #[.int .i64 0, .slice none 0 0]) (t := 26) ?hr ?_; (case hd => rfl); (case hg => rfl); (case hr => first | (go_simp; done) | (go_simp; rfl)); intro gb162 hg w21 hbox hb; have BK162 := am_ (hbox); have GW162 := am_ (gs_ hg HB); have GE162 := am_ (gs_ hg HB); have NB150_162 := am_ (nl_ hg BK150); have NB162_150 := am_ (ng_ hg BK150); replace HO155 := am_ (Kd.R_below (kr_ HO155) hb); replace HO161 := am_ (Kd.R_below (kr_ HO161) hb); replace BK150 := am_ (blk_below (bk_ BK150) hb); replace HB := am_ (below_step (bl_ HB) hb); clear hb hbox hg; have hnb22 := NB162_150.out; have hnc22 := NB150_162.out; have hcz23_0 : w21.cell? ⟨gb162, 0, none⟩ = some (.int .i64 0) := bc_ BK162 0; have hcz23_1 : w21.cell? ⟨gb162, 1, none⟩ = some (.slice none 0 0) := bc_ BK162 1; have hfz23_0 := blk_frozen BK162.out 0; have hfz23_1 := blk_frozen BK162.out 1; obtain ⟨Ao24, co24, eo24⟩ := Kd.R_slice HO161.out; subst eo24) | ((with_reducible refine gate_callee (f := 19) rfl ?_); refine goesL_ (some 24) rfl rfl Tryd.func19 (by kernel_rfl) rfl #[.agg #[.int .i64 t158, .slice Ao24 t159.length co24]] rfl ma_ ?_; (with_reducible refine (impl_WholeText.calls t158 _ _ t159 t163 t164 _ ?side1 ?side2 A10.out).mono ?_); (case side1 => refine (Kd.R_reads' (e := 2) (base := w.heap.size) (ok := fun k_ => (True ∧ some k_ ≠ (.slice Ao17 t153.length co17 : Value).ownBlock)) (n := t159.length) (c := co24) ?_).2.2; exact (rg_ HO161 BK162)); (case side2 => exact (Kd.R_reads' HO161.out).2.1); rintro e w25 ⟨rfl, hb⟩; refine ⟨_, rfl, ?_⟩; replace HO155 := am_ (Kd.R_below (rg_ HO155 BK162) hb); replace HO161 := am_ (Kd.R_below (rg_ HO161 BK162) hb); replace BK150 := am_ (blk_below (bk_ BK150) hb); replace BK162 := am_ (blk_below (bp2_ BK162) hb); replace HB := am_ (below_step (bl_ HB) hb); (try clear hb); (try clear hb2); (try clear hk); (try clear hi)))
  (try simp only [Act.put, List.setIfInBounds_toArray, List.set_cons_zero, List.set_cons_succ])
  go_cut [34] (fun v34 wc => ∃ (kq : Nat) (x34_10 : Bool), v34 = .bool x34_10 ∧ Aside0 (laws_FnExactWholeText.j0 kq x34_10 a0_0 l0_1 t158 t159 = some r) ∧ Aside0 (kq ≤ k) ∧ Aside0 (Kd.R (Kd.int .i64) 2 wc w.heap.size (fun _ => True) (.slice Ao24 t159.length co24) t159) ∧ Aside0 (wc.heap[gb150]? = some (.cells #[.int .i64 a0_0, (.slice A0_1 l0_1.length c0_1)] 24 (0, 0))) ∧ Aside0 (wc.heap[gb162]? = some (.cells #[.int .i64 t158, (.slice Ao24 t159.length co24)] 26 (0, 0))) ∧ Aside0 (Below w.heap.size w wc))
  case first =>
   have H := HC11.out; clear HC11
   by_cases c26 : t163.toList = t156.toList
   ·rw [if_pos c26] at H
    have c26b0 : (t163.toList == t156.toList) = true := beq_iff_eq.mpr c26
    have c26b1 : (t163.toList != t156.toList) = false := bne_eq_false_iff_eq.mpr c26
    clear c26
    (first | rw [c26b0] | (simp only [i64_w, i32_w]; rw [c26b0]) | skip)
    have H' := Aside0.mk H
    clear H
    go_wp2
    go_meet
    case rel => exact ⟨_, ((t164 != t157)), (by first | rfl | (simp; done) | (simp [*]; done)), H', ⟨by first | omega | exact Nat.le_refl _⟩, ⟨by (with_reducible repeat (first | apply Kd.R_alloc | apply Kd.R_drewN | apply Kd.R_drew)); exact Kd.R_mono HO161.out (fun _ hk => trivial)⟩, ⟨bk_ BK150⟩, ⟨bk_ BK162⟩, ⟨bl_ HB⟩⟩
   ·rw [if_neg c26] at H
    have c26b0 : (t163.toList == t156.toList) = false := beq_eq_false_iff_ne.mpr c26
    have c26b1 : (t163.toList != t156.toList) = true := bne_iff_ne.mpr c26
    (first | rw [c26b0] | (simp only [i64_w, i32_w]; rw [c26b0]) | skip)
    have H' := Aside0.mk H
    clear H
    go_wp2
    go_meet
    case rel => exact ⟨_, (true), (by first | rfl | (simp; done) | (simp [*]; done)), H', ⟨by first | omega | exact Nat.le_refl _⟩, ⟨by (with_reducible repeat (first | apply Kd.R_alloc | apply Kd.R_drewN | apply Kd.R_drew)); exact Kd.R_mono HO161.out (fun _ hk => trivial)⟩, ⟨bk_ BK150⟩, ⟨bk_ BK162⟩, ⟨bl_ HB⟩⟩
  case rest =>
   clear HC11; try clear c1; try clear c2; try clear p2; try clear c3; try clear c3b0; try clear c4; try clear c11; try clear c13; try clear c18; try clear c19; try clear c22; try clear c26; try clear c26b0; try clear c26b1; try clear hcz13_0; try clear hcz13_1; try clear hcz15_0; try clear hcz15_1; try clear hcz19_0; try clear hcz19_1; try clear hcz23_0; try clear hcz23_1; try clear hcz5_0; try clear hcz5_1; try clear hfz13_0; try clear hfz13_1; try clear hfz15_0; try clear hfz15_1; try clear hfz19_0; try clear hfz19_1; try clear hfz23_0; try clear hfz23_1; try clear hfz5_0; try clear hfz5_1
   obtain ⟨kq, x34_10, rfl, HA, HJ10, HO_163001, BK150, BK162, HB⟩ := hcut
   cases kq with
   | zero => exact absurd HA.out (by simp [laws_FnExactWholeText.j0])
   | succ kj10 =>
    have H := HA.out; clear HA
    simp only [laws_FnExactWholeText.j0] at H
    by_cases c27 : x34_10 = true
    ·subst c27
     have H1 : (some false) = some r := by rw [if_pos rfl] at H; exact H
     clear H; have H := H1; clear H1; obtain rfl := Option.some.inj H
     go_wp2
     go_ret
     exact ⟨by first | rfl | (simp [errW_none, errW_some] <;> rfl) | (simp [*, errW_none, errW_some] <;> rfl), bl_ HB⟩
    ·replace c27 := Bool.eq_false_iff.mpr c27
     subst c27
     have H1 : ((laws_toWhole.f kj10 a0_0 l0_1).bind fun bt165 => ((laws_eqWhole.f kj10 t158 t159 bt165.1 bt165.2).bind fun t169 => (if t169 = true then (some true) else (some false)))) = some r := by rw [if_neg (show ¬ (false = true) by decide)] at H; exact H
     clear H; have H := H1; clear H1
     replace H := Option.bind_eq_some_iff.mp H
     obtain ⟨⟨t165, t166⟩, A280, H⟩ := H
     replace H : ((laws_eqWhole.f kj10 t158 t159 t165 t166).bind fun t169 => (if t169 = true then (some true) else (some false))) = some r := H
     have A28 := Aside0.mk A280; clear A280
     replace H := Option.bind_eq_some_iff.mp H
     obtain ⟨t169, A290, H⟩ := H
     replace H : (if t169 = true then (some true) else (some false)) = some r := H
     have A29 := Aside0.mk A290; clear A290
     by_cases c30 : t169 = true
     ·subst c30
      have H1 : (some true) = some r := by rw [if_pos rfl] at H; exact H
      clear H; have H := H1; clear H1; obtain rfl := Option.some.inj H
      try go_wp2
      have n0_ := am_ (Kd.R_drew HO_163001.out); have n1_ := am_ (blk_drew BK150.out); have n2_ := am_ (blk_drew BK162.out); have n3_ := am_ (below_drew1 HB.out); clear HO_163001 BK150 BK162 HB; have HO_163001 := n0_; have BK150 := n1_; have BK162 := n2_; have HB := n3_; clear n0_ n1_ n2_ n3_
      refine start_ (n := 5) (S := fun w' => w'.cell? ⟨gb162, 0, none⟩ = some (.int .i64 t158) ∧ w'.cell? ⟨gb162, 1, none⟩ = some (.slice Ao24 t159.length co24) ∧ w'.cell? ⟨gb150, 0, none⟩ = some (.int .i64 a0_0) ∧ w'.cell? ⟨gb150, 1, none⟩ = some (.slice A0_1 l0_1.length c0_1)) (ds := []) #[false, false, false, false, false] (by kernel_rfl) rfl rfl ⟨bc_ BK162 0, bc_ BK162 1, bc_ BK150 0, bc_ BK150 1⟩ (fun hHeld => ?_)
      generalize wc.drew = w31 at HO_163001 BK150 BK162 HB hHeld ⊢
      refine take_ (i := 0) (N := some 35) (v := ?_) (a' := ?_) #[true, false, false, false, false] rfl rfl (by kernel_rfl) (fun _ _ _ h => h) (Or.inl ⟨by rfl, ?_⟩) hHeld ?_ ?_
      rotate_left
      ·rintro w' ⟨s0, s1, s2, s3⟩
       go_simp
       with_reducible rfl
      rotate_left
      ·exact nm_
      refine take_ (i := 1) (N := some 36) (v := ?_) (a' := ?_) #[true, true, false, false, false] rfl rfl (by kernel_rfl) (fun _ _ _ h => h) (Or.inl ⟨by rfl, ?_⟩) hHeld ?_ ?_
      rotate_left
      ·rintro w' ⟨s0, s1, s2, s3⟩
       go_simp
       with_reducible rfl
      rotate_left
      ·exact nm_
      refine one_ (i := 2) (N := some 37) #[true, true, true, false, false] rfl rfl (by kernel_rfl) (by decide) (fun K hK => ?_)
      refine goes_ Tryd.func13 (by kernel_rfl) rfl #[.agg #[.int .i64 a0_0, .slice A0_1 l0_1.length c0_1]] (by rfl) rfl rfl ma_ ?_
      with_reducible refine (laws_toWhole.calls kj10 a0_0 _ _ l0_1 t165 t166 _ ?side1 ?side2 A28.out).mono ?_
      (case side1 => exact cb_ HR0_1 HB)
      (case side2 => exact HC0_1.out)
      rintro e w32 ⟨v167, rfl, ho0, hb⟩
      refine ⟨_, rfl, ?_⟩
      have n0_ := am_ (Kd.R_elder' (kr_ HO_163001) (Kd.R_base ho0) hb); have n1_ := am_ (Kd.R_lower (Kd.R_new' ho0 (Kd.R_lt (kr_ HO_163001))) (below_size (bl_ HB))); have n2_ := am_ (blk_below (bk_ BK150) hb); have n3_ := am_ (blk_below (bk_ BK162) hb); have n4_ := am_ (below_step (bl_ HB) hb); clear HO_163001 BK150 BK162 HB; have HO_163001 := n0_; have HO168 := n1_; have BK150 := n2_; have BK162 := n3_; have HB := n4_; clear n0_ n1_ n2_ n3_ n4_; (try clear hb); (try clear hb2); (try clear hk); (try clear hi); (try clear ho0)
      obtain ⟨Ao33, co33, eo33⟩ := Kd.R_slice HO168.out
      (first | subst eo33 | (injection eo33 with f1_ f2_ f3_; have f4_ := f1_.symm; have f5_ := f3_.symm; clear f1_ f2_ f3_; subst f4_; subst f5_))
      refine hK.out _ _ ⟨bc_ BK162 0, bc_ BK162 1, bc_ BK150 0, bc_ BK150 1⟩ (fun hHeld => ?_)
      clear hK K
      refine norm_ (a' := ?_) ?_ ?_
      rotate_left
      ·show Act.put _ (some 37) _ = _
       exact nm_
      refine one_ (i := 3) (N := some 38) #[true, true, true, true, false] rfl rfl (by kernel_rfl) (by decide) (fun K hK => ?_)
      refine goes_ Tryd.func15 (by kernel_rfl) rfl #[.agg #[.int .i64 t158, .slice Ao24 t159.length co24], .agg #[.int .i64 t165, .slice Ao33 t166.length co33]] (by rfl) rfl rfl ma_ ?_
      with_reducible refine (laws_eqWhole.calls kj10 t158 _ _ t159 t165 _ _ t166 true _ ?side1 ?side2 ?side3 ?side4 A29.out).mono ?_
      (case side1 => exact cr_ HO_163001)
      (case side2 => exact (Kd.R_reads' HO_163001.out).2.1)
      (case side3 => exact cr_ HO168)
      (case side4 => exact (Kd.R_reads' HO168.out).2.1)
      rintro e w34 ⟨rfl, hb⟩
      refine ⟨_, rfl, ?_⟩
      have n0_ := am_ (Kd.R_below (kr_ HO_163001) hb); have n1_ := am_ (Kd.R_below (kr_ HO168) hb); have n2_ := am_ (blk_below (bk_ BK150) hb); have n3_ := am_ (blk_below (bk_ BK162) hb); have n4_ := am_ (below_step (bl_ HB) hb); clear HO_163001 HO168 BK150 BK162 HB; have HO_163001 := n0_; have HO168 := n1_; have BK150 := n2_; have BK162 := n3_; have HB := n4_; clear n0_ n1_ n2_ n3_ n4_; (try clear hb); (try clear hb2); (try clear hk); (try clear hi)
      refine hK.out _ _ ⟨bc_ BK162 0, bc_ BK162 1, bc_ BK150 0, bc_ BK150 1⟩ (fun hHeld => ?_)
      clear hK K
      refine norm_ (a' := ?_) ?_ ?_
      rotate_left
      ·show Act.put _ (some 38) _ = _
       exact nm_
      refine pure_ (i := 4) (N := some 39) (v := ?_) (a' := ?_) #[true, true, true, true, true] rfl rfl (by kernel_rfl) (fun _ _ _ h => h) (Or.inl ⟨by rfl, ?_⟩) ?_ ?_
      rotate_left
      ·intro w'
       go_simp
       with_reducible rfl
      rotate_left
      ·exact nm_
      refine done_ (by kernel_rfl) ?_
      try go_wp2
      go_ret
      exact ⟨by first | rfl | (simp [errW_none, errW_some] <;> rfl) | (simp [*, errW_none, errW_some] <;> rfl), bl_ HB⟩
     ·replace c30 := Bool.eq_false_iff.mpr c30
      subst c30
      have H1 : (some false) = some r := by rw [if_neg (show ¬ (false = true) by decide)] at H; exact H
      clear H; have H := H1; clear H1; obtain rfl := Option.some.inj H
      try go_wp2
      have n0_ := am_ (Kd.R_drew HO_163001.out); have n1_ := am_ (blk_drew BK150.out); have n2_ := am_ (blk_drew BK162.out); have n3_ := am_ (below_drew1 HB.out); clear HO_163001 BK150 BK162 HB; have HO_163001 := n0_; have BK150 := n1_; have BK162 := n2_; have HB := n3_; clear n0_ n1_ n2_ n3_
      refine start_ (n := 5) (S := fun w' => w'.cell? ⟨gb162, 0, none⟩ = some (.int .i64 t158) ∧ w'.cell? ⟨gb162, 1, none⟩ = some (.slice Ao24 t159.length co24) ∧ w'.cell? ⟨gb150, 0, none⟩ = some (.int .i64 a0_0) ∧ w'.cell? ⟨gb150, 1, none⟩ = some (.slice A0_1 l0_1.length c0_1)) (ds := []) #[false, false, false, false, false] (by kernel_rfl) rfl rfl ⟨bc_ BK162 0, bc_ BK162 1, bc_ BK150 0, bc_ BK150 1⟩ (fun hHeld => ?_)
      generalize wc.drew = w35 at HO_163001 BK150 BK162 HB hHeld ⊢
      refine take_ (i := 0) (N := some 35) (v := ?_) (a' := ?_) #[true, false, false, false, false] rfl rfl (by kernel_rfl) (fun _ _ _ h => h) (Or.inl ⟨by rfl, ?_⟩) hHeld ?_ ?_
      rotate_left
      ·rintro w' ⟨s0, s1, s2, s3⟩
       go_simp
       with_reducible rfl
      rotate_left
      ·exact nm_
      refine take_ (i := 1) (N := some 36) (v := ?_) (a' := ?_) #[true, true, false, false, false] rfl rfl (by kernel_rfl) (fun _ _ _ h => h) (Or.inl ⟨by rfl, ?_⟩) hHeld ?_ ?_
      rotate_left
      ·rintro w' ⟨s0, s1, s2, s3⟩
       go_simp
       with_reducible rfl
      rotate_left
      ·exact nm_
      refine one_ (i := 2) (N := some 37) #[true, true, true, false, false] rfl rfl (by kernel_rfl) (by decide) (fun K hK => ?_)
      refine goes_ Tryd.func13 (by kernel_rfl) rfl #[.agg #[.int .i64 a0_0, .slice A0_1 l0_1.length c0_1]] (by rfl) rfl rfl ma_ ?_
      with_reducible refine (laws_toWhole.calls kj10 a0_0 _ _ l0_1 t165 t166 _ ?side1 ?side2 A28.out).mono ?_
      (case side1 => exact cb_ HR0_1 HB)
      (case side2 => exact HC0_1.out)
      rintro e w36 ⟨v167, rfl, ho0, hb⟩
      refine ⟨_, rfl, ?_⟩
      have n0_ := am_ (Kd.R_elder' (kr_ HO_163001) (Kd.R_base ho0) hb); have n1_ := am_ (Kd.R_lower (Kd.R_new' ho0 (Kd.R_lt (kr_ HO_163001))) (below_size (bl_ HB))); have n2_ := am_ (blk_below (bk_ BK150) hb); have n3_ := am_ (blk_below (bk_ BK162) hb); have n4_ := am_ (below_step (bl_ HB) hb); clear HO_163001 BK150 BK162 HB; have HO_163001 := n0_; have HO168 := n1_; have BK150 := n2_; have BK162 := n3_; have HB := n4_; clear n0_ n1_ n2_ n3_ n4_; (try clear hb); (try clear hb2); (try clear hk); (try clear hi); (try clear ho0)
      obtain ⟨Ao37, co37, eo37⟩ := Kd.R_slice HO168.out
      (first | subst eo37 | (injection eo37 with f1_ f2_ f3_; have f4_ := f1_.symm; have f5_ := f3_.symm; clear f1_ f2_ f3_; subst f4_; subst f5_))
      refine hK.out _ _ ⟨bc_ BK162 0, bc_ BK162 1, bc_ BK150 0, bc_ BK150 1⟩ (fun hHeld => ?_)
      clear hK K
      refine norm_ (a' := ?_) ?_ ?_
      rotate_left
      ·show Act.put _ (some 37) _ = _
       exact nm_
      refine one_ (i := 3) (N := some 38) #[true, true, true, true, false] rfl rfl (by kernel_rfl) (by decide) (fun K hK => ?_)
      refine goes_ Tryd.func15 (by kernel_rfl) rfl #[.agg #[.int .i64 t158, .slice Ao24 t159.length co24], .agg #[.int .i64 t165, .slice Ao37 t166.length co37]] (by rfl) rfl rfl ma_ ?_
      with_reducible refine (laws_eqWhole.calls kj10 t158 _ _ t159 t165 _ _ t166 false _ ?side1 ?side2 ?side3 ?side4 A29.out).mono ?_
      (case side1 => exact cr_ HO_163001)
      (case side2 => exact (Kd.R_reads' HO_163001.out).2.1)
      (case side3 => exact cr_ HO168)
      (case side4 => exact (Kd.R_reads' HO168.out).2.1)
      rintro e w38 ⟨rfl, hb⟩
      refine ⟨_, rfl, ?_⟩
      have n0_ := am_ (Kd.R_below (kr_ HO_163001) hb); have n1_ := am_ (Kd.R_below (kr_ HO168) hb); have n2_ := am_ (blk_below (bk_ BK150) hb); have n3_ := am_ (blk_below (bk_ BK162) hb); have n4_ := am_ (below_step (bl_ HB) hb); clear HO_163001 HO168 BK150 BK162 HB; have HO_163001 := n0_; have HO168 := n1_; have BK150 := n2_; have BK162 := n3_; have HB := n4_; clear n0_ n1_ n2_ n3_ n4_; (try clear hb); (try clear hb2); (try clear hk); (try clear hi)
      refine hK.out _ _ ⟨bc_ BK162 0, bc_ BK162 1, bc_ BK150 0, bc_ BK150 1⟩ (fun hHeld => ?_)
      clear hK K
      refine norm_ (a' := ?_) ?_ ?_
      rotate_left
      ·show Act.put _ (some 38) _ = _
       exact nm_
      refine pure_ (i := 4) (N := some 39) (v := ?_) (a' := ?_) #[true, true, true, true, true] rfl rfl (by kernel_rfl) (fun _ _ _ h => h) (Or.inl ⟨by rfl, ?_⟩) ?_ ?_
      rotate_left
      ·intro w'
       go_simp
       with_reducible rfl
      rotate_left
      ·exact nm_
      refine done_ (by kernel_rfl) ?_
      try go_wp2
      go_ret
      exact ⟨by first | rfl | (simp [errW_none, errW_some] <;> rfl) | (simp [*, errW_none, errW_some] <;> rfl), bl_ HB⟩

end Go.Proofs.YtghhphndbbefjaaDoor.X
