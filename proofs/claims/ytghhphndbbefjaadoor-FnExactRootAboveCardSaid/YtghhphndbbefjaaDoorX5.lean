/- Functions of the program as plain Lean functions, each with a proof that its call does what that function says. Printed by a program over the kit's print; conditions stand in each contract. -/
import Derived.Test.YtghhphndbbefjaaDoorG10
import Derived.Test.YtghhphndbbefjaaDoorG15
import Derived.Test.YtghhphndbbefjaaDoorG17
import Derived.Test.YtghhphndbbefjaaDoorX4
namespace Go.Proofs.YtghhphndbbefjaaDoor.X
open Go.RowKit Go.Proofs.YtghhphndbbefjaaDoorW.PrintWords Go.Proofs.YtghhphndbbefjaaDoorW.PrintLast Go.Proofs.YtghhphndbbefjaaDoorW.PrintMore Go.Proofs.YtghhphndbbefjaaDoor.Sq
attribute [local go_sem] max2_int min2_int max_two min_two max_three min_three max_four min_four   -- for this text's walks alone
set_option linter.unusedVariables false
set_option linter.unusedSimpArgs false
def spec_l02Root.l0 : Nat → Int → Int → List Int → Int → List Int → Int → List Int → Int → List Int → Option (Int × List Int)
  | 0, _, _, _, _, _, _, _, _, _ => none
  | k + 1, x6, x263000, x263001, x269000, x269001, x270000, x270001, x271000, x271001 => if x6 ≥ 0 then ((spec_l02Left.f k x269000 x269001 (wrap64 (x6 + 1))).bind fun bt272 => ((spec_l02Add.f k x270000 x270001 bt272.1 bt272.2).bind fun bt276 => ((spec_l02Left.f k x271000 x271001 (wrap64 (2 * x6))).bind fun bt280 => ((spec_l02Add.f k bt276.1 bt276.2 bt280.1 bt280.2).bind fun bt284 => ((spec_l02Compare.f k bt284.1 bt284.2 x263000 x263001).bind fun t289 => (if t289 ≤ 0 then ((spec_l02Left.f k x271000 x271001 x6).bind fun bt290 => ((spec_l02Add.f k x269000 x269001 bt290.1 bt290.2).bind fun bt294 => (spec_l02Root.l0 k (wrap64 (x6 - 1)) x263000 x263001 bt294.1 bt294.2 bt284.1 bt284.2 x271000 x271001))) else (spec_l02Root.l0 k (wrap64 (x6 - 1)) x263000 x263001 x269000 x269001 x270000 x270001 x271000 x271001))))))) else (some (x269000, x269001))
def spec_l02Root.f (k : Nat) (a0_0 : Int) (l0_1 : List Int) : Option (Int × List Int) := (spec_l02Of.f k 1).bind fun bt264 => ((spec_l02Length.f k a0_0 l0_1).bind fun t271 => (spec_l02Root.l0 k (wrap64 (Int.tdiv (wrap64 (t271 + 1)) 2)) a0_0 l0_1 0 ([] : List Int) 0 ([] : List Int) bt264.1 bt264.2))
theorem spec_l02Root.mono_l : ∀ k, (∀ y0 y1 y2 y3 y4 y5 y6 y7 y8, LeO (spec_l02Root.l0 k y0 y1 y2 y3 y4 y5 y6 y7 y8) (spec_l02Root.l0 (k + 1) y0 y1 y2 y3 y4 y5 y6 y7 y8))
  | 0 => fun _ _ _ _ _ _ _ _ _ r h => by simp [spec_l02Root.l0] at h
  | k + 1 => by
    have ih0 := spec_l02Root.mono_l k
    · intro y0 y1 y2 y3 y4 y5 y6 y7 y8
      unfold spec_l02Root.l0
      repeat' first
      | (with_reducible exact ih0 _ _ _ _ _ _ _ _ _)
      | (with_reducible exact spec_l02Add.mono _ _ _ _ _)
      | (with_reducible exact spec_l02Compare.mono _ _ _ _ _)
      | (with_reducible exact spec_l02Left.mono _ _ _ _)
      | (with_reducible exact spec_l02Length.mono _ _ _)
      | (with_reducible exact spec_l02Of.mono _ _)
      | (with_reducible exact LeO.refl _)
      | (with_reducible exact LeO.none _)
      | (with_reducible refine LeO.ite ?_ ?_)
      | (with_reducible refine LeO.bind ?_ (fun _ => ?_))
      | exact ih0 _ _ _ _ _ _ _ _ _
      | exact spec_l02Add.mono _ _ _ _ _
      | exact spec_l02Compare.mono _ _ _ _ _
      | exact spec_l02Left.mono _ _ _ _
      | exact spec_l02Length.mono _ _ _
      | exact spec_l02Of.mono _ _
      | exact LeO.none _
      | refine LeO.ite ?_ ?_
      | refine LeO.bind ?_ (fun _ => ?_)
theorem spec_l02Root.mono : ∀ a0 a1 k, LeO (spec_l02Root.f k a0 a1) (spec_l02Root.f (k + 1) a0 a1) := by
  intro a0 a1 k
  have ih0 := spec_l02Root.mono_l k
  unfold spec_l02Root.f
  repeat' first
      | (with_reducible exact ih0 _ _ _ _ _ _ _ _ _)
      | (with_reducible exact spec_l02Add.mono _ _ _ _ _)
      | (with_reducible exact spec_l02Compare.mono _ _ _ _ _)
      | (with_reducible exact spec_l02Left.mono _ _ _ _)
      | (with_reducible exact spec_l02Length.mono _ _ _)
      | (with_reducible exact spec_l02Of.mono _ _)
      | (with_reducible exact LeO.refl _)
      | (with_reducible exact LeO.none _)
      | (with_reducible refine LeO.ite ?_ ?_)
      | (with_reducible refine LeO.bind ?_ (fun _ => ?_))
      | exact ih0 _ _ _ _ _ _ _ _ _
      | exact spec_l02Add.mono _ _ _ _ _
      | exact spec_l02Compare.mono _ _ _ _ _
      | exact spec_l02Left.mono _ _ _ _
      | exact spec_l02Length.mono _ _ _
      | exact spec_l02Of.mono _ _
      | exact LeO.none _
      | refine LeO.ite ?_ ?_
      | refine LeO.bind ?_ (fun _ => ?_)
def spec_l02Root.T5 : Bool × List (List Nat × List Nat) := (true, [([], []), ([], []), ([], []), ([2], [2]), ([1, 3], [1, 3]), ([0, 4, 4], [0, 4]), ([], []), ([], []), ([7], [7]), ([6, 8, 5], [6, 8]), ([5, 9, 9], [5, 9]), ([], []), ([11, 10, 10, 0, 1, 2, 3, 4, 5, 6, 7, 8, 9, 10, 11], [10, 11])])
def spec_l02Root.B5 : List Nat := [0, 0, 0, 4, 14, 31, 0, 0, 128, 511, 1023, 0, 4095]
theorem spec_l02Root.tab5 : rtab .any (opsOf Tryd.f56 5) = spec_l02Root.T5 := by kernel_rfl
theorem spec_l02Root.bits5 : waitsOk spec_l02Root.T5.2 spec_l02Root.B5 = true := by kernel_rfl
set_option maxHeartbeats 8000000 in
set_option maxRecDepth 100000 in
theorem spec_l02Root.calls (k : Nat) (a0_0 : Int) (A0_1 : Option Addr) (c0_1 : Nat) (l0_1 : List Int) (r1 : Int) (r2 : List Int) (w : World) (hr0_1 : Kd.C (Kd.int .i64) w A0_1 l0_1.length l0_1) (hc0_1 : l0_1.length ≤ c0_1) (h : spec_l02Root.f k a0_0 l0_1 = some (r1, r2)) :
  Calls Tryd.prog 56 #[.agg #[.int .i64 a0_0, .slice A0_1 l0_1.length c0_1]] w fun e w' => ∃ v1_ : Value, e = .returned (.agg #[.int .i64 r1, v1_]) ∧ Kd.R (Kd.int .i64) 2 w' w.heap.size (fun _ => True) v1_ r2 ∧ Below w.heap.size w w' := by
 have hu26 := Tryd.underlying26; have HR0_1 := Aside0.mk hr0_1; have HC0_1 := Aside0.mk hc0_1; clear hr0_1 hc0_1; have HB := am_ (Below.refl w.heap.size w)
 have H : ((spec_l02Of.f k 1).bind fun bt264 => ((spec_l02Length.f k a0_0 l0_1).bind fun t271 => (spec_l02Root.l0 k (wrap64 (Int.tdiv (wrap64 (t271 + 1)) 2)) a0_0 l0_1 0 ([] : List Int) 0 ([] : List Int) bt264.1 bt264.2))) = some (r1, r2) := h
 clear h
 replace H := Option.bind_eq_some_iff.mp H
 obtain ⟨⟨t264, t265⟩, A20, H⟩ := H
 replace H : ((spec_l02Length.f k a0_0 l0_1).bind fun t271 => (spec_l02Root.l0 k (wrap64 (Int.tdiv (wrap64 (t271 + 1)) 2)) a0_0 l0_1 0 ([] : List Int) 0 ([] : List Int) t264 t265)) = some (r1, r2) := H
 have A2 := Aside0.mk A20; clear A20
 replace H := Option.bind_eq_some_iff.mp H
 obtain ⟨t271, A30, H⟩ := H
 replace H : (spec_l02Root.l0 k (wrap64 (Int.tdiv (wrap64 (t271 + 1)) 2)) a0_0 l0_1 0 ([] : List Int) 0 ([] : List Int) t264 t265) = some (r1, r2) := H
 have A3 := Aside0.mk A30; clear A30
 have H' := Aside0.mk H
 clear H
 go_enter Tryd.func56, Tryd.ntmps56
 go_wp2_with (first | ((with_reducible refine gate_dst (N := 1) rfl ?_); refine bx_ 1 #[.int .i64 a0_0, .slice A0_1 l0_1.length c0_1] 26 ?_; intro gb262 hg w4 hbox hb; obtain ⟨BK262, GW262, GE262⟩ := nb_ hbox hg HB; replace HB := bs_ HB hb; clear hb hbox hg) | ((with_reducible refine gate_dst (N := 2) rfl ?_); refine bx_ 2 #[.int .i64 0, .slice none 0 0] 26 ?_; intro gb263 hg w5 hbox hb; obtain ⟨BK263, GW263, GE263⟩ := nb_ hbox hg HB; obtain ⟨NB262_263, NB263_262⟩ := nn_ hg BK262; replace BK262 := bb_ BK262 hb; replace HB := bs_ HB hb; clear hb hbox hg) | ((with_reducible refine gate_callee (f := 104) rfl ?_); refine goesL_ (some 10) rfl rfl Tryd.func104 (by kernel_rfl) rfl #[.int .i64 1] rfl ma_ ?_; (with_reducible refine (spec_l02Of.calls k 1 t264 t265 _ A2.out).mono ?_); rintro e w6 ⟨v266, rfl, ho0, hb⟩; refine ⟨_, rfl, ?_⟩; have HO267 := am_ (Kd.R_lower ho0 (below_size (bl_ HB))); replace BK262 := bb_ BK262 hb; replace BK263 := bb_ BK263 hb; replace HB := bs_ HB hb; (try clear hb); (try clear hb2); (try clear hk); (try clear hi); (try clear ho0)) | ((with_reducible refine gate_dst (N := 3) rfl ?_); refine bx_ 3 #[.int .i64 0, .slice none 0 0] 26 ?_; intro gb268 hg w7 hbox hb; obtain ⟨BK268, GW268, GE268⟩ := nb_ hbox hg HB; obtain ⟨NB262_268, NB268_262⟩ := nn_ hg BK262; obtain ⟨NB263_268, NB268_263⟩ := nn_ hg BK263; replace HO267 := am_ (Kd.R_below (kr_ HO267) hb); replace BK262 := bb_ BK262 hb; replace BK263 := bb_ BK263 hb; replace HB := bs_ HB hb; clear hb hbox hg) | ((with_reducible refine gate_dst (N := 4) rfl ?_); refine bx_ 4 #[.int .i64 0, .slice none 0 0] 26 ?_; intro gb269 hg w8 hbox hb; obtain ⟨BK269, GW269, GE269⟩ := nb_ hbox hg HB; obtain ⟨NB262_269, NB269_262⟩ := nn_ hg BK262; obtain ⟨NB263_269, NB269_263⟩ := nn_ hg BK263; obtain ⟨NB268_269, NB269_268⟩ := nn_ hg BK268; replace HO267 := am_ (Kd.R_below (kr_ HO267) hb); replace BK262 := bb_ BK262 hb; replace BK263 := bb_ BK263 hb; replace BK268 := bb_ BK268 hb; replace HB := bs_ HB hb; clear hb hbox hg) | ((with_reducible refine gate_dst (N := 5) rfl ?_); refine bx_ 5 #[.int .i64 0, .slice none 0 0] 26 ?_; intro gb270 hg w9 hbox hb; obtain ⟨BK270, GW270, GE270⟩ := nb_ hbox hg HB; obtain ⟨NB262_270, NB270_262⟩ := nn_ hg BK262; obtain ⟨NB263_270, NB270_263⟩ := nn_ hg BK263; obtain ⟨NB268_270, NB270_268⟩ := nn_ hg BK268; obtain ⟨NB269_270, NB270_269⟩ := nn_ hg BK269; replace HO267 := am_ (Kd.R_below (kr_ HO267) hb); replace BK262 := bb_ BK262 hb; replace BK263 := bb_ BK263 hb; replace BK268 := bb_ BK268 hb; replace BK269 := bb_ BK269 hb; replace HB := bs_ HB hb; clear hb hbox hg; have hnb10 := NB268_262.out; have hnc10 := NB262_268.out; have hnb11 := NB268_263.out; have hnc11 := NB263_268.out; have hnb12 := NB268_269.out; have hnc12 := NB269_268.out; have hnb13 := NB268_270.out; have hnc13 := NB270_268.out; obtain ⟨hcz14_0, hcz14_1, hfz14_0, hfz14_1⟩ := ck2_ BK268; have hnb15 := NB269_262.out; have hnc15 := NB262_269.out; have hnb16 := NB269_263.out; have hnc16 := NB263_269.out; have hnb17 := NB269_270.out; have hnc17 := NB270_269.out; obtain ⟨hcz18_0, hcz18_1, hfz18_0, hfz18_1⟩ := ck2_ BK269; have hnb19 := NB270_262.out; have hnc19 := NB262_270.out; have hnb20 := NB270_263.out; have hnc20 := NB263_270.out; obtain ⟨hcz21_0, hcz21_1, hfz21_0, hfz21_1⟩ := ck2_ BK270; obtain ⟨Ao22, co22, eo22⟩ := Kd.R_slice HO267.out; subst eo22; have hnb23 := NB262_263.out; have hnc23 := NB263_262.out; obtain ⟨hcz24_0, hcz24_1, hfz24_0, hfz24_1⟩ := ck2_ BK262) | ((with_reducible refine gate_callee (f := 80) rfl ?_); refine goesL_ (some 12) rfl rfl Tryd.func80 (by kernel_rfl) rfl #[.agg #[.int .i64 a0_0, .slice A0_1 l0_1.length c0_1]] rfl ma_ ?_; (with_reducible refine (spec_l02Length.calls k a0_0 _ _ l0_1 t271 _ ?side1 ?side2 A3.out).mono ?_); (case side1 => exact Kd.C_below HR0_1.out (bl_ HB)); (case side2 => exact HC0_1.out); rintro e w25 ⟨rfl, hb⟩; refine ⟨_, rfl, ?_⟩; replace HO267 := am_ (Kd.R_below (by (with_reducible repeat (first | apply Kd.R_alloc | apply Kd.R_drewN | apply Kd.R_drew)); exact (Kd.R_mono (Kd.R_mono (Kd.R_mono (Kd.R_far (p := ⟨gb270, 1, none⟩) (Kd.R_far (p := ⟨gb270, 0, none⟩) (Kd.R_far (p := ⟨gb269, 1, none⟩) (Kd.R_far (p := ⟨gb269, 0, none⟩) (Kd.R_far (p := ⟨gb268, 1, none⟩) (Kd.R_far (p := ⟨gb268, 0, none⟩) (Kd.R_types (Kd.R_types (Kd.R_types HO267.out BK268.out (by decide)) BK269.out (by decide)) BK270.out (by decide)) (fun _ hk => hk.1.1.2) (.int .i64 0)) (fun _ hk => hk.1.1.2) (.slice none 0 0)) (fun _ hk => hk.1.2) (.int .i64 0)) (fun _ hk => hk.1.2) (.slice none 0 0)) (fun _ hk => hk.2) (.int .i64 t264)) (fun _ hk => hk.2) (.slice Ao22 t265.length co22)) (fun _ h_ => h_.1)) (fun _ h_ => h_.1)) (fun _ h_ => h_.1))) hb); replace BK262 := bb_ BK262 hb; replace BK263 := bb_ BK263 hb; replace BK268 := am_ (blk_below (g := gb268) (o := .cells #[.int .i64 0, .slice none 0 0] 26 (0, 0)) (by (with_reducible repeat (first | refine blk_drewN ?_ _ | refine blk_drew ?_ | refine blk_alloc ?_ _)); refine blk_far ?_ NB268_270.out _; (with_reducible repeat (first | refine blk_drewN ?_ _ | refine blk_drew ?_ | refine blk_alloc ?_ _)); refine blk_far ?_ NB268_270.out _; (with_reducible repeat (first | refine blk_drewN ?_ _ | refine blk_drew ?_ | refine blk_alloc ?_ _)); refine blk_far ?_ NB268_269.out _; (with_reducible repeat (first | refine blk_drewN ?_ _ | refine blk_drew ?_ | refine blk_alloc ?_ _)); refine blk_far ?_ NB268_269.out _; (with_reducible repeat (first | refine blk_drewN ?_ _ | refine blk_drew ?_ | refine blk_alloc ?_ _)); refine blk_put (cs := #[.int .i64 0, .slice none 0 0]) ?_ 1 _ rfl; (with_reducible repeat (first | refine blk_drewN ?_ _ | refine blk_drew ?_ | refine blk_alloc ?_ _)); refine blk_put (cs := #[.int .i64 0, .slice none 0 0]) ?_ 0 _ rfl; (with_reducible repeat (first | refine blk_drewN ?_ _ | refine blk_drew ?_ | refine blk_alloc ?_ _)); exact BK268.out) hb); replace BK269 := am_ (blk_below (g := gb269) (o := .cells #[.int .i64 0, .slice none 0 0] 26 (0, 0)) (by (with_reducible repeat (first | refine blk_drewN ?_ _ | refine blk_drew ?_ | refine blk_alloc ?_ _)); refine blk_far ?_ NB269_270.out _; (with_reducible repeat (first | refine blk_drewN ?_ _ | refine blk_drew ?_ | refine blk_alloc ?_ _)); refine blk_far ?_ NB269_270.out _; (with_reducible repeat (first | refine blk_drewN ?_ _ | refine blk_drew ?_ | refine blk_alloc ?_ _)); refine blk_put (cs := #[.int .i64 0, .slice none 0 0]) ?_ 1 _ rfl; (with_reducible repeat (first | refine blk_drewN ?_ _ | refine blk_drew ?_ | refine blk_alloc ?_ _)); refine blk_put (cs := #[.int .i64 0, .slice none 0 0]) ?_ 0 _ rfl; (with_reducible repeat (first | refine blk_drewN ?_ _ | refine blk_drew ?_ | refine blk_alloc ?_ _)); refine blk_far ?_ NB269_268.out _; (with_reducible repeat (first | refine blk_drewN ?_ _ | refine blk_drew ?_ | refine blk_alloc ?_ _)); refine blk_far ?_ NB269_268.out _; (with_reducible repeat (first | refine blk_drewN ?_ _ | refine blk_drew ?_ | refine blk_alloc ?_ _)); exact BK269.out) hb); replace BK270 := am_ (blk_below (g := gb270) (o := .cells #[.int .i64 t264, .slice Ao22 t265.length co22] 26 (0, 0)) (by (with_reducible repeat (first | refine blk_drewN ?_ _ | refine blk_drew ?_ | refine blk_alloc ?_ _)); refine blk_put (cs := #[.int .i64 t264, .slice none 0 0]) ?_ 1 _ rfl; (with_reducible repeat (first | refine blk_drewN ?_ _ | refine blk_drew ?_ | refine blk_alloc ?_ _)); refine blk_put (cs := #[.int .i64 0, .slice none 0 0]) ?_ 0 _ rfl; (with_reducible repeat (first | refine blk_drewN ?_ _ | refine blk_drew ?_ | refine blk_alloc ?_ _)); refine blk_far ?_ NB270_269.out _; (with_reducible repeat (first | refine blk_drewN ?_ _ | refine blk_drew ?_ | refine blk_alloc ?_ _)); refine blk_far ?_ NB270_269.out _; (with_reducible repeat (first | refine blk_drewN ?_ _ | refine blk_drew ?_ | refine blk_alloc ?_ _)); refine blk_far ?_ NB270_268.out _; (with_reducible repeat (first | refine blk_drewN ?_ _ | refine blk_drew ?_ | refine blk_alloc ?_ _)); refine blk_far ?_ NB270_268.out _; (with_reducible repeat (first | refine blk_drewN ?_ _ | refine blk_drew ?_ | refine blk_alloc ?_ _)); exact BK270.out) hb); replace HB := bs_ HB hb; (try clear hb); (try clear hb2); (try clear hk); (try clear hi)))
 go_loopg [6] k (fun kq v6 w' => ∃ (x6_1 : Int) (x269000_1 : Int) (x269001_1 : List Int) (x270000_1 : Int) (x270001_1 : List Int) (u269001 : Value) (u270001 : Value), v6 = .int .i64 x6_1 ∧ Aside0 (spec_l02Root.l0 kq x6_1 a0_0 l0_1 x269000_1 x269001_1 x270000_1 x270001_1 t264 t265 = some (r1, r2)) ∧ Aside0 (kq ≤ k) ∧ Aside0 (Kd.R (Kd.int .i64) 2 w' w.heap.size (fun k_ => some k_ ≠ (u270001 : Value).ownBlock ∧ some k_ ≠ ((.slice Ao22 t265.length co22) : Value).ownBlock) u269001 x269001_1) ∧ Aside0 (Kd.R (Kd.int .i64) 2 w' w.heap.size (fun k_ => some k_ ≠ (u269001 : Value).ownBlock ∧ some k_ ≠ ((.slice Ao22 t265.length co22) : Value).ownBlock) u270001 x270001_1) ∧ Aside0 (Kd.R (Kd.int .i64) 2 w' w.heap.size (fun k_ => some k_ ≠ (u269001 : Value).ownBlock ∧ some k_ ≠ (u270001 : Value).ownBlock) (.slice Ao22 t265.length co22) t265) ∧ Aside0 (w'.heap[gb262]? = some (.cells #[.int .i64 a0_0, (.slice A0_1 l0_1.length c0_1)] 26 (0, 0))) ∧ Aside0 (w'.heap[gb263]? = some (.cells #[.int .i64 0, (.slice none 0 0)] 26 (0, 0))) ∧ Aside0 (w'.heap[gb268]? = some (.cells #[.int .i64 x269000_1, u269001] 26 (0, 0))) ∧ Aside0 (w'.heap[gb269]? = some (.cells #[.int .i64 x270000_1, u270001] 26 (0, 0))) ∧ Aside0 (w'.heap[gb270]? = some (.cells #[.int .i64 t264, (.slice Ao22 t265.length co22)] 26 (0, 0))) ∧ Aside0 (Below w.heap.size w w'))
 case atStart => exact ⟨(wrap64 (Int.tdiv (wrap64 (t271 + 1)) 2)), (0), (([] : List Int)), (0), (([] : List Int)), (.slice none 0 0), (.slice none 0 0), (by first | rfl | (simp; done) | (simp [*]; done)), H', ⟨Nat.le_refl _⟩, ⟨by first | exact Kd.R_nil _ _ _ _ _ | exact Kd.N_nil _ _ _ _ _ | exact Kd.V_nil _ _ _ _ _ | exact Kd.Q_nil _ _ _ _ _ | exact Kd.S_nil _ _ _ _ _⟩, ⟨by first | exact Kd.R_nil _ _ _ _ _ | exact Kd.N_nil _ _ _ _ _ | exact Kd.V_nil _ _ _ _ _ | exact Kd.Q_nil _ _ _ _ _ | exact Kd.S_nil _ _ _ _ _⟩, ⟨by (with_reducible repeat (first | apply Kd.R_alloc | apply Kd.R_drewN | apply Kd.R_drew)); exact Kd.R_mono HO267.out (fun _ hk => ⟨(by simp [Value.ownBlock]), (by simp [Value.ownBlock])⟩)⟩, ⟨bk_ BK262⟩, ⟨bk_ BK263⟩, ⟨bk_ BK268⟩, ⟨bk_ BK269⟩, ⟨bk_ BK270⟩, ⟨bl_ HB⟩⟩
 case round =>
  clear H'; try clear c1; try clear c2; try clear p2; try clear c5; try clear p6; try clear c8; try clear c10; try clear c11; try clear c12; try clear c13; try clear c15; try clear c16; try clear c17; try clear c19; try clear c20; try clear c23; try clear hcz14_0; try clear hcz14_1; try clear hcz18_0; try clear hcz18_1; try clear hcz21_0; try clear hcz21_1; try clear hcz24_0; try clear hcz24_1; try clear hfz14_0; try clear hfz14_1; try clear hfz18_0; try clear hfz18_1; try clear hfz21_0; try clear hfz21_1; try clear hfz24_0; try clear hfz24_1
  obtain ⟨x6_1, x269000_1, x269001_1, x270000_1, x270001_1, u269001, u270001, rfl, HA, HK1, HO_269001, HO_270001, HO_271001, BK262, BK263, BK268, BK269, BK270, HB⟩ := hrel
  cases gk with
  | zero => exact absurd HA.out (by simp [spec_l02Root.l0])
  | succ k1 =>
   have H := HA.out; clear HA
   simp only [spec_l02Root.l0] at H
   by_cases c26 : x6_1 ≥ 0
   ·rw [if_pos c26] at H
    have c26b0 : decide (0 ≤ x6_1) = true := decide_eq_true c26
    clear c26
    replace H := Option.bind_eq_some_iff.mp H
    obtain ⟨⟨t272, t273⟩, A270, H⟩ := H
    replace H : ((spec_l02Add.f k1 x270000_1 x270001_1 t272 t273).bind fun bt276 => ((spec_l02Left.f k1 t264 t265 (wrap64 (2 * x6_1))).bind fun bt280 => ((spec_l02Add.f k1 bt276.1 bt276.2 bt280.1 bt280.2).bind fun bt284 => ((spec_l02Compare.f k1 bt284.1 bt284.2 a0_0 l0_1).bind fun t289 => (if t289 ≤ 0 then ((spec_l02Left.f k1 t264 t265 x6_1).bind fun bt290 => ((spec_l02Add.f k1 x269000_1 x269001_1 bt290.1 bt290.2).bind fun bt294 => (spec_l02Root.l0 k1 (wrap64 (x6_1 - 1)) a0_0 l0_1 bt294.1 bt294.2 bt284.1 bt284.2 t264 t265))) else (spec_l02Root.l0 k1 (wrap64 (x6_1 - 1)) a0_0 l0_1 x269000_1 x269001_1 x270000_1 x270001_1 t264 t265)))))) = some (r1, r2) := H
    have A27 := Aside0.mk A270; clear A270
    replace H := Option.bind_eq_some_iff.mp H
    obtain ⟨⟨t276, t277⟩, A280, H⟩ := H
    replace H : ((spec_l02Left.f k1 t264 t265 (wrap64 (2 * x6_1))).bind fun bt280 => ((spec_l02Add.f k1 t276 t277 bt280.1 bt280.2).bind fun bt284 => ((spec_l02Compare.f k1 bt284.1 bt284.2 a0_0 l0_1).bind fun t289 => (if t289 ≤ 0 then ((spec_l02Left.f k1 t264 t265 x6_1).bind fun bt290 => ((spec_l02Add.f k1 x269000_1 x269001_1 bt290.1 bt290.2).bind fun bt294 => (spec_l02Root.l0 k1 (wrap64 (x6_1 - 1)) a0_0 l0_1 bt294.1 bt294.2 bt284.1 bt284.2 t264 t265))) else (spec_l02Root.l0 k1 (wrap64 (x6_1 - 1)) a0_0 l0_1 x269000_1 x269001_1 x270000_1 x270001_1 t264 t265))))) = some (r1, r2) := H
    have A28 := Aside0.mk A280; clear A280
    replace H := Option.bind_eq_some_iff.mp H
    obtain ⟨⟨t280, t281⟩, A290, H⟩ := H
    replace H : ((spec_l02Add.f k1 t276 t277 t280 t281).bind fun bt284 => ((spec_l02Compare.f k1 bt284.1 bt284.2 a0_0 l0_1).bind fun t289 => (if t289 ≤ 0 then ((spec_l02Left.f k1 t264 t265 x6_1).bind fun bt290 => ((spec_l02Add.f k1 x269000_1 x269001_1 bt290.1 bt290.2).bind fun bt294 => (spec_l02Root.l0 k1 (wrap64 (x6_1 - 1)) a0_0 l0_1 bt294.1 bt294.2 bt284.1 bt284.2 t264 t265))) else (spec_l02Root.l0 k1 (wrap64 (x6_1 - 1)) a0_0 l0_1 x269000_1 x269001_1 x270000_1 x270001_1 t264 t265)))) = some (r1, r2) := H
    have A29 := Aside0.mk A290; clear A290
    replace H := Option.bind_eq_some_iff.mp H
    obtain ⟨⟨t284, t285⟩, A300, H⟩ := H
    replace H : ((spec_l02Compare.f k1 t284 t285 a0_0 l0_1).bind fun t289 => (if t289 ≤ 0 then ((spec_l02Left.f k1 t264 t265 x6_1).bind fun bt290 => ((spec_l02Add.f k1 x269000_1 x269001_1 bt290.1 bt290.2).bind fun bt294 => (spec_l02Root.l0 k1 (wrap64 (x6_1 - 1)) a0_0 l0_1 bt294.1 bt294.2 t284 t285 t264 t265))) else (spec_l02Root.l0 k1 (wrap64 (x6_1 - 1)) a0_0 l0_1 x269000_1 x269001_1 x270000_1 x270001_1 t264 t265))) = some (r1, r2) := H
    have A30 := Aside0.mk A300; clear A300
    replace H := Option.bind_eq_some_iff.mp H
    obtain ⟨t289, A310, H⟩ := H
    replace H : (if t289 ≤ 0 then ((spec_l02Left.f k1 t264 t265 x6_1).bind fun bt290 => ((spec_l02Add.f k1 x269000_1 x269001_1 bt290.1 bt290.2).bind fun bt294 => (spec_l02Root.l0 k1 (wrap64 (x6_1 - 1)) a0_0 l0_1 bt294.1 bt294.2 t284 t285 t264 t265))) else (spec_l02Root.l0 k1 (wrap64 (x6_1 - 1)) a0_0 l0_1 x269000_1 x269001_1 x270000_1 x270001_1 t264 t265)) = some (r1, r2) := H
    have A31 := Aside0.mk A310; clear A310
    have HASIDE := Aside0.mk H; clear H
    obtain ⟨Ao35, co35, eo35⟩ := Kd.R_slice HO_269001.out
    subst eo35
    obtain ⟨Ao36, co36, eo36⟩ := Kd.R_slice HO_270001.out
    subst eo36
    try go_wp2
    replace HO_269001 := am_ (Kd.R_drew HO_269001.out); replace HO_270001 := am_ (Kd.R_drew HO_270001.out); replace HO_271001 := am_ (Kd.R_drew HO_271001.out); replace BK262 := am_ (blk_drew BK262.out); replace BK263 := am_ (blk_drew BK263.out); replace BK268 := am_ (blk_drew BK268.out); replace BK269 := am_ (blk_drew BK269.out); replace BK270 := am_ (blk_drew BK270.out); replace HB := am_ (below_drew1 HB.out)
    refine start_ (n := 13) (S := fun w' => w'.cell? ⟨gb269, 0, none⟩ = some (.int .i64 x270000_1) ∧ w'.cell? ⟨gb269, 1, none⟩ = some (.slice Ao36 x270001_1.length co36) ∧ w'.cell? ⟨gb268, 0, none⟩ = some (.int .i64 x269000_1) ∧ w'.cell? ⟨gb268, 1, none⟩ = some (.slice Ao35 x269001_1.length co35) ∧ w'.cell? ⟨gb270, 0, none⟩ = some (.int .i64 t264) ∧ w'.cell? ⟨gb270, 1, none⟩ = some (.slice Ao22 t265.length co22)) (ds := []) #[false, false, false, false, false, false, false, false, false, false, false, false, false] (by kernel_rfl) rfl rfl ⟨bc_ BK269 0, bc_ BK269 1, bc_ BK268 0, bc_ BK268 1, bc_ BK270 0, bc_ BK270 1⟩ (fun hHeld => ?_); refine with_tabW spec_l02Root.tab5 spec_l02Root.bits5 (fun HT_ HW_ => ?_)
    generalize wr.drew = w37 at HO_269001 HO_270001 HO_271001 BK262 BK263 BK268 BK269 BK270 HB hHeld ⊢
    refine pu_ #[false, false, true, false, false, false, false, false, false, false, false, false, false] 2 21 (any_of HT_.out (by kernel_rfl)) ?_
    refine pu_ #[false, false, true, true, false, false, false, false, false, false, false, false, false] 3 22 (any_of HT_.out (by kernel_rfl)) ?_
    refine pu_ #[false, false, true, true, false, false, false, true, false, false, false, false, false] 7 26 (any_of HT_.out (by kernel_rfl)) ?_
    refine pu_ #[false, false, true, true, false, false, false, true, true, false, false, false, false] 8 27 (any_of HT_.out (by kernel_rfl)) ?_
    refine tk_ #[true, false, true, true, false, false, false, true, true, false, false, false, false] 0 19 (take_ofW HT_.out HW_.out (by kernel_rfl)) hHeld ?_
    refine tk_ #[true, true, true, true, false, false, false, true, true, false, false, false, false] 1 20 (take_ofW HT_.out HW_.out (by kernel_rfl)) hHeld ?_
    refine tk_ #[true, true, true, true, false, false, true, true, true, false, false, false, false] 6 25 (take_ofW HT_.out HW_.out (by kernel_rfl)) hHeld ?_
    refine join_ (σ := Value × Value × Value × Value × Nat) 1 #[true, true, true, true, true, true, true, true, true, true, true, true, false] (fun s_ => [(23, .agg #[.int .i64 t272, s_.1]), (24, .agg #[.int .i64 t276, s_.2.1]), (28, .agg #[.int .i64 t280, s_.2.2.1]), (29, .agg #[.int .i64 t284, s_.2.2.2.1]), (7, .pointer (some ⟨s_.2.2.2.2, 0, none⟩))]) (fun s_ w' => (w'.cell? ⟨gb269, 0, none⟩ = some (.int .i64 x270000_1) ∧ w'.cell? ⟨gb269, 1, none⟩ = some (.slice Ao36 x270001_1.length co36) ∧ w'.cell? ⟨gb268, 0, none⟩ = some (.int .i64 x269000_1) ∧ w'.cell? ⟨gb268, 1, none⟩ = some (.slice Ao35 x269001_1.length co35) ∧ w'.cell? ⟨gb270, 0, none⟩ = some (.int .i64 t264) ∧ w'.cell? ⟨gb270, 1, none⟩ = some (.slice Ao22 t265.length co22)) ∧ (Kd.R (Kd.int .i64) 2 w' w.heap.size (fun k_ => some k_ ≠ (s_.2.1 : Value).ownBlock ∧ some k_ ≠ (s_.2.2.1 : Value).ownBlock ∧ some k_ ≠ (s_.2.2.2.1 : Value).ownBlock ∧ some k_ ≠ (.slice Ao35 x269001_1.length co35 : Value).ownBlock ∧ some k_ ≠ (.slice Ao36 x270001_1.length co36 : Value).ownBlock ∧ some k_ ≠ (.slice Ao22 t265.length co22 : Value).ownBlock) s_.1 t273) ∧ (Kd.R (Kd.int .i64) 2 w' w.heap.size (fun k_ => some k_ ≠ (s_.1 : Value).ownBlock ∧ some k_ ≠ (s_.2.2.1 : Value).ownBlock ∧ some k_ ≠ (s_.2.2.2.1 : Value).ownBlock ∧ some k_ ≠ (.slice Ao35 x269001_1.length co35 : Value).ownBlock ∧ some k_ ≠ (.slice Ao36 x270001_1.length co36 : Value).ownBlock ∧ some k_ ≠ (.slice Ao22 t265.length co22 : Value).ownBlock) s_.2.1 t277) ∧ (Kd.R (Kd.int .i64) 2 w' w.heap.size (fun k_ => some k_ ≠ (s_.1 : Value).ownBlock ∧ some k_ ≠ (s_.2.1 : Value).ownBlock ∧ some k_ ≠ (s_.2.2.2.1 : Value).ownBlock ∧ some k_ ≠ (.slice Ao35 x269001_1.length co35 : Value).ownBlock ∧ some k_ ≠ (.slice Ao36 x270001_1.length co36 : Value).ownBlock ∧ some k_ ≠ (.slice Ao22 t265.length co22 : Value).ownBlock) s_.2.2.1 t281) ∧ (Kd.R (Kd.int .i64) 2 w' w.heap.size (fun k_ => some k_ ≠ (s_.1 : Value).ownBlock ∧ some k_ ≠ (s_.2.1 : Value).ownBlock ∧ some k_ ≠ (s_.2.2.1 : Value).ownBlock ∧ some k_ ≠ (.slice Ao35 x269001_1.length co35 : Value).ownBlock ∧ some k_ ≠ (.slice Ao36 x270001_1.length co36 : Value).ownBlock ∧ some k_ ≠ (.slice Ao22 t265.length co22 : Value).ownBlock) s_.2.2.2.1 t285) ∧ (Kd.R (Kd.int .i64) 2 w' w.heap.size (fun k_ => some k_ ≠ (s_.1 : Value).ownBlock ∧ some k_ ≠ (s_.2.1 : Value).ownBlock ∧ some k_ ≠ (s_.2.2.1 : Value).ownBlock ∧ some k_ ≠ (s_.2.2.2.1 : Value).ownBlock ∧ some k_ ≠ (.slice Ao36 x270001_1.length co36 : Value).ownBlock ∧ some k_ ≠ (.slice Ao22 t265.length co22 : Value).ownBlock) (.slice Ao35 x269001_1.length co35) x269001_1) ∧ (Kd.R (Kd.int .i64) 2 w' w.heap.size (fun k_ => some k_ ≠ (s_.1 : Value).ownBlock ∧ some k_ ≠ (s_.2.1 : Value).ownBlock ∧ some k_ ≠ (s_.2.2.1 : Value).ownBlock ∧ some k_ ≠ (s_.2.2.2.1 : Value).ownBlock ∧ some k_ ≠ (.slice Ao35 x269001_1.length co35 : Value).ownBlock ∧ some k_ ≠ (.slice Ao22 t265.length co22 : Value).ownBlock) (.slice Ao36 x270001_1.length co36) x270001_1) ∧ (Kd.R (Kd.int .i64) 2 w' w.heap.size (fun k_ => some k_ ≠ (s_.1 : Value).ownBlock ∧ some k_ ≠ (s_.2.1 : Value).ownBlock ∧ some k_ ≠ (s_.2.2.1 : Value).ownBlock ∧ some k_ ≠ (s_.2.2.2.1 : Value).ownBlock ∧ some k_ ≠ (.slice Ao35 x269001_1.length co35 : Value).ownBlock ∧ some k_ ≠ (.slice Ao36 x270001_1.length co36 : Value).ownBlock) (.slice Ao22 t265.length co22) t265) ∧ (w'.heap[gb262]? = some (.cells #[.int .i64 a0_0, .slice A0_1 l0_1.length c0_1] 26 (0, 0))) ∧ (w'.heap[gb263]? = some (.cells #[.int .i64 0, .slice none 0 0] 26 (0, 0))) ∧ (w'.heap[gb268]? = some (.cells #[.int .i64 x269000_1, .slice Ao35 x269001_1.length co35] 26 (0, 0))) ∧ (w'.heap[gb269]? = some (.cells #[.int .i64 x270000_1, .slice Ao36 x270001_1.length co36] 26 (0, 0))) ∧ (w'.heap[gb270]? = some (.cells #[.int .i64 t264, .slice Ao22 t265.length co22] 26 (0, 0))) ∧ (w'.heap[s_.2.2.2.2]? = some (.cells #[.int .i64 0, .slice none 0 0] 26 (0, 0))) ∧ (w.heap.size ≤ s_.2.2.2.2) ∧ (w.heap.size ≤ s_.2.2.2.2) ∧ (gb262 ≠ s_.2.2.2.2) ∧ (s_.2.2.2.2 ≠ gb262) ∧ (gb263 ≠ s_.2.2.2.2) ∧ (s_.2.2.2.2 ≠ gb263) ∧ (gb268 ≠ s_.2.2.2.2) ∧ (s_.2.2.2.2 ≠ gb268) ∧ (gb269 ≠ s_.2.2.2.2) ∧ (s_.2.2.2.2 ≠ gb269) ∧ (gb270 ≠ s_.2.2.2.2) ∧ (s_.2.2.2.2 ≠ gb270) ∧ (Below w.heap.size w w')) ?_ ?_
    rotate_left
    ·intro hJ4_5_9_10_11
     refine join_ (σ := Value × Value × Value × Value) 2 #[true, true, true, true, true, true, true, true, true, true, true, false, false] (fun s_ => [(23, .agg #[.int .i64 t272, s_.1]), (24, .agg #[.int .i64 t276, s_.2.1]), (28, .agg #[.int .i64 t280, s_.2.2.1]), (29, .agg #[.int .i64 t284, s_.2.2.2])]) (fun s_ w' => (w'.cell? ⟨gb269, 0, none⟩ = some (.int .i64 x270000_1) ∧ w'.cell? ⟨gb269, 1, none⟩ = some (.slice Ao36 x270001_1.length co36) ∧ w'.cell? ⟨gb268, 0, none⟩ = some (.int .i64 x269000_1) ∧ w'.cell? ⟨gb268, 1, none⟩ = some (.slice Ao35 x269001_1.length co35) ∧ w'.cell? ⟨gb270, 0, none⟩ = some (.int .i64 t264) ∧ w'.cell? ⟨gb270, 1, none⟩ = some (.slice Ao22 t265.length co22)) ∧ (Kd.R (Kd.int .i64) 2 w' w.heap.size (fun k_ => some k_ ≠ (s_.2.1 : Value).ownBlock ∧ some k_ ≠ (s_.2.2.1 : Value).ownBlock ∧ some k_ ≠ (s_.2.2.2 : Value).ownBlock ∧ some k_ ≠ (.slice Ao35 x269001_1.length co35 : Value).ownBlock ∧ some k_ ≠ (.slice Ao36 x270001_1.length co36 : Value).ownBlock ∧ some k_ ≠ (.slice Ao22 t265.length co22 : Value).ownBlock) s_.1 t273) ∧ (Kd.R (Kd.int .i64) 2 w' w.heap.size (fun k_ => some k_ ≠ (s_.1 : Value).ownBlock ∧ some k_ ≠ (s_.2.2.1 : Value).ownBlock ∧ some k_ ≠ (s_.2.2.2 : Value).ownBlock ∧ some k_ ≠ (.slice Ao35 x269001_1.length co35 : Value).ownBlock ∧ some k_ ≠ (.slice Ao36 x270001_1.length co36 : Value).ownBlock ∧ some k_ ≠ (.slice Ao22 t265.length co22 : Value).ownBlock) s_.2.1 t277) ∧ (Kd.R (Kd.int .i64) 2 w' w.heap.size (fun k_ => some k_ ≠ (s_.1 : Value).ownBlock ∧ some k_ ≠ (s_.2.1 : Value).ownBlock ∧ some k_ ≠ (s_.2.2.2 : Value).ownBlock ∧ some k_ ≠ (.slice Ao35 x269001_1.length co35 : Value).ownBlock ∧ some k_ ≠ (.slice Ao36 x270001_1.length co36 : Value).ownBlock ∧ some k_ ≠ (.slice Ao22 t265.length co22 : Value).ownBlock) s_.2.2.1 t281) ∧ (Kd.R (Kd.int .i64) 2 w' w.heap.size (fun k_ => some k_ ≠ (s_.1 : Value).ownBlock ∧ some k_ ≠ (s_.2.1 : Value).ownBlock ∧ some k_ ≠ (s_.2.2.1 : Value).ownBlock ∧ some k_ ≠ (.slice Ao35 x269001_1.length co35 : Value).ownBlock ∧ some k_ ≠ (.slice Ao36 x270001_1.length co36 : Value).ownBlock ∧ some k_ ≠ (.slice Ao22 t265.length co22 : Value).ownBlock) s_.2.2.2 t285) ∧ (Kd.R (Kd.int .i64) 2 w' w.heap.size (fun k_ => some k_ ≠ (s_.1 : Value).ownBlock ∧ some k_ ≠ (s_.2.1 : Value).ownBlock ∧ some k_ ≠ (s_.2.2.1 : Value).ownBlock ∧ some k_ ≠ (s_.2.2.2 : Value).ownBlock ∧ some k_ ≠ (.slice Ao36 x270001_1.length co36 : Value).ownBlock ∧ some k_ ≠ (.slice Ao22 t265.length co22 : Value).ownBlock) (.slice Ao35 x269001_1.length co35) x269001_1) ∧ (Kd.R (Kd.int .i64) 2 w' w.heap.size (fun k_ => some k_ ≠ (s_.1 : Value).ownBlock ∧ some k_ ≠ (s_.2.1 : Value).ownBlock ∧ some k_ ≠ (s_.2.2.1 : Value).ownBlock ∧ some k_ ≠ (s_.2.2.2 : Value).ownBlock ∧ some k_ ≠ (.slice Ao35 x269001_1.length co35 : Value).ownBlock ∧ some k_ ≠ (.slice Ao22 t265.length co22 : Value).ownBlock) (.slice Ao36 x270001_1.length co36) x270001_1) ∧ (Kd.R (Kd.int .i64) 2 w' w.heap.size (fun k_ => some k_ ≠ (s_.1 : Value).ownBlock ∧ some k_ ≠ (s_.2.1 : Value).ownBlock ∧ some k_ ≠ (s_.2.2.1 : Value).ownBlock ∧ some k_ ≠ (s_.2.2.2 : Value).ownBlock ∧ some k_ ≠ (.slice Ao35 x269001_1.length co35 : Value).ownBlock ∧ some k_ ≠ (.slice Ao36 x270001_1.length co36 : Value).ownBlock) (.slice Ao22 t265.length co22) t265) ∧ (w'.heap[gb262]? = some (.cells #[.int .i64 a0_0, .slice A0_1 l0_1.length c0_1] 26 (0, 0))) ∧ (w'.heap[gb263]? = some (.cells #[.int .i64 0, .slice none 0 0] 26 (0, 0))) ∧ (w'.heap[gb268]? = some (.cells #[.int .i64 x269000_1, .slice Ao35 x269001_1.length co35] 26 (0, 0))) ∧ (w'.heap[gb269]? = some (.cells #[.int .i64 x270000_1, .slice Ao36 x270001_1.length co36] 26 (0, 0))) ∧ (w'.heap[gb270]? = some (.cells #[.int .i64 t264, .slice Ao22 t265.length co22] 26 (0, 0))) ∧ (Below w.heap.size w w')) ?_ ?_
     rotate_left
     ·intro hJ4_5_9_10
      refine join_ (σ := Value × Value × Value × Nat) 2 #[true, true, true, true, true, true, true, true, true, true, false, true, false] (fun s_ => [(23, .agg #[.int .i64 t272, s_.1]), (24, .agg #[.int .i64 t276, s_.2.1]), (28, .agg #[.int .i64 t280, s_.2.2.1]), (7, .pointer (some ⟨s_.2.2.2, 0, none⟩))]) (fun s_ w' => (w'.cell? ⟨gb269, 0, none⟩ = some (.int .i64 x270000_1) ∧ w'.cell? ⟨gb269, 1, none⟩ = some (.slice Ao36 x270001_1.length co36) ∧ w'.cell? ⟨gb268, 0, none⟩ = some (.int .i64 x269000_1) ∧ w'.cell? ⟨gb268, 1, none⟩ = some (.slice Ao35 x269001_1.length co35) ∧ w'.cell? ⟨gb270, 0, none⟩ = some (.int .i64 t264) ∧ w'.cell? ⟨gb270, 1, none⟩ = some (.slice Ao22 t265.length co22)) ∧ (Kd.R (Kd.int .i64) 2 w' w.heap.size (fun k_ => some k_ ≠ (s_.2.1 : Value).ownBlock ∧ some k_ ≠ (s_.2.2.1 : Value).ownBlock ∧ some k_ ≠ (.slice Ao35 x269001_1.length co35 : Value).ownBlock ∧ some k_ ≠ (.slice Ao36 x270001_1.length co36 : Value).ownBlock ∧ some k_ ≠ (.slice Ao22 t265.length co22 : Value).ownBlock) s_.1 t273) ∧ (Kd.R (Kd.int .i64) 2 w' w.heap.size (fun k_ => some k_ ≠ (s_.1 : Value).ownBlock ∧ some k_ ≠ (s_.2.2.1 : Value).ownBlock ∧ some k_ ≠ (.slice Ao35 x269001_1.length co35 : Value).ownBlock ∧ some k_ ≠ (.slice Ao36 x270001_1.length co36 : Value).ownBlock ∧ some k_ ≠ (.slice Ao22 t265.length co22 : Value).ownBlock) s_.2.1 t277) ∧ (Kd.R (Kd.int .i64) 2 w' w.heap.size (fun k_ => some k_ ≠ (s_.1 : Value).ownBlock ∧ some k_ ≠ (s_.2.1 : Value).ownBlock ∧ some k_ ≠ (.slice Ao35 x269001_1.length co35 : Value).ownBlock ∧ some k_ ≠ (.slice Ao36 x270001_1.length co36 : Value).ownBlock ∧ some k_ ≠ (.slice Ao22 t265.length co22 : Value).ownBlock) s_.2.2.1 t281) ∧ (Kd.R (Kd.int .i64) 2 w' w.heap.size (fun k_ => some k_ ≠ (s_.1 : Value).ownBlock ∧ some k_ ≠ (s_.2.1 : Value).ownBlock ∧ some k_ ≠ (s_.2.2.1 : Value).ownBlock ∧ some k_ ≠ (.slice Ao36 x270001_1.length co36 : Value).ownBlock ∧ some k_ ≠ (.slice Ao22 t265.length co22 : Value).ownBlock) (.slice Ao35 x269001_1.length co35) x269001_1) ∧ (Kd.R (Kd.int .i64) 2 w' w.heap.size (fun k_ => some k_ ≠ (s_.1 : Value).ownBlock ∧ some k_ ≠ (s_.2.1 : Value).ownBlock ∧ some k_ ≠ (s_.2.2.1 : Value).ownBlock ∧ some k_ ≠ (.slice Ao35 x269001_1.length co35 : Value).ownBlock ∧ some k_ ≠ (.slice Ao22 t265.length co22 : Value).ownBlock) (.slice Ao36 x270001_1.length co36) x270001_1) ∧ (Kd.R (Kd.int .i64) 2 w' w.heap.size (fun k_ => some k_ ≠ (s_.1 : Value).ownBlock ∧ some k_ ≠ (s_.2.1 : Value).ownBlock ∧ some k_ ≠ (s_.2.2.1 : Value).ownBlock ∧ some k_ ≠ (.slice Ao35 x269001_1.length co35 : Value).ownBlock ∧ some k_ ≠ (.slice Ao36 x270001_1.length co36 : Value).ownBlock) (.slice Ao22 t265.length co22) t265) ∧ (w'.heap[gb262]? = some (.cells #[.int .i64 a0_0, .slice A0_1 l0_1.length c0_1] 26 (0, 0))) ∧ (w'.heap[gb263]? = some (.cells #[.int .i64 0, .slice none 0 0] 26 (0, 0))) ∧ (w'.heap[gb268]? = some (.cells #[.int .i64 x269000_1, .slice Ao35 x269001_1.length co35] 26 (0, 0))) ∧ (w'.heap[gb269]? = some (.cells #[.int .i64 x270000_1, .slice Ao36 x270001_1.length co36] 26 (0, 0))) ∧ (w'.heap[gb270]? = some (.cells #[.int .i64 t264, .slice Ao22 t265.length co22] 26 (0, 0))) ∧ (w'.heap[s_.2.2.2]? = some (.cells #[.int .i64 0, .slice none 0 0] 26 (0, 0))) ∧ (w.heap.size ≤ s_.2.2.2) ∧ (w.heap.size ≤ s_.2.2.2) ∧ (gb262 ≠ s_.2.2.2) ∧ (s_.2.2.2 ≠ gb262) ∧ (gb263 ≠ s_.2.2.2) ∧ (s_.2.2.2 ≠ gb263) ∧ (gb268 ≠ s_.2.2.2) ∧ (s_.2.2.2 ≠ gb268) ∧ (gb269 ≠ s_.2.2.2) ∧ (s_.2.2.2 ≠ gb269) ∧ (gb270 ≠ s_.2.2.2) ∧ (s_.2.2.2 ≠ gb270) ∧ (Below w.heap.size w w')) ?_ ?_
      rotate_left
      ·intro hJ4_5_9_11
       refine join_ (σ := Value × Value × Value) 3 #[true, true, true, true, true, true, true, true, true, true, false, false, false] (fun s_ => [(23, .agg #[.int .i64 t272, s_.1]), (24, .agg #[.int .i64 t276, s_.2.1]), (28, .agg #[.int .i64 t280, s_.2.2])]) (fun s_ w' => (w'.cell? ⟨gb269, 0, none⟩ = some (.int .i64 x270000_1) ∧ w'.cell? ⟨gb269, 1, none⟩ = some (.slice Ao36 x270001_1.length co36) ∧ w'.cell? ⟨gb268, 0, none⟩ = some (.int .i64 x269000_1) ∧ w'.cell? ⟨gb268, 1, none⟩ = some (.slice Ao35 x269001_1.length co35) ∧ w'.cell? ⟨gb270, 0, none⟩ = some (.int .i64 t264) ∧ w'.cell? ⟨gb270, 1, none⟩ = some (.slice Ao22 t265.length co22)) ∧ (Kd.R (Kd.int .i64) 2 w' w.heap.size (fun k_ => some k_ ≠ (s_.2.1 : Value).ownBlock ∧ some k_ ≠ (s_.2.2 : Value).ownBlock ∧ some k_ ≠ (.slice Ao35 x269001_1.length co35 : Value).ownBlock ∧ some k_ ≠ (.slice Ao36 x270001_1.length co36 : Value).ownBlock ∧ some k_ ≠ (.slice Ao22 t265.length co22 : Value).ownBlock) s_.1 t273) ∧ (Kd.R (Kd.int .i64) 2 w' w.heap.size (fun k_ => some k_ ≠ (s_.1 : Value).ownBlock ∧ some k_ ≠ (s_.2.2 : Value).ownBlock ∧ some k_ ≠ (.slice Ao35 x269001_1.length co35 : Value).ownBlock ∧ some k_ ≠ (.slice Ao36 x270001_1.length co36 : Value).ownBlock ∧ some k_ ≠ (.slice Ao22 t265.length co22 : Value).ownBlock) s_.2.1 t277) ∧ (Kd.R (Kd.int .i64) 2 w' w.heap.size (fun k_ => some k_ ≠ (s_.1 : Value).ownBlock ∧ some k_ ≠ (s_.2.1 : Value).ownBlock ∧ some k_ ≠ (.slice Ao35 x269001_1.length co35 : Value).ownBlock ∧ some k_ ≠ (.slice Ao36 x270001_1.length co36 : Value).ownBlock ∧ some k_ ≠ (.slice Ao22 t265.length co22 : Value).ownBlock) s_.2.2 t281) ∧ (Kd.R (Kd.int .i64) 2 w' w.heap.size (fun k_ => some k_ ≠ (s_.1 : Value).ownBlock ∧ some k_ ≠ (s_.2.1 : Value).ownBlock ∧ some k_ ≠ (s_.2.2 : Value).ownBlock ∧ some k_ ≠ (.slice Ao36 x270001_1.length co36 : Value).ownBlock ∧ some k_ ≠ (.slice Ao22 t265.length co22 : Value).ownBlock) (.slice Ao35 x269001_1.length co35) x269001_1) ∧ (Kd.R (Kd.int .i64) 2 w' w.heap.size (fun k_ => some k_ ≠ (s_.1 : Value).ownBlock ∧ some k_ ≠ (s_.2.1 : Value).ownBlock ∧ some k_ ≠ (s_.2.2 : Value).ownBlock ∧ some k_ ≠ (.slice Ao35 x269001_1.length co35 : Value).ownBlock ∧ some k_ ≠ (.slice Ao22 t265.length co22 : Value).ownBlock) (.slice Ao36 x270001_1.length co36) x270001_1) ∧ (Kd.R (Kd.int .i64) 2 w' w.heap.size (fun k_ => some k_ ≠ (s_.1 : Value).ownBlock ∧ some k_ ≠ (s_.2.1 : Value).ownBlock ∧ some k_ ≠ (s_.2.2 : Value).ownBlock ∧ some k_ ≠ (.slice Ao35 x269001_1.length co35 : Value).ownBlock ∧ some k_ ≠ (.slice Ao36 x270001_1.length co36 : Value).ownBlock) (.slice Ao22 t265.length co22) t265) ∧ (w'.heap[gb262]? = some (.cells #[.int .i64 a0_0, .slice A0_1 l0_1.length c0_1] 26 (0, 0))) ∧ (w'.heap[gb263]? = some (.cells #[.int .i64 0, .slice none 0 0] 26 (0, 0))) ∧ (w'.heap[gb268]? = some (.cells #[.int .i64 x269000_1, .slice Ao35 x269001_1.length co35] 26 (0, 0))) ∧ (w'.heap[gb269]? = some (.cells #[.int .i64 x270000_1, .slice Ao36 x270001_1.length co36] 26 (0, 0))) ∧ (w'.heap[gb270]? = some (.cells #[.int .i64 t264, .slice Ao22 t265.length co22] 26 (0, 0))) ∧ (Below w.heap.size w w')) ?_ ?_
       rotate_left
       ·intro hJ4_5_9
        refine join_ (σ := Value × Value × Nat) 3 #[true, true, true, true, true, true, true, true, true, false, false, true, false] (fun s_ => [(23, .agg #[.int .i64 t272, s_.1]), (24, .agg #[.int .i64 t276, s_.2.1]), (7, .pointer (some ⟨s_.2.2, 0, none⟩))]) (fun s_ w' => (w'.cell? ⟨gb269, 0, none⟩ = some (.int .i64 x270000_1) ∧ w'.cell? ⟨gb269, 1, none⟩ = some (.slice Ao36 x270001_1.length co36) ∧ w'.cell? ⟨gb268, 0, none⟩ = some (.int .i64 x269000_1) ∧ w'.cell? ⟨gb268, 1, none⟩ = some (.slice Ao35 x269001_1.length co35) ∧ w'.cell? ⟨gb270, 0, none⟩ = some (.int .i64 t264) ∧ w'.cell? ⟨gb270, 1, none⟩ = some (.slice Ao22 t265.length co22)) ∧ (Kd.R (Kd.int .i64) 2 w' w.heap.size (fun k_ => some k_ ≠ (s_.2.1 : Value).ownBlock ∧ some k_ ≠ (.slice Ao35 x269001_1.length co35 : Value).ownBlock ∧ some k_ ≠ (.slice Ao36 x270001_1.length co36 : Value).ownBlock ∧ some k_ ≠ (.slice Ao22 t265.length co22 : Value).ownBlock) s_.1 t273) ∧ (Kd.R (Kd.int .i64) 2 w' w.heap.size (fun k_ => some k_ ≠ (s_.1 : Value).ownBlock ∧ some k_ ≠ (.slice Ao35 x269001_1.length co35 : Value).ownBlock ∧ some k_ ≠ (.slice Ao36 x270001_1.length co36 : Value).ownBlock ∧ some k_ ≠ (.slice Ao22 t265.length co22 : Value).ownBlock) s_.2.1 t277) ∧ (Kd.R (Kd.int .i64) 2 w' w.heap.size (fun k_ => some k_ ≠ (s_.1 : Value).ownBlock ∧ some k_ ≠ (s_.2.1 : Value).ownBlock ∧ some k_ ≠ (.slice Ao36 x270001_1.length co36 : Value).ownBlock ∧ some k_ ≠ (.slice Ao22 t265.length co22 : Value).ownBlock) (.slice Ao35 x269001_1.length co35) x269001_1) ∧ (Kd.R (Kd.int .i64) 2 w' w.heap.size (fun k_ => some k_ ≠ (s_.1 : Value).ownBlock ∧ some k_ ≠ (s_.2.1 : Value).ownBlock ∧ some k_ ≠ (.slice Ao35 x269001_1.length co35 : Value).ownBlock ∧ some k_ ≠ (.slice Ao22 t265.length co22 : Value).ownBlock) (.slice Ao36 x270001_1.length co36) x270001_1) ∧ (Kd.R (Kd.int .i64) 2 w' w.heap.size (fun k_ => some k_ ≠ (s_.1 : Value).ownBlock ∧ some k_ ≠ (s_.2.1 : Value).ownBlock ∧ some k_ ≠ (.slice Ao35 x269001_1.length co35 : Value).ownBlock ∧ some k_ ≠ (.slice Ao36 x270001_1.length co36 : Value).ownBlock) (.slice Ao22 t265.length co22) t265) ∧ (w'.heap[gb262]? = some (.cells #[.int .i64 a0_0, .slice A0_1 l0_1.length c0_1] 26 (0, 0))) ∧ (w'.heap[gb263]? = some (.cells #[.int .i64 0, .slice none 0 0] 26 (0, 0))) ∧ (w'.heap[gb268]? = some (.cells #[.int .i64 x269000_1, .slice Ao35 x269001_1.length co35] 26 (0, 0))) ∧ (w'.heap[gb269]? = some (.cells #[.int .i64 x270000_1, .slice Ao36 x270001_1.length co36] 26 (0, 0))) ∧ (w'.heap[gb270]? = some (.cells #[.int .i64 t264, .slice Ao22 t265.length co22] 26 (0, 0))) ∧ (w'.heap[s_.2.2]? = some (.cells #[.int .i64 0, .slice none 0 0] 26 (0, 0))) ∧ (w.heap.size ≤ s_.2.2) ∧ (w.heap.size ≤ s_.2.2) ∧ (gb262 ≠ s_.2.2) ∧ (s_.2.2 ≠ gb262) ∧ (gb263 ≠ s_.2.2) ∧ (s_.2.2 ≠ gb263) ∧ (gb268 ≠ s_.2.2) ∧ (s_.2.2 ≠ gb268) ∧ (gb269 ≠ s_.2.2) ∧ (s_.2.2 ≠ gb269) ∧ (gb270 ≠ s_.2.2) ∧ (s_.2.2 ≠ gb270) ∧ (Below w.heap.size w w')) ?_ ?_
        rotate_left
        ·intro hJ4_5_11
         refine join_ (σ := Value × Value) 4 #[true, true, true, true, true, true, true, true, true, false, false, false, false] (fun s_ => [(23, .agg #[.int .i64 t272, s_.1]), (24, .agg #[.int .i64 t276, s_.2])]) (fun s_ w' => (w'.cell? ⟨gb269, 0, none⟩ = some (.int .i64 x270000_1) ∧ w'.cell? ⟨gb269, 1, none⟩ = some (.slice Ao36 x270001_1.length co36) ∧ w'.cell? ⟨gb268, 0, none⟩ = some (.int .i64 x269000_1) ∧ w'.cell? ⟨gb268, 1, none⟩ = some (.slice Ao35 x269001_1.length co35) ∧ w'.cell? ⟨gb270, 0, none⟩ = some (.int .i64 t264) ∧ w'.cell? ⟨gb270, 1, none⟩ = some (.slice Ao22 t265.length co22)) ∧ (Kd.R (Kd.int .i64) 2 w' w.heap.size (fun k_ => some k_ ≠ (s_.2 : Value).ownBlock ∧ some k_ ≠ (.slice Ao35 x269001_1.length co35 : Value).ownBlock ∧ some k_ ≠ (.slice Ao36 x270001_1.length co36 : Value).ownBlock ∧ some k_ ≠ (.slice Ao22 t265.length co22 : Value).ownBlock) s_.1 t273) ∧ (Kd.R (Kd.int .i64) 2 w' w.heap.size (fun k_ => some k_ ≠ (s_.1 : Value).ownBlock ∧ some k_ ≠ (.slice Ao35 x269001_1.length co35 : Value).ownBlock ∧ some k_ ≠ (.slice Ao36 x270001_1.length co36 : Value).ownBlock ∧ some k_ ≠ (.slice Ao22 t265.length co22 : Value).ownBlock) s_.2 t277) ∧ (Kd.R (Kd.int .i64) 2 w' w.heap.size (fun k_ => some k_ ≠ (s_.1 : Value).ownBlock ∧ some k_ ≠ (s_.2 : Value).ownBlock ∧ some k_ ≠ (.slice Ao36 x270001_1.length co36 : Value).ownBlock ∧ some k_ ≠ (.slice Ao22 t265.length co22 : Value).ownBlock) (.slice Ao35 x269001_1.length co35) x269001_1) ∧ (Kd.R (Kd.int .i64) 2 w' w.heap.size (fun k_ => some k_ ≠ (s_.1 : Value).ownBlock ∧ some k_ ≠ (s_.2 : Value).ownBlock ∧ some k_ ≠ (.slice Ao35 x269001_1.length co35 : Value).ownBlock ∧ some k_ ≠ (.slice Ao22 t265.length co22 : Value).ownBlock) (.slice Ao36 x270001_1.length co36) x270001_1) ∧ (Kd.R (Kd.int .i64) 2 w' w.heap.size (fun k_ => some k_ ≠ (s_.1 : Value).ownBlock ∧ some k_ ≠ (s_.2 : Value).ownBlock ∧ some k_ ≠ (.slice Ao35 x269001_1.length co35 : Value).ownBlock ∧ some k_ ≠ (.slice Ao36 x270001_1.length co36 : Value).ownBlock) (.slice Ao22 t265.length co22) t265) ∧ (w'.heap[gb262]? = some (.cells #[.int .i64 a0_0, .slice A0_1 l0_1.length c0_1] 26 (0, 0))) ∧ (w'.heap[gb263]? = some (.cells #[.int .i64 0, .slice none 0 0] 26 (0, 0))) ∧ (w'.heap[gb268]? = some (.cells #[.int .i64 x269000_1, .slice Ao35 x269001_1.length co35] 26 (0, 0))) ∧ (w'.heap[gb269]? = some (.cells #[.int .i64 x270000_1, .slice Ao36 x270001_1.length co36] 26 (0, 0))) ∧ (w'.heap[gb270]? = some (.cells #[.int .i64 t264, .slice Ao22 t265.length co22] 26 (0, 0))) ∧ (Below w.heap.size w w')) ?_ ?_
         rotate_left
         ·intro hJ4_5
          refine join_ (σ := Value × Nat) 4 #[true, true, true, true, true, false, true, true, true, false, false, true, false] (fun s_ => [(23, .agg #[.int .i64 t272, s_.1]), (7, .pointer (some ⟨s_.2, 0, none⟩))]) (fun s_ w' => (w'.cell? ⟨gb269, 0, none⟩ = some (.int .i64 x270000_1) ∧ w'.cell? ⟨gb269, 1, none⟩ = some (.slice Ao36 x270001_1.length co36) ∧ w'.cell? ⟨gb268, 0, none⟩ = some (.int .i64 x269000_1) ∧ w'.cell? ⟨gb268, 1, none⟩ = some (.slice Ao35 x269001_1.length co35) ∧ w'.cell? ⟨gb270, 0, none⟩ = some (.int .i64 t264) ∧ w'.cell? ⟨gb270, 1, none⟩ = some (.slice Ao22 t265.length co22)) ∧ (Kd.R (Kd.int .i64) 2 w' w.heap.size (fun k_ => some k_ ≠ (.slice Ao35 x269001_1.length co35 : Value).ownBlock ∧ some k_ ≠ (.slice Ao36 x270001_1.length co36 : Value).ownBlock ∧ some k_ ≠ (.slice Ao22 t265.length co22 : Value).ownBlock) s_.1 t273) ∧ (Kd.R (Kd.int .i64) 2 w' w.heap.size (fun k_ => some k_ ≠ (s_.1 : Value).ownBlock ∧ some k_ ≠ (.slice Ao36 x270001_1.length co36 : Value).ownBlock ∧ some k_ ≠ (.slice Ao22 t265.length co22 : Value).ownBlock) (.slice Ao35 x269001_1.length co35) x269001_1) ∧ (Kd.R (Kd.int .i64) 2 w' w.heap.size (fun k_ => some k_ ≠ (s_.1 : Value).ownBlock ∧ some k_ ≠ (.slice Ao35 x269001_1.length co35 : Value).ownBlock ∧ some k_ ≠ (.slice Ao22 t265.length co22 : Value).ownBlock) (.slice Ao36 x270001_1.length co36) x270001_1) ∧ (Kd.R (Kd.int .i64) 2 w' w.heap.size (fun k_ => some k_ ≠ (s_.1 : Value).ownBlock ∧ some k_ ≠ (.slice Ao35 x269001_1.length co35 : Value).ownBlock ∧ some k_ ≠ (.slice Ao36 x270001_1.length co36 : Value).ownBlock) (.slice Ao22 t265.length co22) t265) ∧ (w'.heap[gb262]? = some (.cells #[.int .i64 a0_0, .slice A0_1 l0_1.length c0_1] 26 (0, 0))) ∧ (w'.heap[gb263]? = some (.cells #[.int .i64 0, .slice none 0 0] 26 (0, 0))) ∧ (w'.heap[gb268]? = some (.cells #[.int .i64 x269000_1, .slice Ao35 x269001_1.length co35] 26 (0, 0))) ∧ (w'.heap[gb269]? = some (.cells #[.int .i64 x270000_1, .slice Ao36 x270001_1.length co36] 26 (0, 0))) ∧ (w'.heap[gb270]? = some (.cells #[.int .i64 t264, .slice Ao22 t265.length co22] 26 (0, 0))) ∧ (w'.heap[s_.2]? = some (.cells #[.int .i64 0, .slice none 0 0] 26 (0, 0))) ∧ (w.heap.size ≤ s_.2) ∧ (w.heap.size ≤ s_.2) ∧ (gb262 ≠ s_.2) ∧ (s_.2 ≠ gb262) ∧ (gb263 ≠ s_.2) ∧ (s_.2 ≠ gb263) ∧ (gb268 ≠ s_.2) ∧ (s_.2 ≠ gb268) ∧ (gb269 ≠ s_.2) ∧ (s_.2 ≠ gb269) ∧ (gb270 ≠ s_.2) ∧ (s_.2 ≠ gb270) ∧ (Below w.heap.size w w')) ?_ ?_
          rotate_left
          ·intro hJ4_11
           refine join_ (σ := Value) 5 #[true, true, true, true, true, false, true, true, true, false, false, false, false] (fun s_ => [(23, .agg #[.int .i64 t272, s_])]) (fun s_ w' => (w'.cell? ⟨gb269, 0, none⟩ = some (.int .i64 x270000_1) ∧ w'.cell? ⟨gb269, 1, none⟩ = some (.slice Ao36 x270001_1.length co36) ∧ w'.cell? ⟨gb268, 0, none⟩ = some (.int .i64 x269000_1) ∧ w'.cell? ⟨gb268, 1, none⟩ = some (.slice Ao35 x269001_1.length co35) ∧ w'.cell? ⟨gb270, 0, none⟩ = some (.int .i64 t264) ∧ w'.cell? ⟨gb270, 1, none⟩ = some (.slice Ao22 t265.length co22)) ∧ (Kd.R (Kd.int .i64) 2 w' w.heap.size (fun k_ => some k_ ≠ (.slice Ao35 x269001_1.length co35 : Value).ownBlock ∧ some k_ ≠ (.slice Ao36 x270001_1.length co36 : Value).ownBlock ∧ some k_ ≠ (.slice Ao22 t265.length co22 : Value).ownBlock) s_ t273) ∧ (Kd.R (Kd.int .i64) 2 w' w.heap.size (fun k_ => some k_ ≠ (s_ : Value).ownBlock ∧ some k_ ≠ (.slice Ao36 x270001_1.length co36 : Value).ownBlock ∧ some k_ ≠ (.slice Ao22 t265.length co22 : Value).ownBlock) (.slice Ao35 x269001_1.length co35) x269001_1) ∧ (Kd.R (Kd.int .i64) 2 w' w.heap.size (fun k_ => some k_ ≠ (s_ : Value).ownBlock ∧ some k_ ≠ (.slice Ao35 x269001_1.length co35 : Value).ownBlock ∧ some k_ ≠ (.slice Ao22 t265.length co22 : Value).ownBlock) (.slice Ao36 x270001_1.length co36) x270001_1) ∧ (Kd.R (Kd.int .i64) 2 w' w.heap.size (fun k_ => some k_ ≠ (s_ : Value).ownBlock ∧ some k_ ≠ (.slice Ao35 x269001_1.length co35 : Value).ownBlock ∧ some k_ ≠ (.slice Ao36 x270001_1.length co36 : Value).ownBlock) (.slice Ao22 t265.length co22) t265) ∧ (w'.heap[gb262]? = some (.cells #[.int .i64 a0_0, .slice A0_1 l0_1.length c0_1] 26 (0, 0))) ∧ (w'.heap[gb263]? = some (.cells #[.int .i64 0, .slice none 0 0] 26 (0, 0))) ∧ (w'.heap[gb268]? = some (.cells #[.int .i64 x269000_1, .slice Ao35 x269001_1.length co35] 26 (0, 0))) ∧ (w'.heap[gb269]? = some (.cells #[.int .i64 x270000_1, .slice Ao36 x270001_1.length co36] 26 (0, 0))) ∧ (w'.heap[gb270]? = some (.cells #[.int .i64 t264, .slice Ao22 t265.length co22] 26 (0, 0))) ∧ (Below w.heap.size w w')) ?_ ?_
           rotate_left
           ·intro hJ4
            refine join_ (σ := Nat) 5 #[true, true, true, true, false, false, true, true, true, false, false, true, false] (fun s_ => [(7, .pointer (some ⟨s_, 0, none⟩))]) (fun s_ w' => (w'.cell? ⟨gb269, 0, none⟩ = some (.int .i64 x270000_1) ∧ w'.cell? ⟨gb269, 1, none⟩ = some (.slice Ao36 x270001_1.length co36) ∧ w'.cell? ⟨gb268, 0, none⟩ = some (.int .i64 x269000_1) ∧ w'.cell? ⟨gb268, 1, none⟩ = some (.slice Ao35 x269001_1.length co35) ∧ w'.cell? ⟨gb270, 0, none⟩ = some (.int .i64 t264) ∧ w'.cell? ⟨gb270, 1, none⟩ = some (.slice Ao22 t265.length co22)) ∧ (Kd.R (Kd.int .i64) 2 w' w.heap.size (fun k_ => some k_ ≠ (.slice Ao36 x270001_1.length co36 : Value).ownBlock ∧ some k_ ≠ (.slice Ao22 t265.length co22 : Value).ownBlock) (.slice Ao35 x269001_1.length co35) x269001_1) ∧ (Kd.R (Kd.int .i64) 2 w' w.heap.size (fun k_ => some k_ ≠ (.slice Ao35 x269001_1.length co35 : Value).ownBlock ∧ some k_ ≠ (.slice Ao22 t265.length co22 : Value).ownBlock) (.slice Ao36 x270001_1.length co36) x270001_1) ∧ (Kd.R (Kd.int .i64) 2 w' w.heap.size (fun k_ => some k_ ≠ (.slice Ao35 x269001_1.length co35 : Value).ownBlock ∧ some k_ ≠ (.slice Ao36 x270001_1.length co36 : Value).ownBlock) (.slice Ao22 t265.length co22) t265) ∧ (w'.heap[gb262]? = some (.cells #[.int .i64 a0_0, .slice A0_1 l0_1.length c0_1] 26 (0, 0))) ∧ (w'.heap[gb263]? = some (.cells #[.int .i64 0, .slice none 0 0] 26 (0, 0))) ∧ (w'.heap[gb268]? = some (.cells #[.int .i64 x269000_1, .slice Ao35 x269001_1.length co35] 26 (0, 0))) ∧ (w'.heap[gb269]? = some (.cells #[.int .i64 x270000_1, .slice Ao36 x270001_1.length co36] 26 (0, 0))) ∧ (w'.heap[gb270]? = some (.cells #[.int .i64 t264, .slice Ao22 t265.length co22] 26 (0, 0))) ∧ (w'.heap[s_]? = some (.cells #[.int .i64 0, .slice none 0 0] 26 (0, 0))) ∧ (w.heap.size ≤ s_) ∧ (w.heap.size ≤ s_) ∧ (gb262 ≠ s_) ∧ (s_ ≠ gb262) ∧ (gb263 ≠ s_) ∧ (s_ ≠ gb263) ∧ (gb268 ≠ s_) ∧ (s_ ≠ gb268) ∧ (gb269 ≠ s_) ∧ (s_ ≠ gb269) ∧ (gb270 ≠ s_) ∧ (s_ ≠ gb270) ∧ (Below w.heap.size w w')) ?_ ?_
            rotate_left
            ·intro hJ11
             refine two_ (i := 4) (j := 11) (Ni := some 23) (Nj := some 7) #[true, true, true, true, true, false, true, true, true, false, false, false, false] #[true, true, true, true, false, false, true, true, true, false, false, true, false] rfl rfl rfl rfl (two_of HT_.out (by kernel_rfl)) (by decide) (by decide) (fun K hK => ?_) (fun K hK => ?_)
             ·skip
              refine goes_ Tryd.func106 (by kernel_rfl) rfl #[.agg #[.int .i64 x269000_1, .slice Ao35 x269001_1.length co35], .int .i64 (wrap64 (x6_1 + 1))] (by rfl) rfl rfl ma_ ?_
              with_reducible refine (spec_l02Left.calls k1 x269000_1 _ _ x269001_1 (wrap64 (x6_1 + 1)) t272 t273 _ ?side1 ?side2 A27.out).mono ?_
              (case side1 => exact cr_ HO_269001)
              (case side2 => exact (Kd.R_reads' HO_269001.out).2.1)
              rintro e w38 ⟨v274, rfl, ho0, hb⟩
              refine ⟨_, rfl, ?_⟩
              have HO275 := am_ (Kd.R_lower (Kd.R_new' (Kd.R_new' (Kd.R_new' ho0 (Kd.R_lt (kr_ HO_269001))) (Kd.R_lt (kr_ HO_270001))) (Kd.R_lt (kr_ HO_271001))) (below_size (bl_ HB))); replace HO_269001 := am_ (Kd.R_elder' (kr_ HO_269001) (Kd.R_base ho0) hb); replace HO_270001 := am_ (Kd.R_elder' (kr_ HO_270001) (Kd.R_base ho0) hb); replace HO_271001 := am_ (Kd.R_elder' (kr_ HO_271001) (Kd.R_base ho0) hb); replace BK262 := bb_ BK262 hb; replace BK263 := bb_ BK263 hb; replace BK268 := bb_ BK268 hb; replace BK269 := bb_ BK269 hb; replace BK270 := bb_ BK270 hb; replace HB := bs_ HB hb; (try clear hb); (try clear hb2); (try clear hk); (try clear hi); (try clear ho0)
              refine hK.out _ _ ⟨bc_ BK269 0, bc_ BK269 1, bc_ BK268 0, bc_ BK268 1, bc_ BK270 0, bc_ BK270 1⟩ (fun hHeld => ?_)
              clear hK K
              refine nr_ ?_
              exact norm_ (by first | (simp only [putAll, Act.put, List.setIfInBounds_toArray, List.set_cons_zero, List.set_cons_succ]; done) | (simp only [putAll, Act.put, List.setIfInBounds_toArray, List.set_cons_zero, List.set_cons_succ]; rfl)) (hJ4 (v274) _ ⟨hHeld, (km_ HO275 (fun _ hk => ⟨hk.1.1.2, ⟨hk.1.2, hk.2⟩⟩)), (km_ HO_269001 (fun _ hk => ⟨hk.2, ⟨hk.1.1, hk.1.2⟩⟩)), (km_ HO_270001 (fun _ hk => ⟨hk.2, ⟨hk.1.1, hk.1.2⟩⟩)), (km_ HO_271001 (fun _ hk => ⟨hk.2, ⟨hk.1.1, hk.1.2⟩⟩)), (bk_ BK262), (bk_ BK263), (bk_ BK268), (bk_ BK269), (bk_ BK270), (bl_ HB)⟩)
             ·skip
              refine box_step ?hg (N := 7) ?hd (cs := #[.int .i64 0, .slice none 0 0]) (t := 26) ?hr ?_; (case hd => rfl); (case hg => rfl); (case hr => first | (go_simp; done) | (go_simp; rfl))
              intro gb288 hg w38 hbox hb
              replace HO_269001 := am_ (Kd.R_below (kr_ HO_269001) hb); replace HO_270001 := am_ (Kd.R_below (kr_ HO_270001) hb); replace HO_271001 := am_ (Kd.R_below (kr_ HO_271001) hb); obtain ⟨BK288, GW288, GE288⟩ := nb_ hbox hg HB; replace HB := bs_ HB hb; obtain ⟨NB262_288, NB288_262⟩ := nn_ hg BK262; replace BK262 := bb_ BK262 hb; obtain ⟨NB263_288, NB288_263⟩ := nn_ hg BK263; replace BK263 := bb_ BK263 hb; obtain ⟨NB268_288, NB288_268⟩ := nn_ hg BK268; replace BK268 := bb_ BK268 hb; obtain ⟨NB269_288, NB288_269⟩ := nn_ hg BK269; replace BK269 := bb_ BK269 hb; obtain ⟨NB270_288, NB288_270⟩ := nn_ hg BK270; replace BK270 := bb_ BK270 hb; clear hb hbox hg
              refine hK.out _ _ ⟨bc_ BK269 0, bc_ BK269 1, bc_ BK268 0, bc_ BK268 1, bc_ BK270 0, bc_ BK270 1⟩ (fun hHeld => ?_)
              clear hK K
              refine nr_ ?_
              exact norm_ (by first | (simp only [putAll, Act.put, List.setIfInBounds_toArray, List.set_cons_zero, List.set_cons_succ]; done) | (simp only [putAll, Act.put, List.setIfInBounds_toArray, List.set_cons_zero, List.set_cons_succ]; rfl)) (hJ11 (gb288) _ ⟨hHeld, (kr_ HO_269001), (kr_ HO_270001), (kr_ HO_271001), (bk_ BK262), (bk_ BK263), (bk_ BK268), (bk_ BK269), (bk_ BK270), (bk_ BK288), GW288.out, GE288.out, NB262_288.out, NB288_262.out, NB263_288.out, NB288_263.out, NB268_288.out, NB288_268.out, NB269_288.out, NB288_269.out, NB270_288.out, NB288_270.out, (bl_ HB)⟩)
            ·skip
             rintro gb288 w39 ⟨hS_, h0_, h1_, h2_, h3_, h4_, h5_, h6_, h7_, h8_, h9_, h10_, h11_, h12_, h13_, h14_, h15_, h16_, h17_, h18_, h19_, h20_, h21_⟩
             try dsimp only at hS_ h0_ h1_ h2_ h3_ h4_ h5_ h6_ h7_ h8_ h9_ h10_ h11_ h12_ h13_ h14_ h15_ h16_ h17_ h18_ h19_ h20_ h21_
             have n0_ := am_ h0_
             have n1_ := am_ h1_
             have n2_ := am_ h2_
             have n3_ := am_ h3_
             have n4_ := am_ h4_
             have n5_ := am_ h5_
             have n6_ := am_ h6_
             have n7_ := am_ h7_
             have n8_ := am_ h8_
             have n9_ := am_ h9_
             have n10_ := am_ h10_
             have n11_ := am_ h11_
             have n12_ := am_ h12_
             have n13_ := am_ h13_
             have n14_ := am_ h14_
             have n15_ := am_ h15_
             have n16_ := am_ h16_
             have n17_ := am_ h17_
             have n18_ := am_ h18_
             have n19_ := am_ h19_
             have n20_ := am_ h20_
             have n21_ := am_ h21_
             clear HO_269001 HO_270001 HO_271001 BK262 BK263 BK268 BK269 BK270 HB h0_ h1_ h2_ h3_ h4_ h5_ h6_ h7_ h8_ h9_ h10_ h11_ h12_ h13_ h14_ h15_ h16_ h17_ h18_ h19_ h20_ h21_; have HO_269001 := n0_; have HO_270001 := n1_; have HO_271001 := n2_; have BK262 := n3_; have BK263 := n4_; have BK268 := n5_; have BK269 := n6_; have BK270 := n7_; have BK288 := n8_; have GW288 := n9_; have GE288 := n10_; have NB262_288 := n11_; have NB288_262 := n12_; have NB263_288 := n13_; have NB288_263 := n14_; have NB268_288 := n15_; have NB288_268 := n16_; have NB269_288 := n17_; have NB288_269 := n18_; have NB270_288 := n19_; have NB288_270 := n20_; have HB := n21_; clear n0_ n1_ n2_ n3_ n4_ n5_ n6_ n7_ n8_ n9_ n10_ n11_ n12_ n13_ n14_ n15_ n16_ n17_ n18_ n19_ n20_ n21_
             have hHeld : w39.cell? ⟨gb269, 0, none⟩ = some (.int .i64 x270000_1) ∧ w39.cell? ⟨gb269, 1, none⟩ = some (.slice Ao36 x270001_1.length co36) ∧ w39.cell? ⟨gb268, 0, none⟩ = some (.int .i64 x269000_1) ∧ w39.cell? ⟨gb268, 1, none⟩ = some (.slice Ao35 x269001_1.length co35) ∧ w39.cell? ⟨gb270, 0, none⟩ = some (.int .i64 t264) ∧ w39.cell? ⟨gb270, 1, none⟩ = some (.slice Ao22 t265.length co22) := hS_
             refine norm_ (a' := ?_) ?_ ?_
             rotate_left
             ·simp only [putAll, Act.put, List.setIfInBounds_toArray, List.set_cons_zero, List.set_cons_succ]
              rfl
             refine one_ (i := 4) (N := some 23) #[true, true, true, true, true, false, true, true, true, false, false, true, false] rfl rfl (one_of HT_.out (by kernel_rfl)) (by decide) (fun K hK => ?_)
             refine goes_ Tryd.func106 (by kernel_rfl) rfl #[.agg #[.int .i64 x269000_1, .slice Ao35 x269001_1.length co35], .int .i64 (wrap64 (x6_1 + 1))] (by rfl) rfl rfl ma_ ?_
             with_reducible refine (spec_l02Left.calls k1 x269000_1 _ _ x269001_1 (wrap64 (x6_1 + 1)) t272 t273 _ ?side1 ?side2 A27.out).mono ?_
             (case side1 => exact cr_ HO_269001)
             (case side2 => exact (Kd.R_reads' HO_269001.out).2.1)
             rintro e w40 ⟨v274, rfl, ho0, hb⟩
             refine ⟨_, rfl, ?_⟩
             have HO275 := am_ (Kd.R_lower (Kd.R_new' (Kd.R_new' (Kd.R_new' ho0 (Kd.R_lt (kr_ HO_269001))) (Kd.R_lt (kr_ HO_270001))) (Kd.R_lt (kr_ HO_271001))) (below_size (bl_ HB))); replace HO_269001 := am_ (Kd.R_elder' (kr_ HO_269001) (Kd.R_base ho0) hb); replace HO_270001 := am_ (Kd.R_elder' (kr_ HO_270001) (Kd.R_base ho0) hb); replace HO_271001 := am_ (Kd.R_elder' (kr_ HO_271001) (Kd.R_base ho0) hb); replace BK262 := bb_ BK262 hb; replace BK263 := bb_ BK263 hb; replace BK268 := bb_ BK268 hb; replace BK269 := bb_ BK269 hb; replace BK270 := bb_ BK270 hb; replace BK288 := bb_ BK288 hb; replace HB := bs_ HB hb; (try clear hb); (try clear hb2); (try clear hk); (try clear hi); (try clear ho0)
             refine hK.out _ _ ⟨bc_ BK269 0, bc_ BK269 1, bc_ BK268 0, bc_ BK268 1, bc_ BK270 0, bc_ BK270 1⟩ (fun hHeld => ?_)
             clear hK K
             refine nr_ ?_
             exact norm_ (by first | (simp only [putAll, Act.put, List.setIfInBounds_toArray, List.set_cons_zero, List.set_cons_succ]; done) | (simp only [putAll, Act.put, List.setIfInBounds_toArray, List.set_cons_zero, List.set_cons_succ]; rfl)) (hJ4_11 (v274, gb288) _ ⟨hHeld, (km_ HO275 (fun _ hk => ⟨hk.1.1.2, ⟨hk.1.2, hk.2⟩⟩)), (km_ HO_269001 (fun _ hk => ⟨hk.2, ⟨hk.1.1, hk.1.2⟩⟩)), (km_ HO_270001 (fun _ hk => ⟨hk.2, ⟨hk.1.1, hk.1.2⟩⟩)), (km_ HO_271001 (fun _ hk => ⟨hk.2, ⟨hk.1.1, hk.1.2⟩⟩)), (bk_ BK262), (bk_ BK263), (bk_ BK268), (bk_ BK269), (bk_ BK270), (bk_ BK288), GW288.out, GE288.out, NB262_288.out, NB288_262.out, NB263_288.out, NB288_263.out, NB268_288.out, NB288_268.out, NB269_288.out, NB288_269.out, NB270_288.out, NB288_270.out, (bl_ HB)⟩)
           ·skip
            rintro v274 w39 ⟨hS_, h0_, h1_, h2_, h3_, h4_, h5_, h6_, h7_, h8_, h9_⟩
            try dsimp only at hS_ h0_ h1_ h2_ h3_ h4_ h5_ h6_ h7_ h8_ h9_
            have n0_ := am_ h0_
            have n1_ := am_ h1_
            have n2_ := am_ h2_
            have n3_ := am_ h3_
            have n4_ := am_ h4_
            have n5_ := am_ h5_
            have n6_ := am_ h6_
            have n7_ := am_ h7_
            have n8_ := am_ h8_
            have n9_ := am_ h9_
            clear HO_269001 HO_270001 HO_271001 BK262 BK263 BK268 BK269 BK270 HB h0_ h1_ h2_ h3_ h4_ h5_ h6_ h7_ h8_ h9_; have HO275 := n0_; have HO_269001 := n1_; have HO_270001 := n2_; have HO_271001 := n3_; have BK262 := n4_; have BK263 := n5_; have BK268 := n6_; have BK269 := n7_; have BK270 := n8_; have HB := n9_; clear n0_ n1_ n2_ n3_ n4_ n5_ n6_ n7_ n8_ n9_
            have hHeld : w39.cell? ⟨gb269, 0, none⟩ = some (.int .i64 x270000_1) ∧ w39.cell? ⟨gb269, 1, none⟩ = some (.slice Ao36 x270001_1.length co36) ∧ w39.cell? ⟨gb268, 0, none⟩ = some (.int .i64 x269000_1) ∧ w39.cell? ⟨gb268, 1, none⟩ = some (.slice Ao35 x269001_1.length co35) ∧ w39.cell? ⟨gb270, 0, none⟩ = some (.int .i64 t264) ∧ w39.cell? ⟨gb270, 1, none⟩ = some (.slice Ao22 t265.length co22) := hS_
            obtain ⟨Ao40, co40, eo40⟩ := Kd.R_slice HO275.out
            (first | subst eo40 | (injection eo40 with f1_ f2_ f3_; have f4_ := f1_.symm; have f5_ := f3_.symm; clear f1_ f2_ f3_; subst f4_; subst f5_))
            refine norm_ (a' := ?_) ?_ ?_
            rotate_left
            ·simp only [putAll, Act.put, List.setIfInBounds_toArray, List.set_cons_zero, List.set_cons_succ]
             rfl
            refine two_ (i := 5) (j := 11) (Ni := some 24) (Nj := some 7) #[true, true, true, true, true, true, true, true, true, false, false, false, false] #[true, true, true, true, true, false, true, true, true, false, false, true, false] rfl rfl rfl rfl (two_of HT_.out (by kernel_rfl)) (by decide) (by decide) (fun K hK => ?_) (fun K hK => ?_)
            ·skip
             refine goes_ Tryd.func105 (by kernel_rfl) rfl #[.agg #[.int .i64 x270000_1, .slice Ao36 x270001_1.length co36], .agg #[.int .i64 t272, .slice Ao40 t273.length co40]] (by rfl) rfl rfl ma_ ?_
             with_reducible refine (spec_l02Add.calls k1 x270000_1 _ _ x270001_1 t272 _ _ t273 t276 t277 _ ?side1 ?side2 ?side3 ?side4 A28.out).mono ?_
             (case side1 => exact cr_ HO_270001)
             (case side2 => exact (Kd.R_reads' HO_270001.out).2.1)
             (case side3 => exact cr_ HO275)
             (case side4 => exact (Kd.R_reads' HO275.out).2.1)
             rintro e w41 ⟨v278, rfl, ho0, hb⟩
             refine ⟨_, rfl, ?_⟩
             have HO279 := am_ (Kd.R_lower (Kd.R_new' (Kd.R_new' (Kd.R_new' (Kd.R_new' ho0 (Kd.R_lt (kr_ HO_269001))) (Kd.R_lt (kr_ HO_270001))) (Kd.R_lt (kr_ HO_271001))) (Kd.R_lt (kr_ HO275))) (below_size (bl_ HB))); replace HO_269001 := am_ (Kd.R_elder' (kr_ HO_269001) (Kd.R_base ho0) hb); replace HO_270001 := am_ (Kd.R_elder' (kr_ HO_270001) (Kd.R_base ho0) hb); replace HO_271001 := am_ (Kd.R_elder' (kr_ HO_271001) (Kd.R_base ho0) hb); replace HO275 := am_ (Kd.R_elder' (kr_ HO275) (Kd.R_base ho0) hb); replace BK262 := bb_ BK262 hb; replace BK263 := bb_ BK263 hb; replace BK268 := bb_ BK268 hb; replace BK269 := bb_ BK269 hb; replace BK270 := bb_ BK270 hb; replace HB := bs_ HB hb; (try clear hb); (try clear hb2); (try clear hk); (try clear hi); (try clear ho0)
             refine hK.out _ _ ⟨bc_ BK269 0, bc_ BK269 1, bc_ BK268 0, bc_ BK268 1, bc_ BK270 0, bc_ BK270 1⟩ (fun hHeld => ?_)
             clear hK K
             refine nr_ ?_
             exact norm_ (by first | (simp only [putAll, Act.put, List.setIfInBounds_toArray, List.set_cons_zero, List.set_cons_succ]; done) | (simp only [putAll, Act.put, List.setIfInBounds_toArray, List.set_cons_zero, List.set_cons_succ]; rfl)) (hJ4_5 (.slice Ao40 t273.length co40, v278) _ ⟨hHeld, (km_ HO275 (fun _ hk => ⟨hk.2, ⟨hk.1.1, ⟨hk.1.2.1, hk.1.2.2⟩⟩⟩)), (km_ HO279 (fun _ hk => ⟨hk.2, ⟨hk.1.1.1.2, ⟨hk.1.1.2, hk.1.2⟩⟩⟩)), (km_ HO_269001 (fun _ hk => ⟨hk.1.1, ⟨hk.2, ⟨hk.1.2.1, hk.1.2.2⟩⟩⟩)), (km_ HO_270001 (fun _ hk => ⟨hk.1.1, ⟨hk.2, ⟨hk.1.2.1, hk.1.2.2⟩⟩⟩)), (km_ HO_271001 (fun _ hk => ⟨hk.1.1, ⟨hk.2, ⟨hk.1.2.1, hk.1.2.2⟩⟩⟩)), (bk_ BK262), (bk_ BK263), (bk_ BK268), (bk_ BK269), (bk_ BK270), (bl_ HB)⟩)
            ·skip
             refine box_step ?hg (N := 7) ?hd (cs := #[.int .i64 0, .slice none 0 0]) (t := 26) ?hr ?_; (case hd => rfl); (case hg => rfl); (case hr => first | (go_simp; done) | (go_simp; rfl))
             intro gb288 hg w40 hbox hb
             replace HO_269001 := am_ (Kd.R_below (kr_ HO_269001) hb); replace HO_270001 := am_ (Kd.R_below (kr_ HO_270001) hb); replace HO_271001 := am_ (Kd.R_below (kr_ HO_271001) hb); replace HO275 := am_ (Kd.R_below (kr_ HO275) hb); obtain ⟨BK288, GW288, GE288⟩ := nb_ hbox hg HB; replace HB := bs_ HB hb; obtain ⟨NB262_288, NB288_262⟩ := nn_ hg BK262; replace BK262 := bb_ BK262 hb; obtain ⟨NB263_288, NB288_263⟩ := nn_ hg BK263; replace BK263 := bb_ BK263 hb; obtain ⟨NB268_288, NB288_268⟩ := nn_ hg BK268; replace BK268 := bb_ BK268 hb; obtain ⟨NB269_288, NB288_269⟩ := nn_ hg BK269; replace BK269 := bb_ BK269 hb; obtain ⟨NB270_288, NB288_270⟩ := nn_ hg BK270; replace BK270 := bb_ BK270 hb; clear hb hbox hg
             refine hK.out _ _ ⟨bc_ BK269 0, bc_ BK269 1, bc_ BK268 0, bc_ BK268 1, bc_ BK270 0, bc_ BK270 1⟩ (fun hHeld => ?_)
             clear hK K
             refine nr_ ?_
             exact norm_ (by first | (simp only [putAll, Act.put, List.setIfInBounds_toArray, List.set_cons_zero, List.set_cons_succ]; done) | (simp only [putAll, Act.put, List.setIfInBounds_toArray, List.set_cons_zero, List.set_cons_succ]; rfl)) (hJ4_11 (.slice Ao40 t273.length co40, gb288) _ ⟨hHeld, (kr_ HO275), (kr_ HO_269001), (kr_ HO_270001), (kr_ HO_271001), (bk_ BK262), (bk_ BK263), (bk_ BK268), (bk_ BK269), (bk_ BK270), (bk_ BK288), GW288.out, GE288.out, NB262_288.out, NB288_262.out, NB263_288.out, NB288_263.out, NB268_288.out, NB288_268.out, NB269_288.out, NB288_269.out, NB270_288.out, NB288_270.out, (bl_ HB)⟩)
          ·skip
           rintro ⟨v274, gb288⟩ w40 ⟨hS_, h0_, h1_, h2_, h3_, h4_, h5_, h6_, h7_, h8_, h9_, h10_, h11_, h12_, h13_, h14_, h15_, h16_, h17_, h18_, h19_, h20_, h21_, h22_⟩
           try dsimp only at hS_ h0_ h1_ h2_ h3_ h4_ h5_ h6_ h7_ h8_ h9_ h10_ h11_ h12_ h13_ h14_ h15_ h16_ h17_ h18_ h19_ h20_ h21_ h22_
           have n0_ := am_ h0_
           have n1_ := am_ h1_
           have n2_ := am_ h2_
           have n3_ := am_ h3_
           have n4_ := am_ h4_
           have n5_ := am_ h5_
           have n6_ := am_ h6_
           have n7_ := am_ h7_
           have n8_ := am_ h8_
           have n9_ := am_ h9_
           have n10_ := am_ h10_
           have n11_ := am_ h11_
           have n12_ := am_ h12_
           have n13_ := am_ h13_
           have n14_ := am_ h14_
           have n15_ := am_ h15_
           have n16_ := am_ h16_
           have n17_ := am_ h17_
           have n18_ := am_ h18_
           have n19_ := am_ h19_
           have n20_ := am_ h20_
           have n21_ := am_ h21_
           have n22_ := am_ h22_
           clear HO_269001 HO_270001 HO_271001 BK262 BK263 BK268 BK269 BK270 HB h0_ h1_ h2_ h3_ h4_ h5_ h6_ h7_ h8_ h9_ h10_ h11_ h12_ h13_ h14_ h15_ h16_ h17_ h18_ h19_ h20_ h21_ h22_; have HO275 := n0_; have HO_269001 := n1_; have HO_270001 := n2_; have HO_271001 := n3_; have BK262 := n4_; have BK263 := n5_; have BK268 := n6_; have BK269 := n7_; have BK270 := n8_; have BK288 := n9_; have GW288 := n10_; have GE288 := n11_; have NB262_288 := n12_; have NB288_262 := n13_; have NB263_288 := n14_; have NB288_263 := n15_; have NB268_288 := n16_; have NB288_268 := n17_; have NB269_288 := n18_; have NB288_269 := n19_; have NB270_288 := n20_; have NB288_270 := n21_; have HB := n22_; clear n0_ n1_ n2_ n3_ n4_ n5_ n6_ n7_ n8_ n9_ n10_ n11_ n12_ n13_ n14_ n15_ n16_ n17_ n18_ n19_ n20_ n21_ n22_
           have hHeld : w40.cell? ⟨gb269, 0, none⟩ = some (.int .i64 x270000_1) ∧ w40.cell? ⟨gb269, 1, none⟩ = some (.slice Ao36 x270001_1.length co36) ∧ w40.cell? ⟨gb268, 0, none⟩ = some (.int .i64 x269000_1) ∧ w40.cell? ⟨gb268, 1, none⟩ = some (.slice Ao35 x269001_1.length co35) ∧ w40.cell? ⟨gb270, 0, none⟩ = some (.int .i64 t264) ∧ w40.cell? ⟨gb270, 1, none⟩ = some (.slice Ao22 t265.length co22) := hS_
           obtain ⟨Ao41, co41, eo41⟩ := Kd.R_slice HO275.out
           (first | subst eo41 | (injection eo41 with f1_ f2_ f3_; have f4_ := f1_.symm; have f5_ := f3_.symm; clear f1_ f2_ f3_; subst f4_; subst f5_))
           refine norm_ (a' := ?_) ?_ ?_
           rotate_left
           ·simp only [putAll, Act.put, List.setIfInBounds_toArray, List.set_cons_zero, List.set_cons_succ]
            rfl
           refine one_ (i := 5) (N := some 24) #[true, true, true, true, true, true, true, true, true, false, false, true, false] rfl rfl (one_of HT_.out (by kernel_rfl)) (by decide) (fun K hK => ?_)
           refine goes_ Tryd.func105 (by kernel_rfl) rfl #[.agg #[.int .i64 x270000_1, .slice Ao36 x270001_1.length co36], .agg #[.int .i64 t272, .slice Ao41 t273.length co41]] (by rfl) rfl rfl ma_ ?_
           with_reducible refine (spec_l02Add.calls k1 x270000_1 _ _ x270001_1 t272 _ _ t273 t276 t277 _ ?side1 ?side2 ?side3 ?side4 A28.out).mono ?_
           (case side1 => exact cr_ HO_270001)
           (case side2 => exact (Kd.R_reads' HO_270001.out).2.1)
           (case side3 => exact cr_ HO275)
           (case side4 => exact (Kd.R_reads' HO275.out).2.1)
           rintro e w42 ⟨v278, rfl, ho0, hb⟩
           refine ⟨_, rfl, ?_⟩
           have HO279 := am_ (Kd.R_lower (Kd.R_new' (Kd.R_new' (Kd.R_new' (Kd.R_new' ho0 (Kd.R_lt (kr_ HO_269001))) (Kd.R_lt (kr_ HO_270001))) (Kd.R_lt (kr_ HO_271001))) (Kd.R_lt (kr_ HO275))) (below_size (bl_ HB))); replace HO_269001 := am_ (Kd.R_elder' (kr_ HO_269001) (Kd.R_base ho0) hb); replace HO_270001 := am_ (Kd.R_elder' (kr_ HO_270001) (Kd.R_base ho0) hb); replace HO_271001 := am_ (Kd.R_elder' (kr_ HO_271001) (Kd.R_base ho0) hb); replace HO275 := am_ (Kd.R_elder' (kr_ HO275) (Kd.R_base ho0) hb); replace BK262 := bb_ BK262 hb; replace BK263 := bb_ BK263 hb; replace BK268 := bb_ BK268 hb; replace BK269 := bb_ BK269 hb; replace BK270 := bb_ BK270 hb; replace BK288 := bb_ BK288 hb; replace HB := bs_ HB hb; (try clear hb); (try clear hb2); (try clear hk); (try clear hi); (try clear ho0)
           refine hK.out _ _ ⟨bc_ BK269 0, bc_ BK269 1, bc_ BK268 0, bc_ BK268 1, bc_ BK270 0, bc_ BK270 1⟩ (fun hHeld => ?_)
           clear hK K
           refine nr_ ?_
           exact norm_ (by first | (simp only [putAll, Act.put, List.setIfInBounds_toArray, List.set_cons_zero, List.set_cons_succ]; done) | (simp only [putAll, Act.put, List.setIfInBounds_toArray, List.set_cons_zero, List.set_cons_succ]; rfl)) (hJ4_5_11 (.slice Ao41 t273.length co41, v278, gb288) _ ⟨hHeld, (km_ HO275 (fun _ hk => ⟨hk.2, ⟨hk.1.1, ⟨hk.1.2.1, hk.1.2.2⟩⟩⟩)), (km_ HO279 (fun _ hk => ⟨hk.2, ⟨hk.1.1.1.2, ⟨hk.1.1.2, hk.1.2⟩⟩⟩)), (km_ HO_269001 (fun _ hk => ⟨hk.1.1, ⟨hk.2, ⟨hk.1.2.1, hk.1.2.2⟩⟩⟩)), (km_ HO_270001 (fun _ hk => ⟨hk.1.1, ⟨hk.2, ⟨hk.1.2.1, hk.1.2.2⟩⟩⟩)), (km_ HO_271001 (fun _ hk => ⟨hk.1.1, ⟨hk.2, ⟨hk.1.2.1, hk.1.2.2⟩⟩⟩)), (bk_ BK262), (bk_ BK263), (bk_ BK268), (bk_ BK269), (bk_ BK270), (bk_ BK288), GW288.out, GE288.out, NB262_288.out, NB288_262.out, NB263_288.out, NB288_263.out, NB268_288.out, NB288_268.out, NB269_288.out, NB288_269.out, NB270_288.out, NB288_270.out, (bl_ HB)⟩)
         ·skip
          rintro ⟨v274, v278⟩ w41 ⟨hS_, h0_, h1_, h2_, h3_, h4_, h5_, h6_, h7_, h8_, h9_, h10_⟩
          try dsimp only at hS_ h0_ h1_ h2_ h3_ h4_ h5_ h6_ h7_ h8_ h9_ h10_
          have n0_ := am_ h0_
          have n1_ := am_ h1_
          have n2_ := am_ h2_
          have n3_ := am_ h3_
          have n4_ := am_ h4_
          have n5_ := am_ h5_
          have n6_ := am_ h6_
          have n7_ := am_ h7_
          have n8_ := am_ h8_
          have n9_ := am_ h9_
          have n10_ := am_ h10_
          clear HO_269001 HO_270001 HO_271001 BK262 BK263 BK268 BK269 BK270 HB h0_ h1_ h2_ h3_ h4_ h5_ h6_ h7_ h8_ h9_ h10_; have HO275 := n0_; have HO279 := n1_; have HO_269001 := n2_; have HO_270001 := n3_; have HO_271001 := n4_; have BK262 := n5_; have BK263 := n6_; have BK268 := n7_; have BK269 := n8_; have BK270 := n9_; have HB := n10_; clear n0_ n1_ n2_ n3_ n4_ n5_ n6_ n7_ n8_ n9_ n10_
          have hHeld : w41.cell? ⟨gb269, 0, none⟩ = some (.int .i64 x270000_1) ∧ w41.cell? ⟨gb269, 1, none⟩ = some (.slice Ao36 x270001_1.length co36) ∧ w41.cell? ⟨gb268, 0, none⟩ = some (.int .i64 x269000_1) ∧ w41.cell? ⟨gb268, 1, none⟩ = some (.slice Ao35 x269001_1.length co35) ∧ w41.cell? ⟨gb270, 0, none⟩ = some (.int .i64 t264) ∧ w41.cell? ⟨gb270, 1, none⟩ = some (.slice Ao22 t265.length co22) := hS_
          refine norm_ (a' := ?_) ?_ ?_
          rotate_left
          ·simp only [putAll, Act.put, List.setIfInBounds_toArray, List.set_cons_zero, List.set_cons_succ]
           rfl
          refine two_ (i := 9) (j := 11) (Ni := some 28) (Nj := some 7) #[true, true, true, true, true, true, true, true, true, true, false, false, false] #[true, true, true, true, true, true, true, true, true, false, false, true, false] rfl rfl rfl rfl (two_of HT_.out (by kernel_rfl)) (by decide) (by decide) (fun K hK => ?_) (fun K hK => ?_)
          ·skip
           refine goes_ Tryd.func106 (by kernel_rfl) rfl #[.agg #[.int .i64 t264, .slice Ao22 t265.length co22], .int .i64 (wrap64 (2 * x6_1))] (by rfl) rfl rfl ma_ ?_
           with_reducible refine (spec_l02Left.calls k1 t264 _ _ t265 (wrap64 (2 * x6_1)) t280 t281 _ ?side1 ?side2 A29.out).mono ?_
           (case side1 => exact cr_ HO_271001)
           (case side2 => exact (Kd.R_reads' HO_271001.out).2.1)
           rintro e w42 ⟨v282, rfl, ho0, hb⟩
           refine ⟨_, rfl, ?_⟩
           have HO283 := am_ (Kd.R_lower (Kd.R_new' (Kd.R_new' (Kd.R_new' (Kd.R_new' (Kd.R_new' ho0 (Kd.R_lt (kr_ HO_269001))) (Kd.R_lt (kr_ HO_270001))) (Kd.R_lt (kr_ HO_271001))) (Kd.R_lt (kr_ HO275))) (Kd.R_lt (kr_ HO279))) (below_size (bl_ HB))); replace HO_269001 := am_ (Kd.R_elder' (kr_ HO_269001) (Kd.R_base ho0) hb); replace HO_270001 := am_ (Kd.R_elder' (kr_ HO_270001) (Kd.R_base ho0) hb); replace HO_271001 := am_ (Kd.R_elder' (kr_ HO_271001) (Kd.R_base ho0) hb); replace HO275 := am_ (Kd.R_elder' (kr_ HO275) (Kd.R_base ho0) hb); replace HO279 := am_ (Kd.R_elder' (kr_ HO279) (Kd.R_base ho0) hb); replace BK262 := bb_ BK262 hb; replace BK263 := bb_ BK263 hb; replace BK268 := bb_ BK268 hb; replace BK269 := bb_ BK269 hb; replace BK270 := bb_ BK270 hb; replace HB := bs_ HB hb; (try clear hb); (try clear hb2); (try clear hk); (try clear hi); (try clear ho0)
           refine hK.out _ _ ⟨bc_ BK269 0, bc_ BK269 1, bc_ BK268 0, bc_ BK268 1, bc_ BK270 0, bc_ BK270 1⟩ (fun hHeld => ?_)
           clear hK K
           refine nr_ ?_
           exact norm_ (by first | (simp only [putAll, Act.put, List.setIfInBounds_toArray, List.set_cons_zero, List.set_cons_succ]; done) | (simp only [putAll, Act.put, List.setIfInBounds_toArray, List.set_cons_zero, List.set_cons_succ]; rfl)) (hJ4_5_9 (v274, v278, v282) _ ⟨hHeld, (km_ HO275 (fun _ hk => ⟨hk.1.1, ⟨hk.2, ⟨hk.1.2.1, ⟨hk.1.2.2.1, hk.1.2.2.2⟩⟩⟩⟩)), (km_ HO279 (fun _ hk => ⟨hk.1.1, ⟨hk.2, ⟨hk.1.2.1, ⟨hk.1.2.2.1, hk.1.2.2.2⟩⟩⟩⟩)), (km_ HO283 (fun _ hk => ⟨hk.1.2, ⟨hk.2, ⟨hk.1.1.1.1.2, ⟨hk.1.1.1.2, hk.1.1.2⟩⟩⟩⟩)), (km_ HO_269001 (fun _ hk => ⟨hk.1.1, ⟨hk.1.2.1, ⟨hk.2, ⟨hk.1.2.2.1, hk.1.2.2.2⟩⟩⟩⟩)), (km_ HO_270001 (fun _ hk => ⟨hk.1.1, ⟨hk.1.2.1, ⟨hk.2, ⟨hk.1.2.2.1, hk.1.2.2.2⟩⟩⟩⟩)), (km_ HO_271001 (fun _ hk => ⟨hk.1.1, ⟨hk.1.2.1, ⟨hk.2, ⟨hk.1.2.2.1, hk.1.2.2.2⟩⟩⟩⟩)), (bk_ BK262), (bk_ BK263), (bk_ BK268), (bk_ BK269), (bk_ BK270), (bl_ HB)⟩)
          ·skip
           refine box_step ?hg (N := 7) ?hd (cs := #[.int .i64 0, .slice none 0 0]) (t := 26) ?hr ?_; (case hd => rfl); (case hg => rfl); (case hr => first | (go_simp; done) | (go_simp; rfl))
           intro gb288 hg w42 hbox hb
           replace HO_269001 := am_ (Kd.R_below (kr_ HO_269001) hb); replace HO_270001 := am_ (Kd.R_below (kr_ HO_270001) hb); replace HO_271001 := am_ (Kd.R_below (kr_ HO_271001) hb); replace HO275 := am_ (Kd.R_below (kr_ HO275) hb); replace HO279 := am_ (Kd.R_below (kr_ HO279) hb); obtain ⟨BK288, GW288, GE288⟩ := nb_ hbox hg HB; replace HB := bs_ HB hb; obtain ⟨NB262_288, NB288_262⟩ := nn_ hg BK262; replace BK262 := bb_ BK262 hb; obtain ⟨NB263_288, NB288_263⟩ := nn_ hg BK263; replace BK263 := bb_ BK263 hb; obtain ⟨NB268_288, NB288_268⟩ := nn_ hg BK268; replace BK268 := bb_ BK268 hb; obtain ⟨NB269_288, NB288_269⟩ := nn_ hg BK269; replace BK269 := bb_ BK269 hb; obtain ⟨NB270_288, NB288_270⟩ := nn_ hg BK270; replace BK270 := bb_ BK270 hb; clear hb hbox hg
           refine hK.out _ _ ⟨bc_ BK269 0, bc_ BK269 1, bc_ BK268 0, bc_ BK268 1, bc_ BK270 0, bc_ BK270 1⟩ (fun hHeld => ?_)
           clear hK K
           refine nr_ ?_
           exact norm_ (by first | (simp only [putAll, Act.put, List.setIfInBounds_toArray, List.set_cons_zero, List.set_cons_succ]; done) | (simp only [putAll, Act.put, List.setIfInBounds_toArray, List.set_cons_zero, List.set_cons_succ]; rfl)) (hJ4_5_11 (v274, v278, gb288) _ ⟨hHeld, (kr_ HO275), (kr_ HO279), (kr_ HO_269001), (kr_ HO_270001), (kr_ HO_271001), (bk_ BK262), (bk_ BK263), (bk_ BK268), (bk_ BK269), (bk_ BK270), (bk_ BK288), GW288.out, GE288.out, NB262_288.out, NB288_262.out, NB263_288.out, NB288_263.out, NB268_288.out, NB288_268.out, NB269_288.out, NB288_269.out, NB270_288.out, NB288_270.out, (bl_ HB)⟩)
        ·skip
         rintro ⟨v274, v278, gb288⟩ w42 ⟨hS_, h0_, h1_, h2_, h3_, h4_, h5_, h6_, h7_, h8_, h9_, h10_, h11_, h12_, h13_, h14_, h15_, h16_, h17_, h18_, h19_, h20_, h21_, h22_, h23_⟩
         try dsimp only at hS_ h0_ h1_ h2_ h3_ h4_ h5_ h6_ h7_ h8_ h9_ h10_ h11_ h12_ h13_ h14_ h15_ h16_ h17_ h18_ h19_ h20_ h21_ h22_ h23_
         have n0_ := am_ h0_
         have n1_ := am_ h1_
         have n2_ := am_ h2_
         have n3_ := am_ h3_
         have n4_ := am_ h4_
         have n5_ := am_ h5_
         have n6_ := am_ h6_
         have n7_ := am_ h7_
         have n8_ := am_ h8_
         have n9_ := am_ h9_
         have n10_ := am_ h10_
         have n11_ := am_ h11_
         have n12_ := am_ h12_
         have n13_ := am_ h13_
         have n14_ := am_ h14_
         have n15_ := am_ h15_
         have n16_ := am_ h16_
         have n17_ := am_ h17_
         have n18_ := am_ h18_
         have n19_ := am_ h19_
         have n20_ := am_ h20_
         have n21_ := am_ h21_
         have n22_ := am_ h22_
         have n23_ := am_ h23_
         clear HO_269001 HO_270001 HO_271001 BK262 BK263 BK268 BK269 BK270 HB h0_ h1_ h2_ h3_ h4_ h5_ h6_ h7_ h8_ h9_ h10_ h11_ h12_ h13_ h14_ h15_ h16_ h17_ h18_ h19_ h20_ h21_ h22_ h23_; have HO275 := n0_; have HO279 := n1_; have HO_269001 := n2_; have HO_270001 := n3_; have HO_271001 := n4_; have BK262 := n5_; have BK263 := n6_; have BK268 := n7_; have BK269 := n8_; have BK270 := n9_; have BK288 := n10_; have GW288 := n11_; have GE288 := n12_; have NB262_288 := n13_; have NB288_262 := n14_; have NB263_288 := n15_; have NB288_263 := n16_; have NB268_288 := n17_; have NB288_268 := n18_; have NB269_288 := n19_; have NB288_269 := n20_; have NB270_288 := n21_; have NB288_270 := n22_; have HB := n23_; clear n0_ n1_ n2_ n3_ n4_ n5_ n6_ n7_ n8_ n9_ n10_ n11_ n12_ n13_ n14_ n15_ n16_ n17_ n18_ n19_ n20_ n21_ n22_ n23_
         have hHeld : w42.cell? ⟨gb269, 0, none⟩ = some (.int .i64 x270000_1) ∧ w42.cell? ⟨gb269, 1, none⟩ = some (.slice Ao36 x270001_1.length co36) ∧ w42.cell? ⟨gb268, 0, none⟩ = some (.int .i64 x269000_1) ∧ w42.cell? ⟨gb268, 1, none⟩ = some (.slice Ao35 x269001_1.length co35) ∧ w42.cell? ⟨gb270, 0, none⟩ = some (.int .i64 t264) ∧ w42.cell? ⟨gb270, 1, none⟩ = some (.slice Ao22 t265.length co22) := hS_
         refine norm_ (a' := ?_) ?_ ?_
         rotate_left
         ·simp only [putAll, Act.put, List.setIfInBounds_toArray, List.set_cons_zero, List.set_cons_succ]
          rfl
         refine one_ (i := 9) (N := some 28) #[true, true, true, true, true, true, true, true, true, true, false, true, false] rfl rfl (one_of HT_.out (by kernel_rfl)) (by decide) (fun K hK => ?_)
         refine goes_ Tryd.func106 (by kernel_rfl) rfl #[.agg #[.int .i64 t264, .slice Ao22 t265.length co22], .int .i64 (wrap64 (2 * x6_1))] (by rfl) rfl rfl ma_ ?_
         with_reducible refine (spec_l02Left.calls k1 t264 _ _ t265 (wrap64 (2 * x6_1)) t280 t281 _ ?side1 ?side2 A29.out).mono ?_
         (case side1 => exact cr_ HO_271001)
         (case side2 => exact (Kd.R_reads' HO_271001.out).2.1)
         rintro e w43 ⟨v282, rfl, ho0, hb⟩
         refine ⟨_, rfl, ?_⟩
         have HO283 := am_ (Kd.R_lower (Kd.R_new' (Kd.R_new' (Kd.R_new' (Kd.R_new' (Kd.R_new' ho0 (Kd.R_lt (kr_ HO_269001))) (Kd.R_lt (kr_ HO_270001))) (Kd.R_lt (kr_ HO_271001))) (Kd.R_lt (kr_ HO275))) (Kd.R_lt (kr_ HO279))) (below_size (bl_ HB))); replace HO_269001 := am_ (Kd.R_elder' (kr_ HO_269001) (Kd.R_base ho0) hb); replace HO_270001 := am_ (Kd.R_elder' (kr_ HO_270001) (Kd.R_base ho0) hb); replace HO_271001 := am_ (Kd.R_elder' (kr_ HO_271001) (Kd.R_base ho0) hb); replace HO275 := am_ (Kd.R_elder' (kr_ HO275) (Kd.R_base ho0) hb); replace HO279 := am_ (Kd.R_elder' (kr_ HO279) (Kd.R_base ho0) hb); replace BK262 := bb_ BK262 hb; replace BK263 := bb_ BK263 hb; replace BK268 := bb_ BK268 hb; replace BK269 := bb_ BK269 hb; replace BK270 := bb_ BK270 hb; replace BK288 := bb_ BK288 hb; replace HB := bs_ HB hb; (try clear hb); (try clear hb2); (try clear hk); (try clear hi); (try clear ho0)
         refine hK.out _ _ ⟨bc_ BK269 0, bc_ BK269 1, bc_ BK268 0, bc_ BK268 1, bc_ BK270 0, bc_ BK270 1⟩ (fun hHeld => ?_)
         clear hK K
         refine nr_ ?_
         exact norm_ (by first | (simp only [putAll, Act.put, List.setIfInBounds_toArray, List.set_cons_zero, List.set_cons_succ]; done) | (simp only [putAll, Act.put, List.setIfInBounds_toArray, List.set_cons_zero, List.set_cons_succ]; rfl)) (hJ4_5_9_11 (v274, v278, v282, gb288) _ ⟨hHeld, (km_ HO275 (fun _ hk => ⟨hk.1.1, ⟨hk.2, ⟨hk.1.2.1, ⟨hk.1.2.2.1, hk.1.2.2.2⟩⟩⟩⟩)), (km_ HO279 (fun _ hk => ⟨hk.1.1, ⟨hk.2, ⟨hk.1.2.1, ⟨hk.1.2.2.1, hk.1.2.2.2⟩⟩⟩⟩)), (km_ HO283 (fun _ hk => ⟨hk.1.2, ⟨hk.2, ⟨hk.1.1.1.1.2, ⟨hk.1.1.1.2, hk.1.1.2⟩⟩⟩⟩)), (km_ HO_269001 (fun _ hk => ⟨hk.1.1, ⟨hk.1.2.1, ⟨hk.2, ⟨hk.1.2.2.1, hk.1.2.2.2⟩⟩⟩⟩)), (km_ HO_270001 (fun _ hk => ⟨hk.1.1, ⟨hk.1.2.1, ⟨hk.2, ⟨hk.1.2.2.1, hk.1.2.2.2⟩⟩⟩⟩)), (km_ HO_271001 (fun _ hk => ⟨hk.1.1, ⟨hk.1.2.1, ⟨hk.2, ⟨hk.1.2.2.1, hk.1.2.2.2⟩⟩⟩⟩)), (bk_ BK262), (bk_ BK263), (bk_ BK268), (bk_ BK269), (bk_ BK270), (bk_ BK288), GW288.out, GE288.out, NB262_288.out, NB288_262.out, NB263_288.out, NB288_263.out, NB268_288.out, NB288_268.out, NB269_288.out, NB288_269.out, NB270_288.out, NB288_270.out, (bl_ HB)⟩)
       ·skip
        rintro ⟨v274, v278, v282⟩ w42 ⟨hS_, h0_, h1_, h2_, h3_, h4_, h5_, h6_, h7_, h8_, h9_, h10_, h11_⟩
        try dsimp only at hS_ h0_ h1_ h2_ h3_ h4_ h5_ h6_ h7_ h8_ h9_ h10_ h11_
        have n0_ := am_ h0_
        have n1_ := am_ h1_
        have n2_ := am_ h2_
        have n3_ := am_ h3_
        have n4_ := am_ h4_
        have n5_ := am_ h5_
        have n6_ := am_ h6_
        have n7_ := am_ h7_
        have n8_ := am_ h8_
        have n9_ := am_ h9_
        have n10_ := am_ h10_
        have n11_ := am_ h11_
        clear HO_269001 HO_270001 HO_271001 BK262 BK263 BK268 BK269 BK270 HB h0_ h1_ h2_ h3_ h4_ h5_ h6_ h7_ h8_ h9_ h10_ h11_; have HO275 := n0_; have HO279 := n1_; have HO283 := n2_; have HO_269001 := n3_; have HO_270001 := n4_; have HO_271001 := n5_; have BK262 := n6_; have BK263 := n7_; have BK268 := n8_; have BK269 := n9_; have BK270 := n10_; have HB := n11_; clear n0_ n1_ n2_ n3_ n4_ n5_ n6_ n7_ n8_ n9_ n10_ n11_
        have hHeld : w42.cell? ⟨gb269, 0, none⟩ = some (.int .i64 x270000_1) ∧ w42.cell? ⟨gb269, 1, none⟩ = some (.slice Ao36 x270001_1.length co36) ∧ w42.cell? ⟨gb268, 0, none⟩ = some (.int .i64 x269000_1) ∧ w42.cell? ⟨gb268, 1, none⟩ = some (.slice Ao35 x269001_1.length co35) ∧ w42.cell? ⟨gb270, 0, none⟩ = some (.int .i64 t264) ∧ w42.cell? ⟨gb270, 1, none⟩ = some (.slice Ao22 t265.length co22) := hS_
        obtain ⟨Ao43, co43, eo43⟩ := Kd.R_slice HO279.out
        (first | subst eo43 | (injection eo43 with f1_ f2_ f3_; have f4_ := f1_.symm; have f5_ := f3_.symm; clear f1_ f2_ f3_; subst f4_; subst f5_))
        obtain ⟨Ao44, co44, eo44⟩ := Kd.R_slice HO283.out
        (first | subst eo44 | (injection eo44 with f1_ f2_ f3_; have f4_ := f1_.symm; have f5_ := f3_.symm; clear f1_ f2_ f3_; subst f4_; subst f5_))
        refine norm_ (a' := ?_) ?_ ?_
        rotate_left
        ·simp only [putAll, Act.put, List.setIfInBounds_toArray, List.set_cons_zero, List.set_cons_succ]
         rfl
        refine two_ (i := 10) (j := 11) (Ni := some 29) (Nj := some 7) #[true, true, true, true, true, true, true, true, true, true, true, false, false] #[true, true, true, true, true, true, true, true, true, true, false, true, false] rfl rfl rfl rfl (two_of HT_.out (by kernel_rfl)) (by decide) (by decide) (fun K hK => ?_) (fun K hK => ?_)
        ·skip
         refine goes_ Tryd.func105 (by kernel_rfl) rfl #[.agg #[.int .i64 t276, .slice Ao43 t277.length co43], .agg #[.int .i64 t280, .slice Ao44 t281.length co44]] (by rfl) rfl rfl ma_ ?_
         with_reducible refine (spec_l02Add.calls k1 t276 _ _ t277 t280 _ _ t281 t284 t285 _ ?side1 ?side2 ?side3 ?side4 A30.out).mono ?_
         (case side1 => exact cr_ HO279)
         (case side2 => exact (Kd.R_reads' HO279.out).2.1)
         (case side3 => exact cr_ HO283)
         (case side4 => exact (Kd.R_reads' HO283.out).2.1)
         rintro e w45 ⟨v286, rfl, ho0, hb⟩
         refine ⟨_, rfl, ?_⟩
         have HO287 := am_ (Kd.R_lower (Kd.R_new' (Kd.R_new' (Kd.R_new' (Kd.R_new' (Kd.R_new' (Kd.R_new' ho0 (Kd.R_lt (kr_ HO_269001))) (Kd.R_lt (kr_ HO_270001))) (Kd.R_lt (kr_ HO_271001))) (Kd.R_lt (kr_ HO275))) (Kd.R_lt (kr_ HO279))) (Kd.R_lt (kr_ HO283))) (below_size (bl_ HB))); replace HO_269001 := am_ (Kd.R_elder' (kr_ HO_269001) (Kd.R_base ho0) hb); replace HO_270001 := am_ (Kd.R_elder' (kr_ HO_270001) (Kd.R_base ho0) hb); replace HO_271001 := am_ (Kd.R_elder' (kr_ HO_271001) (Kd.R_base ho0) hb); replace HO275 := am_ (Kd.R_elder' (kr_ HO275) (Kd.R_base ho0) hb); replace HO279 := am_ (Kd.R_elder' (kr_ HO279) (Kd.R_base ho0) hb); replace HO283 := am_ (Kd.R_elder' (kr_ HO283) (Kd.R_base ho0) hb); replace BK262 := bb_ BK262 hb; replace BK263 := bb_ BK263 hb; replace BK268 := bb_ BK268 hb; replace BK269 := bb_ BK269 hb; replace BK270 := bb_ BK270 hb; replace HB := bs_ HB hb; (try clear hb); (try clear hb2); (try clear hk); (try clear hi); (try clear ho0)
         refine hK.out _ _ ⟨bc_ BK269 0, bc_ BK269 1, bc_ BK268 0, bc_ BK268 1, bc_ BK270 0, bc_ BK270 1⟩ (fun hHeld => ?_)
         clear hK K
         refine nr_ ?_
         exact norm_ (by first | (simp only [putAll, Act.put, List.setIfInBounds_toArray, List.set_cons_zero, List.set_cons_succ]; done) | (simp only [putAll, Act.put, List.setIfInBounds_toArray, List.set_cons_zero, List.set_cons_succ]; rfl)) (hJ4_5_9_10 (v274, .slice Ao43 t277.length co43, .slice Ao44 t281.length co44, v286) _ ⟨hHeld, (km_ HO275 (fun _ hk => ⟨hk.1.1, ⟨hk.1.2.1, ⟨hk.2, ⟨hk.1.2.2.1, ⟨hk.1.2.2.2.1, hk.1.2.2.2.2⟩⟩⟩⟩⟩)), (km_ HO279 (fun _ hk => ⟨hk.1.1, ⟨hk.1.2.1, ⟨hk.2, ⟨hk.1.2.2.1, ⟨hk.1.2.2.2.1, hk.1.2.2.2.2⟩⟩⟩⟩⟩)), (km_ HO283 (fun _ hk => ⟨hk.1.1, ⟨hk.1.2.1, ⟨hk.2, ⟨hk.1.2.2.1, ⟨hk.1.2.2.2.1, hk.1.2.2.2.2⟩⟩⟩⟩⟩)), (km_ HO287 (fun _ hk => ⟨hk.1.1.2, ⟨hk.1.2, ⟨hk.2, ⟨hk.1.1.1.1.1.2, ⟨hk.1.1.1.1.2, hk.1.1.1.2⟩⟩⟩⟩⟩)), (km_ HO_269001 (fun _ hk => ⟨hk.1.1, ⟨hk.1.2.1, ⟨hk.1.2.2.1, ⟨hk.2, ⟨hk.1.2.2.2.1, hk.1.2.2.2.2⟩⟩⟩⟩⟩)), (km_ HO_270001 (fun _ hk => ⟨hk.1.1, ⟨hk.1.2.1, ⟨hk.1.2.2.1, ⟨hk.2, ⟨hk.1.2.2.2.1, hk.1.2.2.2.2⟩⟩⟩⟩⟩)), (km_ HO_271001 (fun _ hk => ⟨hk.1.1, ⟨hk.1.2.1, ⟨hk.1.2.2.1, ⟨hk.2, ⟨hk.1.2.2.2.1, hk.1.2.2.2.2⟩⟩⟩⟩⟩)), (bk_ BK262), (bk_ BK263), (bk_ BK268), (bk_ BK269), (bk_ BK270), (bl_ HB)⟩)
        ·skip
         refine box_step ?hg (N := 7) ?hd (cs := #[.int .i64 0, .slice none 0 0]) (t := 26) ?hr ?_; (case hd => rfl); (case hg => rfl); (case hr => first | (go_simp; done) | (go_simp; rfl))
         intro gb288 hg w43 hbox hb
         replace HO_269001 := am_ (Kd.R_below (kr_ HO_269001) hb); replace HO_270001 := am_ (Kd.R_below (kr_ HO_270001) hb); replace HO_271001 := am_ (Kd.R_below (kr_ HO_271001) hb); replace HO275 := am_ (Kd.R_below (kr_ HO275) hb); replace HO279 := am_ (Kd.R_below (kr_ HO279) hb); replace HO283 := am_ (Kd.R_below (kr_ HO283) hb); obtain ⟨BK288, GW288, GE288⟩ := nb_ hbox hg HB; replace HB := bs_ HB hb; obtain ⟨NB262_288, NB288_262⟩ := nn_ hg BK262; replace BK262 := bb_ BK262 hb; obtain ⟨NB263_288, NB288_263⟩ := nn_ hg BK263; replace BK263 := bb_ BK263 hb; obtain ⟨NB268_288, NB288_268⟩ := nn_ hg BK268; replace BK268 := bb_ BK268 hb; obtain ⟨NB269_288, NB288_269⟩ := nn_ hg BK269; replace BK269 := bb_ BK269 hb; obtain ⟨NB270_288, NB288_270⟩ := nn_ hg BK270; replace BK270 := bb_ BK270 hb; clear hb hbox hg
         refine hK.out _ _ ⟨bc_ BK269 0, bc_ BK269 1, bc_ BK268 0, bc_ BK268 1, bc_ BK270 0, bc_ BK270 1⟩ (fun hHeld => ?_)
         clear hK K
         refine nr_ ?_
         exact norm_ (by first | (simp only [putAll, Act.put, List.setIfInBounds_toArray, List.set_cons_zero, List.set_cons_succ]; done) | (simp only [putAll, Act.put, List.setIfInBounds_toArray, List.set_cons_zero, List.set_cons_succ]; rfl)) (hJ4_5_9_11 (v274, .slice Ao43 t277.length co43, .slice Ao44 t281.length co44, gb288) _ ⟨hHeld, (kr_ HO275), (kr_ HO279), (kr_ HO283), (kr_ HO_269001), (kr_ HO_270001), (kr_ HO_271001), (bk_ BK262), (bk_ BK263), (bk_ BK268), (bk_ BK269), (bk_ BK270), (bk_ BK288), GW288.out, GE288.out, NB262_288.out, NB288_262.out, NB263_288.out, NB288_263.out, NB268_288.out, NB288_268.out, NB269_288.out, NB288_269.out, NB270_288.out, NB288_270.out, (bl_ HB)⟩)
      ·skip
       rintro ⟨v274, v278, v282, gb288⟩ w43 ⟨hS_, h0_, h1_, h2_, h3_, h4_, h5_, h6_, h7_, h8_, h9_, h10_, h11_, h12_, h13_, h14_, h15_, h16_, h17_, h18_, h19_, h20_, h21_, h22_, h23_, h24_⟩
       try dsimp only at hS_ h0_ h1_ h2_ h3_ h4_ h5_ h6_ h7_ h8_ h9_ h10_ h11_ h12_ h13_ h14_ h15_ h16_ h17_ h18_ h19_ h20_ h21_ h22_ h23_ h24_
       have n0_ := am_ h0_
       have n1_ := am_ h1_
       have n2_ := am_ h2_
       have n3_ := am_ h3_
       have n4_ := am_ h4_
       have n5_ := am_ h5_
       have n6_ := am_ h6_
       have n7_ := am_ h7_
       have n8_ := am_ h8_
       have n9_ := am_ h9_
       have n10_ := am_ h10_
       have n11_ := am_ h11_
       have n12_ := am_ h12_
       have n13_ := am_ h13_
       have n14_ := am_ h14_
       have n15_ := am_ h15_
       have n16_ := am_ h16_
       have n17_ := am_ h17_
       have n18_ := am_ h18_
       have n19_ := am_ h19_
       have n20_ := am_ h20_
       have n21_ := am_ h21_
       have n22_ := am_ h22_
       have n23_ := am_ h23_
       have n24_ := am_ h24_
       clear HO_269001 HO_270001 HO_271001 BK262 BK263 BK268 BK269 BK270 HB h0_ h1_ h2_ h3_ h4_ h5_ h6_ h7_ h8_ h9_ h10_ h11_ h12_ h13_ h14_ h15_ h16_ h17_ h18_ h19_ h20_ h21_ h22_ h23_ h24_; have HO275 := n0_; have HO279 := n1_; have HO283 := n2_; have HO_269001 := n3_; have HO_270001 := n4_; have HO_271001 := n5_; have BK262 := n6_; have BK263 := n7_; have BK268 := n8_; have BK269 := n9_; have BK270 := n10_; have BK288 := n11_; have GW288 := n12_; have GE288 := n13_; have NB262_288 := n14_; have NB288_262 := n15_; have NB263_288 := n16_; have NB288_263 := n17_; have NB268_288 := n18_; have NB288_268 := n19_; have NB269_288 := n20_; have NB288_269 := n21_; have NB270_288 := n22_; have NB288_270 := n23_; have HB := n24_; clear n0_ n1_ n2_ n3_ n4_ n5_ n6_ n7_ n8_ n9_ n10_ n11_ n12_ n13_ n14_ n15_ n16_ n17_ n18_ n19_ n20_ n21_ n22_ n23_ n24_
       have hHeld : w43.cell? ⟨gb269, 0, none⟩ = some (.int .i64 x270000_1) ∧ w43.cell? ⟨gb269, 1, none⟩ = some (.slice Ao36 x270001_1.length co36) ∧ w43.cell? ⟨gb268, 0, none⟩ = some (.int .i64 x269000_1) ∧ w43.cell? ⟨gb268, 1, none⟩ = some (.slice Ao35 x269001_1.length co35) ∧ w43.cell? ⟨gb270, 0, none⟩ = some (.int .i64 t264) ∧ w43.cell? ⟨gb270, 1, none⟩ = some (.slice Ao22 t265.length co22) := hS_
       obtain ⟨Ao44, co44, eo44⟩ := Kd.R_slice HO279.out
       (first | subst eo44 | (injection eo44 with f1_ f2_ f3_; have f4_ := f1_.symm; have f5_ := f3_.symm; clear f1_ f2_ f3_; subst f4_; subst f5_))
       obtain ⟨Ao45, co45, eo45⟩ := Kd.R_slice HO283.out
       (first | subst eo45 | (injection eo45 with f1_ f2_ f3_; have f4_ := f1_.symm; have f5_ := f3_.symm; clear f1_ f2_ f3_; subst f4_; subst f5_))
       refine norm_ (a' := ?_) ?_ ?_
       rotate_left
       ·simp only [putAll, Act.put, List.setIfInBounds_toArray, List.set_cons_zero, List.set_cons_succ]
        rfl
       refine one_ (i := 10) (N := some 29) #[true, true, true, true, true, true, true, true, true, true, true, true, false] rfl rfl (one_of HT_.out (by kernel_rfl)) (by decide) (fun K hK => ?_)
       refine goes_ Tryd.func105 (by kernel_rfl) rfl #[.agg #[.int .i64 t276, .slice Ao44 t277.length co44], .agg #[.int .i64 t280, .slice Ao45 t281.length co45]] (by rfl) rfl rfl ma_ ?_
       with_reducible refine (spec_l02Add.calls k1 t276 _ _ t277 t280 _ _ t281 t284 t285 _ ?side1 ?side2 ?side3 ?side4 A30.out).mono ?_
       (case side1 => exact cr_ HO279)
       (case side2 => exact (Kd.R_reads' HO279.out).2.1)
       (case side3 => exact cr_ HO283)
       (case side4 => exact (Kd.R_reads' HO283.out).2.1)
       rintro e w46 ⟨v286, rfl, ho0, hb⟩
       refine ⟨_, rfl, ?_⟩
       have HO287 := am_ (Kd.R_lower (Kd.R_new' (Kd.R_new' (Kd.R_new' (Kd.R_new' (Kd.R_new' (Kd.R_new' ho0 (Kd.R_lt (kr_ HO_269001))) (Kd.R_lt (kr_ HO_270001))) (Kd.R_lt (kr_ HO_271001))) (Kd.R_lt (kr_ HO275))) (Kd.R_lt (kr_ HO279))) (Kd.R_lt (kr_ HO283))) (below_size (bl_ HB))); replace HO_269001 := am_ (Kd.R_elder' (kr_ HO_269001) (Kd.R_base ho0) hb); replace HO_270001 := am_ (Kd.R_elder' (kr_ HO_270001) (Kd.R_base ho0) hb); replace HO_271001 := am_ (Kd.R_elder' (kr_ HO_271001) (Kd.R_base ho0) hb); replace HO275 := am_ (Kd.R_elder' (kr_ HO275) (Kd.R_base ho0) hb); replace HO279 := am_ (Kd.R_elder' (kr_ HO279) (Kd.R_base ho0) hb); replace HO283 := am_ (Kd.R_elder' (kr_ HO283) (Kd.R_base ho0) hb); replace BK262 := bb_ BK262 hb; replace BK263 := bb_ BK263 hb; replace BK268 := bb_ BK268 hb; replace BK269 := bb_ BK269 hb; replace BK270 := bb_ BK270 hb; replace BK288 := bb_ BK288 hb; replace HB := bs_ HB hb; (try clear hb); (try clear hb2); (try clear hk); (try clear hi); (try clear ho0)
       refine hK.out _ _ ⟨bc_ BK269 0, bc_ BK269 1, bc_ BK268 0, bc_ BK268 1, bc_ BK270 0, bc_ BK270 1⟩ (fun hHeld => ?_)
       clear hK K
       refine nr_ ?_
       exact norm_ (by first | (simp only [putAll, Act.put, List.setIfInBounds_toArray, List.set_cons_zero, List.set_cons_succ]; done) | (simp only [putAll, Act.put, List.setIfInBounds_toArray, List.set_cons_zero, List.set_cons_succ]; rfl)) (hJ4_5_9_10_11 (v274, .slice Ao44 t277.length co44, .slice Ao45 t281.length co45, v286, gb288) _ ⟨hHeld, (km_ HO275 (fun _ hk => ⟨hk.1.1, ⟨hk.1.2.1, ⟨hk.2, ⟨hk.1.2.2.1, ⟨hk.1.2.2.2.1, hk.1.2.2.2.2⟩⟩⟩⟩⟩)), (km_ HO279 (fun _ hk => ⟨hk.1.1, ⟨hk.1.2.1, ⟨hk.2, ⟨hk.1.2.2.1, ⟨hk.1.2.2.2.1, hk.1.2.2.2.2⟩⟩⟩⟩⟩)), (km_ HO283 (fun _ hk => ⟨hk.1.1, ⟨hk.1.2.1, ⟨hk.2, ⟨hk.1.2.2.1, ⟨hk.1.2.2.2.1, hk.1.2.2.2.2⟩⟩⟩⟩⟩)), (km_ HO287 (fun _ hk => ⟨hk.1.1.2, ⟨hk.1.2, ⟨hk.2, ⟨hk.1.1.1.1.1.2, ⟨hk.1.1.1.1.2, hk.1.1.1.2⟩⟩⟩⟩⟩)), (km_ HO_269001 (fun _ hk => ⟨hk.1.1, ⟨hk.1.2.1, ⟨hk.1.2.2.1, ⟨hk.2, ⟨hk.1.2.2.2.1, hk.1.2.2.2.2⟩⟩⟩⟩⟩)), (km_ HO_270001 (fun _ hk => ⟨hk.1.1, ⟨hk.1.2.1, ⟨hk.1.2.2.1, ⟨hk.2, ⟨hk.1.2.2.2.1, hk.1.2.2.2.2⟩⟩⟩⟩⟩)), (km_ HO_271001 (fun _ hk => ⟨hk.1.1, ⟨hk.1.2.1, ⟨hk.1.2.2.1, ⟨hk.2, ⟨hk.1.2.2.2.1, hk.1.2.2.2.2⟩⟩⟩⟩⟩)), (bk_ BK262), (bk_ BK263), (bk_ BK268), (bk_ BK269), (bk_ BK270), (bk_ BK288), GW288.out, GE288.out, NB262_288.out, NB288_262.out, NB263_288.out, NB288_263.out, NB268_288.out, NB288_268.out, NB269_288.out, NB288_269.out, NB270_288.out, NB288_270.out, (bl_ HB)⟩)
     ·skip
      rintro ⟨v274, v278, v282, v286⟩ w45 ⟨hS_, h0_, h1_, h2_, h3_, h4_, h5_, h6_, h7_, h8_, h9_, h10_, h11_, h12_⟩
      try dsimp only at hS_ h0_ h1_ h2_ h3_ h4_ h5_ h6_ h7_ h8_ h9_ h10_ h11_ h12_
      have n0_ := am_ h0_
      have n1_ := am_ h1_
      have n2_ := am_ h2_
      have n3_ := am_ h3_
      have n4_ := am_ h4_
      have n5_ := am_ h5_
      have n6_ := am_ h6_
      have n7_ := am_ h7_
      have n8_ := am_ h8_
      have n9_ := am_ h9_
      have n10_ := am_ h10_
      have n11_ := am_ h11_
      have n12_ := am_ h12_
      clear HO_269001 HO_270001 HO_271001 BK262 BK263 BK268 BK269 BK270 HB h0_ h1_ h2_ h3_ h4_ h5_ h6_ h7_ h8_ h9_ h10_ h11_ h12_; have HO275 := n0_; have HO279 := n1_; have HO283 := n2_; have HO287 := n3_; have HO_269001 := n4_; have HO_270001 := n5_; have HO_271001 := n6_; have BK262 := n7_; have BK263 := n8_; have BK268 := n9_; have BK269 := n10_; have BK270 := n11_; have HB := n12_; clear n0_ n1_ n2_ n3_ n4_ n5_ n6_ n7_ n8_ n9_ n10_ n11_ n12_
      have hHeld : w45.cell? ⟨gb269, 0, none⟩ = some (.int .i64 x270000_1) ∧ w45.cell? ⟨gb269, 1, none⟩ = some (.slice Ao36 x270001_1.length co36) ∧ w45.cell? ⟨gb268, 0, none⟩ = some (.int .i64 x269000_1) ∧ w45.cell? ⟨gb268, 1, none⟩ = some (.slice Ao35 x269001_1.length co35) ∧ w45.cell? ⟨gb270, 0, none⟩ = some (.int .i64 t264) ∧ w45.cell? ⟨gb270, 1, none⟩ = some (.slice Ao22 t265.length co22) := hS_
      refine norm_ (a' := ?_) ?_ ?_
      rotate_left
      ·simp only [putAll, Act.put, List.setIfInBounds_toArray, List.set_cons_zero, List.set_cons_succ]
       rfl
      refine one_ (i := 11) (N := some 7) #[true, true, true, true, true, true, true, true, true, true, true, true, false] rfl rfl (one_of HT_.out (by kernel_rfl)) (by decide) (fun K hK => ?_)
      refine box_step ?hg (N := 7) ?hd (cs := #[.int .i64 0, .slice none 0 0]) (t := 26) ?hr ?_; (case hd => rfl); (case hg => rfl); (case hr => first | (go_simp; done) | (go_simp; rfl))
      intro gb288 hg w46 hbox hb
      replace HO_269001 := am_ (Kd.R_below (kr_ HO_269001) hb); replace HO_270001 := am_ (Kd.R_below (kr_ HO_270001) hb); replace HO_271001 := am_ (Kd.R_below (kr_ HO_271001) hb); replace HO275 := am_ (Kd.R_below (kr_ HO275) hb); replace HO279 := am_ (Kd.R_below (kr_ HO279) hb); replace HO283 := am_ (Kd.R_below (kr_ HO283) hb); replace HO287 := am_ (Kd.R_below (kr_ HO287) hb); obtain ⟨BK288, GW288, GE288⟩ := nb_ hbox hg HB; replace HB := bs_ HB hb; obtain ⟨NB262_288, NB288_262⟩ := nn_ hg BK262; replace BK262 := bb_ BK262 hb; obtain ⟨NB263_288, NB288_263⟩ := nn_ hg BK263; replace BK263 := bb_ BK263 hb; obtain ⟨NB268_288, NB288_268⟩ := nn_ hg BK268; replace BK268 := bb_ BK268 hb; obtain ⟨NB269_288, NB288_269⟩ := nn_ hg BK269; replace BK269 := bb_ BK269 hb; obtain ⟨NB270_288, NB288_270⟩ := nn_ hg BK270; replace BK270 := bb_ BK270 hb; clear hb hbox hg
      refine hK.out _ _ ⟨bc_ BK269 0, bc_ BK269 1, bc_ BK268 0, bc_ BK268 1, bc_ BK270 0, bc_ BK270 1⟩ (fun hHeld => ?_)
      clear hK K
      refine nr_ ?_
      exact norm_ (by first | (simp only [putAll, Act.put, List.setIfInBounds_toArray, List.set_cons_zero, List.set_cons_succ]; done) | (simp only [putAll, Act.put, List.setIfInBounds_toArray, List.set_cons_zero, List.set_cons_succ]; rfl)) (hJ4_5_9_10_11 (v274, v278, v282, v286, gb288) _ ⟨hHeld, (kr_ HO275), (kr_ HO279), (kr_ HO283), (kr_ HO287), (kr_ HO_269001), (kr_ HO_270001), (kr_ HO_271001), (bk_ BK262), (bk_ BK263), (bk_ BK268), (bk_ BK269), (bk_ BK270), (bk_ BK288), GW288.out, GE288.out, NB262_288.out, NB288_262.out, NB263_288.out, NB288_263.out, NB268_288.out, NB288_268.out, NB269_288.out, NB288_269.out, NB270_288.out, NB288_270.out, (bl_ HB)⟩)
    rintro ⟨v274, v278, v282, v286, gb288⟩ w46 ⟨hS_, h0_, h1_, h2_, h3_, h4_, h5_, h6_, h7_, h8_, h9_, h10_, h11_, h12_, h13_, h14_, h15_, h16_, h17_, h18_, h19_, h20_, h21_, h22_, h23_, h24_, h25_⟩
    try dsimp only at hS_ h0_ h1_ h2_ h3_ h4_ h5_ h6_ h7_ h8_ h9_ h10_ h11_ h12_ h13_ h14_ h15_ h16_ h17_ h18_ h19_ h20_ h21_ h22_ h23_ h24_ h25_
    have n0_ := am_ h0_
    have n1_ := am_ h1_
    have n2_ := am_ h2_
    have n3_ := am_ h3_
    have n4_ := am_ h4_
    have n5_ := am_ h5_
    have n6_ := am_ h6_
    have n7_ := am_ h7_
    have n8_ := am_ h8_
    have n9_ := am_ h9_
    have n10_ := am_ h10_
    have n11_ := am_ h11_
    have n12_ := am_ h12_
    have n13_ := am_ h13_
    have n14_ := am_ h14_
    have n15_ := am_ h15_
    have n16_ := am_ h16_
    have n17_ := am_ h17_
    have n18_ := am_ h18_
    have n19_ := am_ h19_
    have n20_ := am_ h20_
    have n21_ := am_ h21_
    have n22_ := am_ h22_
    have n23_ := am_ h23_
    have n24_ := am_ h24_
    have n25_ := am_ h25_
    clear HO_269001 HO_270001 HO_271001 BK262 BK263 BK268 BK269 BK270 HB h0_ h1_ h2_ h3_ h4_ h5_ h6_ h7_ h8_ h9_ h10_ h11_ h12_ h13_ h14_ h15_ h16_ h17_ h18_ h19_ h20_ h21_ h22_ h23_ h24_ h25_; have HO275 := n0_; have HO279 := n1_; have HO283 := n2_; have HO287 := n3_; have HO_269001 := n4_; have HO_270001 := n5_; have HO_271001 := n6_; have BK262 := n7_; have BK263 := n8_; have BK268 := n9_; have BK269 := n10_; have BK270 := n11_; have BK288 := n12_; have GW288 := n13_; have GE288 := n14_; have NB262_288 := n15_; have NB288_262 := n16_; have NB263_288 := n17_; have NB288_263 := n18_; have NB268_288 := n19_; have NB288_268 := n20_; have NB269_288 := n21_; have NB288_269 := n22_; have NB270_288 := n23_; have NB288_270 := n24_; have HB := n25_; clear n0_ n1_ n2_ n3_ n4_ n5_ n6_ n7_ n8_ n9_ n10_ n11_ n12_ n13_ n14_ n15_ n16_ n17_ n18_ n19_ n20_ n21_ n22_ n23_ n24_ n25_
    have hHeld : w46.cell? ⟨gb269, 0, none⟩ = some (.int .i64 x270000_1) ∧ w46.cell? ⟨gb269, 1, none⟩ = some (.slice Ao36 x270001_1.length co36) ∧ w46.cell? ⟨gb268, 0, none⟩ = some (.int .i64 x269000_1) ∧ w46.cell? ⟨gb268, 1, none⟩ = some (.slice Ao35 x269001_1.length co35) ∧ w46.cell? ⟨gb270, 0, none⟩ = some (.int .i64 t264) ∧ w46.cell? ⟨gb270, 1, none⟩ = some (.slice Ao22 t265.length co22) := hS_
    obtain ⟨Ao48, co48, eo48⟩ := Kd.R_slice HO287.out
    (first | subst eo48 | (injection eo48 with f1_ f2_ f3_; have f4_ := f1_.symm; have f5_ := f3_.symm; clear f1_ f2_ f3_; subst f4_; subst f5_))
    refine norm_ (a' := ?_) ?_ ?_
    rotate_left
    ·simp only [putAll, Act.put, List.setIfInBounds_toArray, List.set_cons_zero, List.set_cons_succ]
     rfl
    refine one_ (i := 12) (N := none) #[true, true, true, true, true, true, true, true, true, true, true, true, true] rfl rfl (one_of HT_.out (by kernel_rfl)) (by decide) (fun K hK => ?_)
    have hs47 : w46.cell? ⟨gb288, 0, none⟩ = some (.int .i64 0) := bc_ BK288 0
    have hfs47 := blk_frozen BK288.out 0; have hns47_0 := NB262_288.out; have hns47_1 := NB263_288.out; have hns47_2 := NB268_288.out; have hns47_3 := NB269_288.out; have hns47_4 := NB270_288.out; have hms47_0 := NB288_262.out; have hms47_1 := NB288_263.out; have hms47_2 := NB288_268.out; have hms47_3 := NB288_269.out; have hms47_4 := NB288_270.out
    have hs49 : w46.cell? ⟨gb288, 1, none⟩ = some (.slice none 0 0) := bc_ BK288 1
    have hfs49 := blk_frozen BK288.out 1; have hns49_0 := NB262_288.out; have hns49_1 := NB263_288.out; have hns49_2 := NB268_288.out; have hns49_3 := NB269_288.out; have hns49_4 := NB270_288.out; have hms49_0 := NB288_262.out; have hms49_1 := NB288_263.out; have hms49_2 := NB288_268.out; have hms49_3 := NB288_269.out; have hms49_4 := NB288_270.out
    refine skip_ (w1 := ?_) (by rfl) rfl ?_ ?_
    rotate_left
    ·go_simp
     rfl
    refine hK.out _ _ ⟨((cell_far (p := ⟨gb288, _, none⟩) NB269_288.out _).trans (((cell_far (p := ⟨gb288, _, none⟩) NB269_288.out _).trans (hHeld.1)))), ((cell_far (p := ⟨gb288, _, none⟩) NB269_288.out _).trans (((cell_far (p := ⟨gb288, _, none⟩) NB269_288.out _).trans (hHeld.2.1)))), ((cell_far (p := ⟨gb288, _, none⟩) NB268_288.out _).trans (((cell_far (p := ⟨gb288, _, none⟩) NB268_288.out _).trans (hHeld.2.2.1)))), ((cell_far (p := ⟨gb288, _, none⟩) NB268_288.out _).trans (((cell_far (p := ⟨gb288, _, none⟩) NB268_288.out _).trans (hHeld.2.2.2.1)))), ((cell_far (p := ⟨gb288, _, none⟩) NB270_288.out _).trans (((cell_far (p := ⟨gb288, _, none⟩) NB270_288.out _).trans (hHeld.2.2.2.2.1)))), ((cell_far (p := ⟨gb288, _, none⟩) NB270_288.out _).trans (((cell_far (p := ⟨gb288, _, none⟩) NB270_288.out _).trans (hHeld.2.2.2.2.2))))⟩ (fun hHeld => ?_)
    clear hK K
    refine done_ (done_of HT_.out (by kernel_rfl)) ?_
    have H := HASIDE.out; clear HASIDE
    by_cases c32 : t289 ≤ 0
    ·rw [if_pos c32] at H
     have c32b0 : decide (t289 ≤ 0) = true := decide_eq_true c32
     clear c32
     replace H := Option.bind_eq_some_iff.mp H
     obtain ⟨⟨t290, t291⟩, A330, H⟩ := H
     replace H : ((spec_l02Add.f k1 x269000_1 x269001_1 t290 t291).bind fun bt294 => (spec_l02Root.l0 k1 (wrap64 (x6_1 - 1)) a0_0 l0_1 bt294.1 bt294.2 t284 t285 t264 t265)) = some (r1, r2) := H
     have A33 := Aside0.mk A330; clear A330
     replace H := Option.bind_eq_some_iff.mp H
     obtain ⟨⟨t294, t295⟩, A340, H⟩ := H
     replace H : (spec_l02Root.l0 k1 (wrap64 (x6_1 - 1)) a0_0 l0_1 t294 t295 t284 t285 t264 t265) = some (r1, r2) := H
     have A34 := Aside0.mk A340; clear A340
     have H' := Aside0.mk H
     clear H
     have hnb50 := NB288_262.out; have hnc50 := NB262_288.out; have hnb51 := NB288_263.out; have hnc51 := NB263_288.out; have hnb52 := NB288_268.out; have hnc52 := NB268_288.out; have hnb53 := NB288_269.out; have hnc53 := NB269_288.out; have hnb54 := NB288_270.out; have hnc54 := NB270_288.out
     obtain ⟨hcz55_0, hcz55_1, hfz55_0, hfz55_1⟩ := ck2_ BK288; have hnb56 := NB262_263.out; have hnc56 := NB263_262.out; have hnb57 := NB262_268.out; have hnc57 := NB268_262.out; have hnb58 := NB262_269.out; have hnc58 := NB269_262.out; have hnb59 := NB262_270.out; have hnc59 := NB270_262.out
     obtain ⟨hcz60_0, hcz60_1, hfz60_0, hfz60_1⟩ := ck2_ BK262
     try go_wp2_with (first | ((with_reducible refine gate_callee (f := 107) rfl ?_); refine goesL_ (some 32) rfl rfl Tryd.func107 (by kernel_rfl) rfl #[.agg #[.int .i64 t284, .slice Ao48 t285.length co48], .agg #[.int .i64 a0_0, .slice A0_1 l0_1.length c0_1]] rfl ma_ ?_; (with_reducible refine (spec_l02Compare.calls k1 t284 _ _ t285 a0_0 _ _ l0_1 t289 _ ?side1 ?side2 ?side3 ?side4 A31.out).mono ?_); (case side1 => refine (Kd.R_reads' (e := 2) (base := w.heap.size) (ok := fun k_ => (some k_ ≠ (v274 : Value).ownBlock ∧ (some k_ ≠ (v278 : Value).ownBlock ∧ (some k_ ≠ (v282 : Value).ownBlock ∧ (some k_ ≠ (.slice Ao35 x269001_1.length co35 : Value).ownBlock ∧ (some k_ ≠ (.slice Ao36 x270001_1.length co36 : Value).ownBlock ∧ some k_ ≠ (.slice Ao22 t265.length co22 : Value).ownBlock)))))) (n := t285.length) (c := co48) ?_).2.2; exact (rg_ HO287 BK288)); (case side2 => exact (Kd.R_reads' HO287.out).2.1); (case side3 => exact Kd.C_below HR0_1.out (bl_ HB)); (case side4 => exact HC0_1.out); rintro e w61 ⟨rfl, hb⟩; refine ⟨_, rfl, ?_⟩; replace HO_269001 := am_ (Kd.R_below (rg_ HO_269001 BK288) hb); replace HO_270001 := am_ (Kd.R_below (rg_ HO_270001 BK288) hb); replace HO_271001 := am_ (Kd.R_below (rg_ HO_271001 BK288) hb); replace HO275 := am_ (Kd.R_below (rg_ HO275 BK288) hb); replace HO279 := am_ (Kd.R_below (rg_ HO279 BK288) hb); replace HO283 := am_ (Kd.R_below (rg_ HO283 BK288) hb); replace HO287 := am_ (Kd.R_below (rg_ HO287 BK288) hb); replace BK262 := bb_ BK262 hb; replace BK263 := bb_ BK263 hb; replace BK268 := bb_ BK268 hb; replace BK269 := bb_ BK269 hb; replace BK270 := bb_ BK270 hb; replace BK288 := am_ (blk_below (bp2_ BK288) hb); replace HB := bs_ HB hb; (try clear hb); (try clear hb2); (try clear hk); (try clear hi)))
     replace HO_269001 := am_ (Kd.R_drew HO_269001.out); replace HO_270001 := am_ (Kd.R_drew HO_270001.out); replace HO_271001 := am_ (Kd.R_drew HO_271001.out); replace HO275 := am_ (Kd.R_drew HO275.out); replace HO279 := am_ (Kd.R_drew HO279.out); replace HO283 := am_ (Kd.R_drew HO283.out); replace HO287 := am_ (Kd.R_drew HO287.out); replace BK262 := am_ (blk_drew BK262.out); replace BK263 := am_ (blk_drew BK263.out); replace BK268 := am_ (blk_drew BK268.out); replace BK269 := am_ (blk_drew BK269.out); replace BK270 := am_ (blk_drew BK270.out); replace BK288 := am_ (blk_drew BK288.out); replace HB := am_ (below_drew1 HB.out)
     refine start_ (n := 6) (S := fun w' => w'.cell? ⟨gb268, 0, none⟩ = some (.int .i64 x269000_1) ∧ w'.cell? ⟨gb268, 1, none⟩ = some (.slice Ao35 x269001_1.length co35) ∧ w'.cell? ⟨gb270, 0, none⟩ = some (.int .i64 t264) ∧ w'.cell? ⟨gb270, 1, none⟩ = some (.slice Ao22 t265.length co22)) (ds := [5]) #[false, false, false, false, false, false] (by kernel_rfl) rfl rfl ⟨bc_ BK268 0, bc_ BK268 1, bc_ BK270 0, bc_ BK270 1⟩ (fun hHeld => ?_)
     generalize w61.drew = w62 at HO_269001 HO_270001 HO_271001 HO275 HO279 HO283 HO287 BK262 BK263 BK268 BK269 BK270 BK288 HB hHeld ⊢
     refine pu_ #[false, false, true, false, false, false] 2 36 (by kernel_rfl) ?_
     refine tk_ #[true, false, true, false, false, false] 0 34 (by kernel_rfl) hHeld ?_
     refine tk_ #[true, true, true, false, false, false] 1 35 (by kernel_rfl) hHeld ?_
     refine one_ (i := 3) (N := some 37) #[true, true, true, true, false, false] rfl rfl (by kernel_rfl) (by decide) (fun K hK => ?_)
     refine goes_ Tryd.func106 (by kernel_rfl) rfl #[.agg #[.int .i64 t264, .slice Ao22 t265.length co22], .int .i64 x6_1] (by rfl) rfl rfl ma_ ?_
     with_reducible refine (spec_l02Left.calls k1 t264 _ _ t265 x6_1 t290 t291 _ ?side1 ?side2 A33.out).mono ?_
     (case side1 => exact cr_ HO_271001)
     (case side2 => exact (Kd.R_reads' HO_271001.out).2.1)
     rintro e w63 ⟨v292, rfl, ho0, hb⟩
     refine ⟨_, rfl, ?_⟩
     have HO293 := am_ (Kd.R_lower (Kd.R_new' (Kd.R_new' (Kd.R_new' (Kd.R_new' (Kd.R_new' (Kd.R_new' (Kd.R_new' ho0 (Kd.R_lt (kr_ HO_269001))) (Kd.R_lt (kr_ HO_270001))) (Kd.R_lt (kr_ HO_271001))) (Kd.R_lt (kr_ HO275))) (Kd.R_lt (kr_ HO279))) (Kd.R_lt (kr_ HO283))) (Kd.R_lt (kr_ HO287))) (below_size (bl_ HB))); replace HO_269001 := am_ (Kd.R_elder' (kr_ HO_269001) (Kd.R_base ho0) hb); replace HO_270001 := am_ (Kd.R_elder' (kr_ HO_270001) (Kd.R_base ho0) hb); replace HO_271001 := am_ (Kd.R_elder' (kr_ HO_271001) (Kd.R_base ho0) hb); replace HO275 := am_ (Kd.R_elder' (kr_ HO275) (Kd.R_base ho0) hb); replace HO279 := am_ (Kd.R_elder' (kr_ HO279) (Kd.R_base ho0) hb); replace HO283 := am_ (Kd.R_elder' (kr_ HO283) (Kd.R_base ho0) hb); replace HO287 := am_ (Kd.R_elder' (kr_ HO287) (Kd.R_base ho0) hb); replace BK262 := bb_ BK262 hb; replace BK263 := bb_ BK263 hb; replace BK268 := bb_ BK268 hb; replace BK269 := bb_ BK269 hb; replace BK270 := bb_ BK270 hb; replace BK288 := bb_ BK288 hb; replace HB := bs_ HB hb; (try clear hb); (try clear hb2); (try clear hk); (try clear hi); (try clear ho0)
     obtain ⟨Ao64, co64, eo64⟩ := Kd.R_slice HO293.out
     (first | subst eo64 | (injection eo64 with f1_ f2_ f3_; have f4_ := f1_.symm; have f5_ := f3_.symm; clear f1_ f2_ f3_; subst f4_; subst f5_))
     refine hK.out _ _ ⟨bc_ BK268 0, bc_ BK268 1, bc_ BK270 0, bc_ BK270 1⟩ (fun hHeld => ?_)
     clear hK K
     refine nr_ ?_
     refine one_ (i := 4) (N := some 38) #[true, true, true, true, true, false] rfl rfl (by kernel_rfl) (by decide) (fun K hK => ?_)
     refine goes_ Tryd.func105 (by kernel_rfl) rfl #[.agg #[.int .i64 x269000_1, .slice Ao35 x269001_1.length co35], .agg #[.int .i64 t290, .slice Ao64 t291.length co64]] (by rfl) rfl rfl ma_ ?_
     with_reducible refine (spec_l02Add.calls k1 x269000_1 _ _ x269001_1 t290 _ _ t291 t294 t295 _ ?side1 ?side2 ?side3 ?side4 A34.out).mono ?_
     (case side1 => exact cr_ HO_269001)
     (case side2 => exact (Kd.R_reads' HO_269001.out).2.1)
     (case side3 => exact cr_ HO293)
     (case side4 => exact (Kd.R_reads' HO293.out).2.1)
     rintro e w65 ⟨v296, rfl, ho0, hb⟩
     refine ⟨_, rfl, ?_⟩
     have HO297 := am_ (Kd.R_lower (Kd.R_new' (Kd.R_new' (Kd.R_new' (Kd.R_new' (Kd.R_new' (Kd.R_new' (Kd.R_new' (Kd.R_new' ho0 (Kd.R_lt (kr_ HO_269001))) (Kd.R_lt (kr_ HO_270001))) (Kd.R_lt (kr_ HO_271001))) (Kd.R_lt (kr_ HO275))) (Kd.R_lt (kr_ HO279))) (Kd.R_lt (kr_ HO283))) (Kd.R_lt (kr_ HO287))) (Kd.R_lt (kr_ HO293))) (below_size (bl_ HB))); replace HO_269001 := am_ (Kd.R_elder' (kr_ HO_269001) (Kd.R_base ho0) hb); replace HO_270001 := am_ (Kd.R_elder' (kr_ HO_270001) (Kd.R_base ho0) hb); replace HO_271001 := am_ (Kd.R_elder' (kr_ HO_271001) (Kd.R_base ho0) hb); replace HO275 := am_ (Kd.R_elder' (kr_ HO275) (Kd.R_base ho0) hb); replace HO279 := am_ (Kd.R_elder' (kr_ HO279) (Kd.R_base ho0) hb); replace HO283 := am_ (Kd.R_elder' (kr_ HO283) (Kd.R_base ho0) hb); replace HO287 := am_ (Kd.R_elder' (kr_ HO287) (Kd.R_base ho0) hb); replace HO293 := am_ (Kd.R_elder' (kr_ HO293) (Kd.R_base ho0) hb); replace BK262 := bb_ BK262 hb; replace BK263 := bb_ BK263 hb; replace BK268 := bb_ BK268 hb; replace BK269 := bb_ BK269 hb; replace BK270 := bb_ BK270 hb; replace BK288 := bb_ BK288 hb; replace HB := bs_ HB hb; (try clear hb); (try clear hb2); (try clear hk); (try clear hi); (try clear ho0)
     obtain ⟨Ao67, co67, eo67⟩ := Kd.R_slice HO297.out
     (first | subst eo67 | (injection eo67 with f1_ f2_ f3_; have f4_ := f1_.symm; have f5_ := f3_.symm; clear f1_ f2_ f3_; subst f4_; subst f5_))
     refine hK.out _ _ ⟨bc_ BK268 0, bc_ BK268 1, bc_ BK270 0, bc_ BK270 1⟩ (fun hHeld => ?_)
     clear hK K
     refine nr_ ?_
     refine last_ (i := 5) (N := none) #[true, true, true, true, true, true] rfl rfl (by kernel_rfl) (by decide) (fun K hK => ?_)
     have hs66 : w65.cell? ⟨gb268, 0, none⟩ = some (.int .i64 x269000_1) := bc_ BK268 0
     have hfs66 := blk_frozen BK268.out 0; have hns66_0 := NB262_268.out; have hns66_1 := NB263_268.out; have hns66_3 := NB269_268.out; have hns66_4 := NB270_268.out; have hns66_5 := NB288_268.out; have hms66_0 := NB268_262.out; have hms66_1 := NB268_263.out; have hms66_3 := NB268_269.out; have hms66_4 := NB268_270.out; have hms66_5 := NB268_288.out
     have hs68 : w65.cell? ⟨gb268, 1, none⟩ = some (.slice Ao35 x269001_1.length co35) := bc_ BK268 1
     have hfs68 := blk_frozen BK268.out 1; have hns68_0 := NB262_268.out; have hns68_1 := NB263_268.out; have hns68_3 := NB269_268.out; have hns68_4 := NB270_268.out; have hns68_5 := NB288_268.out; have hms68_0 := NB268_262.out; have hms68_1 := NB268_263.out; have hms68_3 := NB268_269.out; have hms68_4 := NB268_270.out; have hms68_5 := NB268_288.out
     refine skip_ (w1 := ?_) (by rfl) rfl ?_ ?_
     rotate_left
     ·go_simp
      rfl
     refine hK.out _ _ ?_
     clear hK K
     refine done_ (by kernel_rfl) ?_
     obtain ⟨hcz69_0, hcz69_1, hfz69_0, hfz69_1⟩ := ck2_ BK288; have hnb70 := NB269_263.out; have hnc70 := NB263_269.out; have hnb71 := NB269_268.out; have hnc71 := NB268_269.out; have hnb72 := NB269_270.out; have hnc72 := NB270_269.out
     obtain ⟨hcz73_0, hcz73_1, hfz73_0, hfz73_1⟩ := ck2_ BK269
     try go_wp2
     go_roundg k1
     case measure => have := HK1.out; omega
     case rel => exact ⟨(wrap64 (x6_1 - 1)), (t294), (t295), (t284), (t285), (.slice Ao67 t295.length co67), (.slice Ao48 t285.length co48), (by first | rfl | (simp; done) | (simp [*]; done)), H', ⟨by have := HK1.out; omega⟩, ⟨by (with_reducible repeat (first | apply Kd.R_alloc | apply Kd.R_drewN | apply Kd.R_drew)); exact Kd.R_mono (Kd.R_far (p := ⟨gb269, 1, none⟩) (Kd.R_far (p := ⟨gb269, 0, none⟩) (Kd.R_far (p := ⟨gb268, 1, none⟩) (Kd.R_far (p := ⟨gb268, 0, none⟩) (Kd.R_types (Kd.R_types HO297.out BK268.out (by decide)) BK269.out (by decide)) (fun _ hk => hk.1.2) (.int .i64 t294)) (fun _ hk => hk.1.2) (.slice Ao67 t295.length co67)) (fun _ hk => hk.2) (.int .i64 t284)) (fun _ hk => hk.2) (.slice Ao48 t285.length co48)) (fun _ hk => ⟨hk.1.1.1.2, hk.1.1.1.1.1.1.1.2⟩)⟩, ⟨by (with_reducible repeat (first | apply Kd.R_alloc | apply Kd.R_drewN | apply Kd.R_drew)); exact Kd.R_mono (Kd.R_far (p := ⟨gb269, 1, none⟩) (Kd.R_far (p := ⟨gb269, 0, none⟩) (Kd.R_far (p := ⟨gb268, 1, none⟩) (Kd.R_far (p := ⟨gb268, 0, none⟩) (Kd.R_types (Kd.R_types HO287.out BK268.out (by decide)) BK269.out (by decide)) (fun _ hk => hk.1.2) (.int .i64 t294)) (fun _ hk => hk.1.2) (.slice Ao67 t295.length co67)) (fun _ hk => hk.2) (.int .i64 t284)) (fun _ hk => hk.2) (.slice Ao48 t285.length co48)) (fun _ hk => ⟨hk.1.1.2, hk.1.1.1.1.2.2.2.2.2⟩)⟩, ⟨by (with_reducible repeat (first | apply Kd.R_alloc | apply Kd.R_drewN | apply Kd.R_drew)); exact Kd.R_mono (Kd.R_far (p := ⟨gb269, 1, none⟩) (Kd.R_far (p := ⟨gb269, 0, none⟩) (Kd.R_far (p := ⟨gb268, 1, none⟩) (Kd.R_far (p := ⟨gb268, 0, none⟩) (Kd.R_types (Kd.R_types HO_271001.out BK268.out (by decide)) BK269.out (by decide)) (fun _ hk => hk.1.2) (.int .i64 t294)) (fun _ hk => hk.1.2) (.slice Ao67 t295.length co67)) (fun _ hk => hk.2) (.int .i64 t284)) (fun _ hk => hk.2) (.slice Ao48 t285.length co48)) (fun _ hk => ⟨hk.1.1.2, hk.1.1.1.1.2.2.2.1⟩)⟩, ⟨bk_ BK262⟩, ⟨bk_ BK263⟩, ⟨by (with_reducible repeat (first | refine blk_drewN ?_ _ | refine blk_drew ?_ | refine blk_alloc ?_ _)); refine blk_far ?_ NB268_269.out _; (with_reducible repeat (first | refine blk_drewN ?_ _ | refine blk_drew ?_ | refine blk_alloc ?_ _)); refine blk_far ?_ NB268_269.out _; (with_reducible repeat (first | refine blk_drewN ?_ _ | refine blk_drew ?_ | refine blk_alloc ?_ _)); refine blk_put (cs := #[.int .i64 t294, .slice Ao35 x269001_1.length co35]) ?_ 1 _ rfl; (with_reducible repeat (first | refine blk_drewN ?_ _ | refine blk_drew ?_ | refine blk_alloc ?_ _)); refine blk_put (cs := #[.int .i64 x269000_1, .slice Ao35 x269001_1.length co35]) ?_ 0 _ rfl; (with_reducible repeat (first | refine blk_drewN ?_ _ | refine blk_drew ?_ | refine blk_alloc ?_ _)); exact BK268.out⟩, ⟨by (with_reducible repeat (first | refine blk_drewN ?_ _ | refine blk_drew ?_ | refine blk_alloc ?_ _)); refine blk_put (cs := #[.int .i64 t284, .slice Ao36 x270001_1.length co36]) ?_ 1 _ rfl; (with_reducible repeat (first | refine blk_drewN ?_ _ | refine blk_drew ?_ | refine blk_alloc ?_ _)); refine blk_put (cs := #[.int .i64 x270000_1, .slice Ao36 x270001_1.length co36]) ?_ 0 _ rfl; (with_reducible repeat (first | refine blk_drewN ?_ _ | refine blk_drew ?_ | refine blk_alloc ?_ _)); refine blk_far ?_ NB269_268.out _; (with_reducible repeat (first | refine blk_drewN ?_ _ | refine blk_drew ?_ | refine blk_alloc ?_ _)); refine blk_far ?_ NB269_268.out _; (with_reducible repeat (first | refine blk_drewN ?_ _ | refine blk_drew ?_ | refine blk_alloc ?_ _)); exact BK269.out⟩, ⟨bk_ BK270⟩, ⟨bl_ HB⟩⟩
    ·rw [if_neg c32] at H
     have c32b0 : decide (t289 ≤ 0) = false := decide_eq_false c32
     clear c32
     have H' := Aside0.mk H
     clear H
     have hnb89 := NB288_262.out; have hnc89 := NB262_288.out; have hnb90 := NB288_263.out; have hnc90 := NB263_288.out; have hnb91 := NB288_268.out; have hnc91 := NB268_288.out; have hnb92 := NB288_269.out; have hnc92 := NB269_288.out; have hnb93 := NB288_270.out; have hnc93 := NB270_288.out
     obtain ⟨hcz94_0, hcz94_1, hfz94_0, hfz94_1⟩ := ck2_ BK288; have hnb95 := NB262_263.out; have hnc95 := NB263_262.out; have hnb96 := NB262_268.out; have hnc96 := NB268_262.out; have hnb97 := NB262_269.out; have hnc97 := NB269_262.out; have hnb98 := NB262_270.out; have hnc98 := NB270_262.out
     obtain ⟨hcz99_0, hcz99_1, hfz99_0, hfz99_1⟩ := ck2_ BK262
     try go_wp2_with (first | ((with_reducible refine gate_callee (f := 107) rfl ?_); refine goesL_ (some 32) rfl rfl Tryd.func107 (by kernel_rfl) rfl #[.agg #[.int .i64 t284, .slice Ao48 t285.length co48], .agg #[.int .i64 a0_0, .slice A0_1 l0_1.length c0_1]] rfl ma_ ?_; (with_reducible refine (spec_l02Compare.calls k1 t284 _ _ t285 a0_0 _ _ l0_1 t289 _ ?side1 ?side2 ?side3 ?side4 A31.out).mono ?_); (case side1 => refine (Kd.R_reads' (e := 2) (base := w.heap.size) (ok := fun k_ => (some k_ ≠ (v274 : Value).ownBlock ∧ (some k_ ≠ (v278 : Value).ownBlock ∧ (some k_ ≠ (v282 : Value).ownBlock ∧ (some k_ ≠ (.slice Ao35 x269001_1.length co35 : Value).ownBlock ∧ (some k_ ≠ (.slice Ao36 x270001_1.length co36 : Value).ownBlock ∧ some k_ ≠ (.slice Ao22 t265.length co22 : Value).ownBlock)))))) (n := t285.length) (c := co48) ?_).2.2; exact (rg_ HO287 BK288)); (case side2 => exact (Kd.R_reads' HO287.out).2.1); (case side3 => exact Kd.C_below HR0_1.out (bl_ HB)); (case side4 => exact HC0_1.out); rintro e w100 ⟨rfl, hb⟩; refine ⟨_, rfl, ?_⟩; replace HO_269001 := am_ (Kd.R_below (rg_ HO_269001 BK288) hb); replace HO_270001 := am_ (Kd.R_below (rg_ HO_270001 BK288) hb); replace HO_271001 := am_ (Kd.R_below (rg_ HO_271001 BK288) hb); replace HO275 := am_ (Kd.R_below (rg_ HO275 BK288) hb); replace HO279 := am_ (Kd.R_below (rg_ HO279 BK288) hb); replace HO283 := am_ (Kd.R_below (rg_ HO283 BK288) hb); replace HO287 := am_ (Kd.R_below (rg_ HO287 BK288) hb); replace BK262 := bb_ BK262 hb; replace BK263 := bb_ BK263 hb; replace BK268 := bb_ BK268 hb; replace BK269 := bb_ BK269 hb; replace BK270 := bb_ BK270 hb; replace BK288 := am_ (blk_below (bp2_ BK288) hb); replace HB := bs_ HB hb; (try clear hb); (try clear hb2); (try clear hk); (try clear hi)))
     go_roundg k1
     case measure => have := HK1.out; omega
     case rel => exact ⟨(wrap64 (x6_1 - 1)), (x269000_1), (x269001_1), (x270000_1), (x270001_1), (.slice Ao35 x269001_1.length co35), (.slice Ao36 x270001_1.length co36), (by first | rfl | (simp; done) | (simp [*]; done)), H', ⟨by have := HK1.out; omega⟩, ⟨km_ HO_269001 (fun _ hk => ⟨hk.2.2.2.2.1, hk.2.2.2.2.2⟩)⟩, ⟨km_ HO_270001 (fun _ hk => ⟨hk.2.2.2.2.1, hk.2.2.2.2.2⟩)⟩, ⟨km_ HO_271001 (fun _ hk => ⟨hk.2.2.2.2.1, hk.2.2.2.2.2⟩)⟩, ⟨bk_ BK262⟩, ⟨bk_ BK263⟩, ⟨bk_ BK268⟩, ⟨bk_ BK269⟩, ⟨bk_ BK270⟩, ⟨bl_ HB⟩⟩
   ·rw [if_neg c26] at H
    have c26b0 : decide (0 ≤ x6_1) = false := decide_eq_false c26
    clear c26
    simp only [Option.some.injEq, Prod.mk.injEq] at H
    obtain ⟨rfl, rfl⟩ := H
    have hnb101 := NB268_262.out; have hnc101 := NB262_268.out; have hnb102 := NB268_263.out; have hnc102 := NB263_268.out; have hnb103 := NB268_269.out; have hnc103 := NB269_268.out; have hnb104 := NB268_270.out; have hnc104 := NB270_268.out
    obtain ⟨hcz105_0, hcz105_1, hfz105_0, hfz105_1⟩ := ck2_ BK268; have hnb106 := NB263_262.out; have hnc106 := NB262_263.out; have hnb107 := NB263_269.out; have hnc107 := NB269_263.out; have hnb108 := NB263_270.out; have hnc108 := NB270_263.out
    obtain ⟨hcz109_0, hcz109_1, hfz109_0, hfz109_1⟩ := ck2_ BK263
    obtain ⟨Ao110, co110, eo110⟩ := Kd.R_slice HO_269001.out
    subst eo110
    go_wp2
    refine bodyPost_ret (results_cell_row rfl _ _ gb263 26 #[.int .i64 x269000_1, .slice Ao110 x269001_1.length co110] (0, 0) _ rfl (bp2_ BK263) Tryd.underlying26 rfl (by kernel_rfl)) rfl ?_
    exact ⟨_, by first | rfl | (simp [errW_none, errW_some] <;> rfl) | (simp [*, errW_none, errW_some] <;> rfl), rt_ HO_269001 BK263, bl_ HB⟩
end Go.Proofs.YtghhphndbbefjaaDoor.X
