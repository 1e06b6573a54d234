/- Functions of the program as plain Lean functions, each with a proof that its call does what that function says. Printed by a program over the kit's print; conditions stand in each contract. -/
import Derived.Test.YtghhphndbbefjaaDoorSq
import Derived.Test.YtghhphndbbefjaaDoorX0
import Derived.Test.YtghhphndbbefjaaDoorX2
import Derived.Test.YtghhphndbbefjaaDoorX3
import Derived.Test.YtghhphndbbefjaaDoorX4
namespace Go.Proofs.YtghhphndbbefjaaDoor.X
open Go.RowKit Go.Proofs.YtghhphndbbefjaaDoorW.PrintWords Go.Proofs.YtghhphndbbefjaaDoorW.PrintLast Go.Proofs.YtghhphndbbefjaaDoorW.PrintMore Go.Proofs.YtghhphndbbefjaaDoor.Sq
attribute [local go_sem] max2_int min2_int max_two min_two max_three min_three max_four min_four   -- for this text's walks alone
set_option linter.unusedVariables false
set_option linter.unusedSimpArgs false

/-! ### spec_l02Common: function 58 -/
def spec_l02Common.l0 : Nat → Int → Int → Int → List Int → Int → List Int → Option (Int × List Int)
  | 0, _, _, _, _, _, _ => none
  | k + 1, x7, x8, x297000, x297001, x298000, x298001 => if x8 = 0 then ((spec_l02Left.f k x297000 x297001 x7).bind fun bt311 => (some (bt311.1, bt311.2))) else (if x8 < 0 then ((spec_l02Sub.f k x298000 x298001 x297000 x297001).bind fun bt315 => ((spec_l02Twos.f k bt315.1 bt315.2).bind fun t319 => ((spec_l02Cut.f k bt315.1 bt315.2 t319).bind fun bt320 => ((spec_l02Compare.f k x297000 x297001 bt320.1 bt320.2).bind fun t324 => (spec_l02Common.l0 k x7 t324 x297000 x297001 bt320.1 bt320.2))))) else ((spec_l02Sub.f k x297000 x297001 x298000 x298001).bind fun bt325 => ((spec_l02Twos.f k bt325.1 bt325.2).bind fun t329 => ((spec_l02Cut.f k bt325.1 bt325.2 t329).bind fun bt330 => ((spec_l02Compare.f k bt330.1 bt330.2 x298000 x298001).bind fun t334 => (spec_l02Common.l0 k x7 t334 bt330.1 bt330.2 x298000 x298001))))))
def spec_l02Common.f (k : Nat) (a0_0 : Int) (l0_1 : List Int) (a1_0 : Int) (l1_1 : List Int) : Option (Int × List Int) := (spec_l02Abs.f k a0_0 l0_1).bind fun bt288 => ((spec_l02Abs.f k a1_0 l1_1).bind fun bt292 => (if bt288.1 = 0 then (some (bt292.1, bt292.2)) else (if bt292.1 = 0 then (some (bt288.1, bt288.2)) else ((spec_l02Twos.f k bt288.1 bt288.2).bind fun t298 => ((spec_l02Twos.f k bt292.1 bt292.2).bind fun t299 => ((spec_l02Twos.f k bt288.1 bt288.2).bind fun t300 => ((spec_l02Cut.f k bt288.1 bt288.2 t300).bind fun bt301 => ((spec_l02Twos.f k bt292.1 bt292.2).bind fun t305 => ((spec_l02Cut.f k bt292.1 bt292.2 t305).bind fun bt306 => ((spec_l02Compare.f k bt301.1 bt301.2 bt306.1 bt306.2).bind fun t310 => (spec_l02Common.l0 k (mn t298 t299) t310 bt301.1 bt301.2 bt306.1 bt306.2)))))))))))
theorem spec_l02Common.mono_l : ∀ k, (∀ y0 y1 y2 y3 y4 y5, LeO (spec_l02Common.l0 k y0 y1 y2 y3 y4 y5) (spec_l02Common.l0 (k + 1) y0 y1 y2 y3 y4 y5))
  | 0 => fun _ _ _ _ _ _ r h => by simp [spec_l02Common.l0] at h
  | k + 1 => by
    have ih0 := spec_l02Common.mono_l k
    · intro y0 y1 y2 y3 y4 y5
      unfold spec_l02Common.l0
      repeat' first
      | (with_reducible exact ih0 _ _ _ _ _ _)
      | (with_reducible exact spec_l02Abs.mono _ _ _)
      | (with_reducible exact spec_l02Compare.mono _ _ _ _ _)
      | (with_reducible exact spec_l02Cut.mono _ _ _ _)
      | (with_reducible exact spec_l02Left.mono _ _ _ _)
      | (with_reducible exact spec_l02Sub.mono _ _ _ _ _)
      | (with_reducible exact spec_l02Twos.mono _ _ _)
      | (with_reducible exact LeO.refl _)
      | (with_reducible exact LeO.none _)
      | (with_reducible refine LeO.ite ?_ ?_)
      | (with_reducible refine LeO.bind ?_ (fun _ => ?_))
      | exact ih0 _ _ _ _ _ _
      | exact spec_l02Abs.mono _ _ _
      | exact spec_l02Compare.mono _ _ _ _ _
      | exact spec_l02Cut.mono _ _ _ _
      | exact spec_l02Left.mono _ _ _ _
      | exact spec_l02Sub.mono _ _ _ _ _
      | exact spec_l02Twos.mono _ _ _
      | exact LeO.none _
      | refine LeO.ite ?_ ?_
      | refine LeO.bind ?_ (fun _ => ?_)
theorem spec_l02Common.mono : ∀ a0 a1 a2 a3 k, LeO (spec_l02Common.f k a0 a1 a2 a3) (spec_l02Common.f (k + 1) a0 a1 a2 a3) := by
  intro a0 a1 a2 a3 k
  have ih0 := spec_l02Common.mono_l k
  unfold spec_l02Common.f
  repeat' first
      | (with_reducible exact ih0 _ _ _ _ _ _)
      | (with_reducible exact spec_l02Abs.mono _ _ _)
      | (with_reducible exact spec_l02Compare.mono _ _ _ _ _)
      | (with_reducible exact spec_l02Cut.mono _ _ _ _)
      | (with_reducible exact spec_l02Left.mono _ _ _ _)
      | (with_reducible exact spec_l02Sub.mono _ _ _ _ _)
      | (with_reducible exact spec_l02Twos.mono _ _ _)
      | (with_reducible exact LeO.refl _)
      | (with_reducible exact LeO.none _)
      | (with_reducible refine LeO.ite ?_ ?_)
      | (with_reducible refine LeO.bind ?_ (fun _ => ?_))
      | exact ih0 _ _ _ _ _ _
      | exact spec_l02Abs.mono _ _ _
      | exact spec_l02Compare.mono _ _ _ _ _
      | exact spec_l02Cut.mono _ _ _ _
      | exact spec_l02Left.mono _ _ _ _
      | exact spec_l02Sub.mono _ _ _ _ _
      | exact spec_l02Twos.mono _ _ _
      | exact LeO.none _
      | refine LeO.ite ?_ ?_
      | refine LeO.bind ?_ (fun _ => ?_)
def spec_l02Common.T1 : Bool × List (List Nat × List Nat) := (true, [([], []), ([0], [0]), ([], []), ([2, 1], [2]), ([], []), ([], []), ([4, 1, 3, 0, 1, 4, 5], [1, 4]), ([5, 3, 6, 0, 1, 2, 3, 4, 5, 6], [3, 5])])
def spec_l02Common.B1 : List Nat := [0, 1, 0, 7, 0, 0, 63, 127]
theorem spec_l02Common.tab1 : rtab .any (opsOf Tryd.f58 1) = spec_l02Common.T1 := by kernel_rfl
theorem spec_l02Common.bits1 : waitsOk spec_l02Common.T1.2 spec_l02Common.B1 = true := by kernel_rfl
set_option maxHeartbeats 8000000 in
set_option maxRecDepth 100000 in
theorem spec_l02Common.calls (k : Nat) (a0_0 : Int) (A0_1 : Option Addr) (c0_1 : Nat) (l0_1 : List Int) (a1_0 : Int) (A1_1 : Option Addr) (c1_1 : Nat) (l1_1 : List Int) (r1 : Int) (r2 : List Int) (w : World) (hr0_1 : Kd.C (Kd.int .i64) w A0_1 l0_1.length l0_1) (hc0_1 : l0_1.length ≤ c0_1) (hr1_1 : Kd.C (Kd.int .i64) w A1_1 l1_1.length l1_1) (hc1_1 : l1_1.length ≤ c1_1) (h : spec_l02Common.f k a0_0 l0_1 a1_0 l1_1 = some (r1, r2)) :
  Calls Tryd.prog 58 #[.agg #[.int .i64 a0_0, .slice A0_1 l0_1.length c0_1], .agg #[.int .i64 a1_0, .slice A1_1 l1_1.length c1_1]] w fun e w' => ∃ v1_ : Value, e = .returned (.agg #[.int .i64 r1, v1_]) ∧ Kd.R (Kd.int .i64) 2 w' w.heap.size (fun _ => True) v1_ r2 ∧ Below w.heap.size w w' := by
 have hu26 := Tryd.underlying26; have HR0_1 := Aside0.mk hr0_1; have HC0_1 := Aside0.mk hc0_1; clear hr0_1 hc0_1; have HR1_1 := Aside0.mk hr1_1; have HC1_1 := Aside0.mk hc1_1; clear hr1_1 hc1_1; have HB := am_ (Below.refl w.heap.size w)
 have H : ((spec_l02Abs.f k a0_0 l0_1).bind fun bt288 => ((spec_l02Abs.f k a1_0 l1_1).bind fun bt292 => (if bt288.1 = 0 then (some (bt292.1, bt292.2)) else (if bt292.1 = 0 then (some (bt288.1, bt288.2)) else ((spec_l02Twos.f k bt288.1 bt288.2).bind fun t298 => ((spec_l02Twos.f k bt292.1 bt292.2).bind fun t299 => ((spec_l02Twos.f k bt288.1 bt288.2).bind fun t300 => ((spec_l02Cut.f k bt288.1 bt288.2 t300).bind fun bt301 => ((spec_l02Twos.f k bt292.1 bt292.2).bind fun t305 => ((spec_l02Cut.f k bt292.1 bt292.2 t305).bind fun bt306 => ((spec_l02Compare.f k bt301.1 bt301.2 bt306.1 bt306.2).bind fun t310 => (spec_l02Common.l0 k (mn t298 t299) t310 bt301.1 bt301.2 bt306.1 bt306.2)))))))))))) = some (r1, r2) := h
 clear h
 replace H := Option.bind_eq_some_iff.mp H
 obtain ⟨⟨t288, t289⟩, A30, H⟩ := H
 replace H : ((spec_l02Abs.f k a1_0 l1_1).bind fun bt292 => (if t288 = 0 then (some (bt292.1, bt292.2)) else (if bt292.1 = 0 then (some (t288, t289)) else ((spec_l02Twos.f k t288 t289).bind fun t298 => ((spec_l02Twos.f k bt292.1 bt292.2).bind fun t299 => ((spec_l02Twos.f k t288 t289).bind fun t300 => ((spec_l02Cut.f k t288 t289 t300).bind fun bt301 => ((spec_l02Twos.f k bt292.1 bt292.2).bind fun t305 => ((spec_l02Cut.f k bt292.1 bt292.2 t305).bind fun bt306 => ((spec_l02Compare.f k bt301.1 bt301.2 bt306.1 bt306.2).bind fun t310 => (spec_l02Common.l0 k (mn t298 t299) t310 bt301.1 bt301.2 bt306.1 bt306.2))))))))))) = some (r1, r2) := H
 have A3 := Aside0.mk A30; clear A30
 replace H := Option.bind_eq_some_iff.mp H
 obtain ⟨⟨t292, t293⟩, A40, H⟩ := H
 replace H : (if t288 = 0 then (some (t292, t293)) else (if t292 = 0 then (some (t288, t289)) else ((spec_l02Twos.f k t288 t289).bind fun t298 => ((spec_l02Twos.f k t292 t293).bind fun t299 => ((spec_l02Twos.f k t288 t289).bind fun t300 => ((spec_l02Cut.f k t288 t289 t300).bind fun bt301 => ((spec_l02Twos.f k t292 t293).bind fun t305 => ((spec_l02Cut.f k t292 t293 t305).bind fun bt306 => ((spec_l02Compare.f k bt301.1 bt301.2 bt306.1 bt306.2).bind fun t310 => (spec_l02Common.l0 k (mn t298 t299) t310 bt301.1 bt301.2 bt306.1 bt306.2)))))))))) = some (r1, r2) := H
 have A4 := Aside0.mk A40; clear A40
 have HASIDE := Aside0.mk H; clear H
 go_enter Tryd.func58, Tryd.ntmps58
 try go_wp2_with (first | ((with_reducible refine gate_dst (N := 2) rfl ?_); refine box_event ?hg (N := 2) ?hd (cs := #[.int .i64 a0_0, .slice A0_1 l0_1.length c0_1]) (t := 26) ?hr ?_; (case hd => rfl); (case hg => rfl); (case hr => first | (go_simp; done) | (go_simp; rfl)); intro gb285 hg w6 hbox hb; have BK285 := am_ (hbox); have GW285 := am_ (gs_ hg HB); have GE285 := am_ (gs_ hg HB); replace HB := am_ (below_step (bl_ HB) hb); clear hb hbox hg) | ((with_reducible refine gate_dst (N := 3) rfl ?_); refine box_event ?hg (N := 3) ?hd (cs := #[.int .i64 a1_0, .slice A1_1 l1_1.length c1_1]) (t := 26) ?hr ?_; (case hd => rfl); (case hg => rfl); (case hr => first | (go_simp; done) | (go_simp; rfl)); intro gb286 hg w7 hbox hb; have BK286 := am_ (hbox); have GW286 := am_ (gs_ hg HB); have GE286 := am_ (gs_ hg HB); have NB285_286 := am_ (nl_ hg BK285); have NB286_285 := am_ (ng_ hg BK285); replace BK285 := am_ (blk_below (bk_ BK285) hb); replace HB := am_ (below_step (bl_ HB) hb); clear hb hbox hg) | ((with_reducible refine gate_dst (N := 4) rfl ?_); refine box_event ?hg (N := 4) ?hd (cs := #[.int .i64 0, .slice none 0 0]) (t := 26) ?hr ?_; (case hd => rfl); (case hg => rfl); (case hr => first | (go_simp; done) | (go_simp; rfl)); intro gb287 hg w8 hbox hb; have BK287 := am_ (hbox); have GW287 := am_ (gs_ hg HB); have GE287 := am_ (gs_ hg HB); have NB285_287 := am_ (nl_ hg BK285); have NB287_285 := am_ (ng_ hg BK285); have NB286_287 := am_ (nl_ hg BK286); have NB287_286 := am_ (ng_ hg BK286); replace BK285 := am_ (blk_below (bk_ BK285) hb); replace BK286 := am_ (blk_below (bk_ BK286) hb); replace HB := am_ (below_step (bl_ HB) hb); clear hb hbox hg))
 replace BK285 := am_ (blk_drew BK285.out); replace BK286 := am_ (blk_drew BK286.out); replace BK287 := am_ (blk_drew BK287.out); replace HB := am_ (below_drew1 HB.out)
 refine start_ (n := 8) (S := fun w' => w'.cell? ⟨gb285, 0, none⟩ = some (.int .i64 a0_0) ∧ w'.cell? ⟨gb285, 1, none⟩ = some (.slice A0_1 l0_1.length c0_1) ∧ w'.cell? ⟨gb286, 0, none⟩ = some (.int .i64 a1_0) ∧ w'.cell? ⟨gb286, 1, none⟩ = some (.slice A1_1 l1_1.length c1_1)) (ds := []) #[false, false, false, false, false, false, false, false] (by kernel_rfl) rfl rfl ⟨bc_ BK285 0, bc_ BK285 1, bc_ BK286 0, bc_ BK286 1⟩ (fun hHeld => ?_); refine with_tabW spec_l02Common.tab1 spec_l02Common.bits1 (fun HT_ HW_ => ?_)
 generalize w8.drew = w9 at BK285 BK286 BK287 HB hHeld ⊢
 refine take_ (i := 0) (N := some 9) (v := ?_) (a' := ?_) #[true, false, false, false, false, false, false, false] rfl rfl (take_ofW HT_.out HW_.out (by kernel_rfl)) (fun _ _ _ h => h) (Or.inl ⟨by rfl, ?_⟩) hHeld ?_ ?_
 rotate_left
 ·rintro w' ⟨s0, s1, s2, s3⟩
  go_simp
  with_reducible rfl
 rotate_left
 ·exact nm_
 refine take_ (i := 2) (N := some 11) (v := ?_) (a' := ?_) #[true, false, true, false, false, false, false, false] rfl rfl (take_ofW HT_.out HW_.out (by kernel_rfl)) (fun _ _ _ h => h) (Or.inl ⟨by rfl, ?_⟩) hHeld ?_ ?_
 rotate_left
 ·rintro w' ⟨s0, s1, s2, s3⟩
  go_simp
  with_reducible rfl
 rotate_left
 ·exact nm_
 refine join_ (σ := Value × Value × Nat × Nat) 2 #[true, true, true, true, true, true, false, false] (fun s_ => [(10, .agg #[.int .i64 t288, s_.1]), (12, .agg #[.int .i64 t292, s_.2.1]), (5, .pointer (some ⟨s_.2.2.1, 0, none⟩)), (6, .pointer (some ⟨s_.2.2.2, 0, none⟩))]) (fun s_ w' => (w'.cell? ⟨gb285, 0, none⟩ = some (.int .i64 a0_0) ∧ w'.cell? ⟨gb285, 1, none⟩ = some (.slice A0_1 l0_1.length c0_1) ∧ w'.cell? ⟨gb286, 0, none⟩ = some (.int .i64 a1_0) ∧ w'.cell? ⟨gb286, 1, none⟩ = some (.slice A1_1 l1_1.length c1_1)) ∧ (Kd.R (Kd.int .i64) 2 w' w.heap.size (fun k_ => some k_ ≠ (s_.2.1 : Value).ownBlock) s_.1 t289) ∧ (Kd.R (Kd.int .i64) 2 w' w.heap.size (fun k_ => some k_ ≠ (s_.1 : Value).ownBlock) s_.2.1 t293) ∧ (w'.heap[gb285]? = some (.cells #[.int .i64 a0_0, .slice A0_1 l0_1.length c0_1] 26 (0, 0))) ∧ (w'.heap[gb286]? = some (.cells #[.int .i64 a1_0, .slice A1_1 l1_1.length c1_1] 26 (0, 0))) ∧ (w'.heap[gb287]? = some (.cells #[.int .i64 0, .slice none 0 0] 26 (0, 0))) ∧ (w'.heap[s_.2.2.1]? = some (.cells #[.int .i64 0, .slice none 0 0] 26 (0, 0))) ∧ (w'.heap[s_.2.2.2]? = some (.cells #[.int .i64 0, .slice none 0 0] 26 (0, 0))) ∧ (w.heap.size ≤ s_.2.2.1) ∧ (w.heap.size ≤ s_.2.2.1) ∧ (gb285 ≠ s_.2.2.1) ∧ (s_.2.2.1 ≠ gb285) ∧ (gb286 ≠ s_.2.2.1) ∧ (s_.2.2.1 ≠ gb286) ∧ (gb287 ≠ s_.2.2.1) ∧ (s_.2.2.1 ≠ gb287) ∧ (s_.2.2.2 ≠ s_.2.2.1) ∧ (s_.2.2.1 ≠ s_.2.2.2) ∧ (w.heap.size ≤ s_.2.2.2) ∧ (w.heap.size ≤ s_.2.2.2) ∧ (gb285 ≠ s_.2.2.2) ∧ (s_.2.2.2 ≠ gb285) ∧ (gb286 ≠ s_.2.2.2) ∧ (s_.2.2.2 ≠ gb286) ∧ (gb287 ≠ s_.2.2.2) ∧ (s_.2.2.2 ≠ gb287) ∧ (Below w.heap.size w w')) ?_ ?_
 rotate_left
 ·intro hJ1_3_4_5
  refine join_ (σ := Value × Value × Nat) 3 #[true, true, true, true, true, false, false, false] (fun s_ => [(10, .agg #[.int .i64 t288, s_.1]), (12, .agg #[.int .i64 t292, s_.2.1]), (5, .pointer (some ⟨s_.2.2, 0, none⟩))]) (fun s_ w' => (w'.cell? ⟨gb285, 0, none⟩ = some (.int .i64 a0_0) ∧ w'.cell? ⟨gb285, 1, none⟩ = some (.slice A0_1 l0_1.length c0_1) ∧ w'.cell? ⟨gb286, 0, none⟩ = some (.int .i64 a1_0) ∧ w'.cell? ⟨gb286, 1, none⟩ = some (.slice A1_1 l1_1.length c1_1)) ∧ (Kd.R (Kd.int .i64) 2 w' w.heap.size (fun k_ => some k_ ≠ (s_.2.1 : Value).ownBlock) s_.1 t289) ∧ (Kd.R (Kd.int .i64) 2 w' w.heap.size (fun k_ => some k_ ≠ (s_.1 : Value).ownBlock) s_.2.1 t293) ∧ (w'.heap[gb285]? = some (.cells #[.int .i64 a0_0, .slice A0_1 l0_1.length c0_1] 26 (0, 0))) ∧ (w'.heap[gb286]? = some (.cells #[.int .i64 a1_0, .slice A1_1 l1_1.length c1_1] 26 (0, 0))) ∧ (w'.heap[gb287]? = some (.cells #[.int .i64 0, .slice none 0 0] 26 (0, 0))) ∧ (w'.heap[s_.2.2]? = some (.cells #[.int .i64 0, .slice none 0 0] 26 (0, 0))) ∧ (w.heap.size ≤ s_.2.2) ∧ (w.heap.size ≤ s_.2.2) ∧ (gb285 ≠ s_.2.2) ∧ (s_.2.2 ≠ gb285) ∧ (gb286 ≠ s_.2.2) ∧ (s_.2.2 ≠ gb286) ∧ (gb287 ≠ s_.2.2) ∧ (s_.2.2 ≠ gb287) ∧ (Below w.heap.size w w')) ?_ ?_
  rotate_left
  ·intro hJ1_3_4
   refine join_ (σ := Value × Value × Nat) 3 #[true, true, true, true, false, true, false, false] (fun s_ => [(10, .agg #[.int .i64 t288, s_.1]), (12, .agg #[.int .i64 t292, s_.2.1]), (6, .pointer (some ⟨s_.2.2, 0, none⟩))]) (fun s_ w' => (w'.cell? ⟨gb285, 0, none⟩ = some (.int .i64 a0_0) ∧ w'.cell? ⟨gb285, 1, none⟩ = some (.slice A0_1 l0_1.length c0_1) ∧ w'.cell? ⟨gb286, 0, none⟩ = some (.int .i64 a1_0) ∧ w'.cell? ⟨gb286, 1, none⟩ = some (.slice A1_1 l1_1.length c1_1)) ∧ (Kd.R (Kd.int .i64) 2 w' w.heap.size (fun k_ => some k_ ≠ (s_.2.1 : Value).ownBlock) s_.1 t289) ∧ (Kd.R (Kd.int .i64) 2 w' w.heap.size (fun k_ => some k_ ≠ (s_.1 : Value).ownBlock) s_.2.1 t293) ∧ (w'.heap[gb285]? = some (.cells #[.int .i64 a0_0, .slice A0_1 l0_1.length c0_1] 26 (0, 0))) ∧ (w'.heap[gb286]? = some (.cells #[.int .i64 a1_0, .slice A1_1 l1_1.length c1_1] 26 (0, 0))) ∧ (w'.heap[gb287]? = some (.cells #[.int .i64 0, .slice none 0 0] 26 (0, 0))) ∧ (w'.heap[s_.2.2]? = some (.cells #[.int .i64 0, .slice none 0 0] 26 (0, 0))) ∧ (w.heap.size ≤ s_.2.2) ∧ (w.heap.size ≤ s_.2.2) ∧ (gb285 ≠ s_.2.2) ∧ (s_.2.2 ≠ gb285) ∧ (gb286 ≠ s_.2.2) ∧ (s_.2.2 ≠ gb286) ∧ (gb287 ≠ s_.2.2) ∧ (s_.2.2 ≠ gb287) ∧ (Below w.heap.size w w')) ?_ ?_
   rotate_left
   ·intro hJ1_3_5
    refine join_ (σ := Value × Nat × Nat) 3 #[true, true, true, false, true, true, false, false] (fun s_ => [(10, .agg #[.int .i64 t288, s_.1]), (5, .pointer (some ⟨s_.2.1, 0, none⟩)), (6, .pointer (some ⟨s_.2.2, 0, none⟩))]) (fun s_ w' => (w'.cell? ⟨gb285, 0, none⟩ = some (.int .i64 a0_0) ∧ w'.cell? ⟨gb285, 1, none⟩ = some (.slice A0_1 l0_1.length c0_1) ∧ w'.cell? ⟨gb286, 0, none⟩ = some (.int .i64 a1_0) ∧ w'.cell? ⟨gb286, 1, none⟩ = some (.slice A1_1 l1_1.length c1_1)) ∧ (Kd.R (Kd.int .i64) 2 w' w.heap.size (fun _ => True) s_.1 t289) ∧ (w'.heap[gb285]? = some (.cells #[.int .i64 a0_0, .slice A0_1 l0_1.length c0_1] 26 (0, 0))) ∧ (w'.heap[gb286]? = some (.cells #[.int .i64 a1_0, .slice A1_1 l1_1.length c1_1] 26 (0, 0))) ∧ (w'.heap[gb287]? = some (.cells #[.int .i64 0, .slice none 0 0] 26 (0, 0))) ∧ (w'.heap[s_.2.1]? = some (.cells #[.int .i64 0, .slice none 0 0] 26 (0, 0))) ∧ (w'.heap[s_.2.2]? = some (.cells #[.int .i64 0, .slice none 0 0] 26 (0, 0))) ∧ (w.heap.size ≤ s_.2.1) ∧ (w.heap.size ≤ s_.2.1) ∧ (gb285 ≠ s_.2.1) ∧ (s_.2.1 ≠ gb285) ∧ (gb286 ≠ s_.2.1) ∧ (s_.2.1 ≠ gb286) ∧ (gb287 ≠ s_.2.1) ∧ (s_.2.1 ≠ gb287) ∧ (s_.2.2 ≠ s_.2.1) ∧ (s_.2.1 ≠ s_.2.2) ∧ (w.heap.size ≤ s_.2.2) ∧ (w.heap.size ≤ s_.2.2) ∧ (gb285 ≠ s_.2.2) ∧ (s_.2.2 ≠ gb285) ∧ (gb286 ≠ s_.2.2) ∧ (s_.2.2 ≠ gb286) ∧ (gb287 ≠ s_.2.2) ∧ (s_.2.2 ≠ gb287) ∧ (Below w.heap.size w w')) ?_ ?_
    rotate_left
    ·intro hJ1_4_5
     refine join_ (σ := Value × Value) 4 #[true, true, true, true, false, false, false, false] (fun s_ => [(10, .agg #[.int .i64 t288, s_.1]), (12, .agg #[.int .i64 t292, s_.2])]) (fun s_ w' => (w'.cell? ⟨gb285, 0, none⟩ = some (.int .i64 a0_0) ∧ w'.cell? ⟨gb285, 1, none⟩ = some (.slice A0_1 l0_1.length c0_1) ∧ w'.cell? ⟨gb286, 0, none⟩ = some (.int .i64 a1_0) ∧ w'.cell? ⟨gb286, 1, none⟩ = some (.slice A1_1 l1_1.length c1_1)) ∧ (Kd.R (Kd.int .i64) 2 w' w.heap.size (fun k_ => some k_ ≠ (s_.2 : Value).ownBlock) s_.1 t289) ∧ (Kd.R (Kd.int .i64) 2 w' w.heap.size (fun k_ => some k_ ≠ (s_.1 : Value).ownBlock) s_.2 t293) ∧ (w'.heap[gb285]? = some (.cells #[.int .i64 a0_0, .slice A0_1 l0_1.length c0_1] 26 (0, 0))) ∧ (w'.heap[gb286]? = some (.cells #[.int .i64 a1_0, .slice A1_1 l1_1.length c1_1] 26 (0, 0))) ∧ (w'.heap[gb287]? = some (.cells #[.int .i64 0, .slice none 0 0] 26 (0, 0))) ∧ (Below w.heap.size w w')) ?_ ?_
     rotate_left
     ·intro hJ1_3
      refine join_ (σ := Value × Nat) 4 #[true, true, true, false, true, false, false, false] (fun s_ => [(10, .agg #[.int .i64 t288, s_.1]), (5, .pointer (some ⟨s_.2, 0, none⟩))]) (fun s_ w' => (w'.cell? ⟨gb285, 0, none⟩ = some (.int .i64 a0_0) ∧ w'.cell? ⟨gb285, 1, none⟩ = some (.slice A0_1 l0_1.length c0_1) ∧ w'.cell? ⟨gb286, 0, none⟩ = some (.int .i64 a1_0) ∧ w'.cell? ⟨gb286, 1, none⟩ = some (.slice A1_1 l1_1.length c1_1)) ∧ (Kd.R (Kd.int .i64) 2 w' w.heap.size (fun _ => True) s_.1 t289) ∧ (w'.heap[gb285]? = some (.cells #[.int .i64 a0_0, .slice A0_1 l0_1.length c0_1] 26 (0, 0))) ∧ (w'.heap[gb286]? = some (.cells #[.int .i64 a1_0, .slice A1_1 l1_1.length c1_1] 26 (0, 0))) ∧ (w'.heap[gb287]? = some (.cells #[.int .i64 0, .slice none 0 0] 26 (0, 0))) ∧ (w'.heap[s_.2]? = some (.cells #[.int .i64 0, .slice none 0 0] 26 (0, 0))) ∧ (w.heap.size ≤ s_.2) ∧ (w.heap.size ≤ s_.2) ∧ (gb285 ≠ s_.2) ∧ (s_.2 ≠ gb285) ∧ (gb286 ≠ s_.2) ∧ (s_.2 ≠ gb286) ∧ (gb287 ≠ s_.2) ∧ (s_.2 ≠ gb287) ∧ (Below w.heap.size w w')) ?_ ?_
      rotate_left
      ·intro hJ1_4
       refine join_ (σ := Value × Nat) 4 #[true, true, true, false, false, true, false, false] (fun s_ => [(10, .agg #[.int .i64 t288, s_.1]), (6, .pointer (some ⟨s_.2, 0, none⟩))]) (fun s_ w' => (w'.cell? ⟨gb285, 0, none⟩ = some (.int .i64 a0_0) ∧ w'.cell? ⟨gb285, 1, none⟩ = some (.slice A0_1 l0_1.length c0_1) ∧ w'.cell? ⟨gb286, 0, none⟩ = some (.int .i64 a1_0) ∧ w'.cell? ⟨gb286, 1, none⟩ = some (.slice A1_1 l1_1.length c1_1)) ∧ (Kd.R (Kd.int .i64) 2 w' w.heap.size (fun _ => True) s_.1 t289) ∧ (w'.heap[gb285]? = some (.cells #[.int .i64 a0_0, .slice A0_1 l0_1.length c0_1] 26 (0, 0))) ∧ (w'.heap[gb286]? = some (.cells #[.int .i64 a1_0, .slice A1_1 l1_1.length c1_1] 26 (0, 0))) ∧ (w'.heap[gb287]? = some (.cells #[.int .i64 0, .slice none 0 0] 26 (0, 0))) ∧ (w'.heap[s_.2]? = some (.cells #[.int .i64 0, .slice none 0 0] 26 (0, 0))) ∧ (w.heap.size ≤ s_.2) ∧ (w.heap.size ≤ s_.2) ∧ (gb285 ≠ s_.2) ∧ (s_.2 ≠ gb285) ∧ (gb286 ≠ s_.2) ∧ (s_.2 ≠ gb286) ∧ (gb287 ≠ s_.2) ∧ (s_.2 ≠ gb287) ∧ (Below w.heap.size w w')) ?_ ?_
       rotate_left
       ·intro hJ1_5
        refine join_ (σ := Nat × Nat) 4 #[true, false, true, false, true, true, false, false] (fun s_ => [(5, .pointer (some ⟨s_.1, 0, none⟩)), (6, .pointer (some ⟨s_.2, 0, none⟩))]) (fun s_ w' => (w'.cell? ⟨gb285, 0, none⟩ = some (.int .i64 a0_0) ∧ w'.cell? ⟨gb285, 1, none⟩ = some (.slice A0_1 l0_1.length c0_1) ∧ w'.cell? ⟨gb286, 0, none⟩ = some (.int .i64 a1_0) ∧ w'.cell? ⟨gb286, 1, none⟩ = some (.slice A1_1 l1_1.length c1_1)) ∧ (w'.heap[gb285]? = some (.cells #[.int .i64 a0_0, .slice A0_1 l0_1.length c0_1] 26 (0, 0))) ∧ (w'.heap[gb286]? = some (.cells #[.int .i64 a1_0, .slice A1_1 l1_1.length c1_1] 26 (0, 0))) ∧ (w'.heap[gb287]? = some (.cells #[.int .i64 0, .slice none 0 0] 26 (0, 0))) ∧ (w'.heap[s_.1]? = some (.cells #[.int .i64 0, .slice none 0 0] 26 (0, 0))) ∧ (w'.heap[s_.2]? = some (.cells #[.int .i64 0, .slice none 0 0] 26 (0, 0))) ∧ (w.heap.size ≤ s_.1) ∧ (w.heap.size ≤ s_.1) ∧ (gb285 ≠ s_.1) ∧ (s_.1 ≠ gb285) ∧ (gb286 ≠ s_.1) ∧ (s_.1 ≠ gb286) ∧ (gb287 ≠ s_.1) ∧ (s_.1 ≠ gb287) ∧ (s_.2 ≠ s_.1) ∧ (s_.1 ≠ s_.2) ∧ (w.heap.size ≤ s_.2) ∧ (w.heap.size ≤ s_.2) ∧ (gb285 ≠ s_.2) ∧ (s_.2 ≠ gb285) ∧ (gb286 ≠ s_.2) ∧ (s_.2 ≠ gb286) ∧ (gb287 ≠ s_.2) ∧ (s_.2 ≠ gb287) ∧ (Below w.heap.size w w')) ?_ ?_
        rotate_left
        ·intro hJ4_5
         refine join_ (σ := Value) 5 #[true, true, true, false, false, false, false, false] (fun s_ => [(10, .agg #[.int .i64 t288, s_])]) (fun s_ w' => (w'.cell? ⟨gb285, 0, none⟩ = some (.int .i64 a0_0) ∧ w'.cell? ⟨gb285, 1, none⟩ = some (.slice A0_1 l0_1.length c0_1) ∧ w'.cell? ⟨gb286, 0, none⟩ = some (.int .i64 a1_0) ∧ w'.cell? ⟨gb286, 1, none⟩ = some (.slice A1_1 l1_1.length c1_1)) ∧ (Kd.R (Kd.int .i64) 2 w' w.heap.size (fun _ => True) s_ t289) ∧ (w'.heap[gb285]? = some (.cells #[.int .i64 a0_0, .slice A0_1 l0_1.length c0_1] 26 (0, 0))) ∧ (w'.heap[gb286]? = some (.cells #[.int .i64 a1_0, .slice A1_1 l1_1.length c1_1] 26 (0, 0))) ∧ (w'.heap[gb287]? = some (.cells #[.int .i64 0, .slice none 0 0] 26 (0, 0))) ∧ (Below w.heap.size w w')) ?_ ?_
         rotate_left
         ·intro hJ1
          refine join_ (σ := Nat) 5 #[true, false, true, false, true, false, false, false] (fun s_ => [(5, .pointer (some ⟨s_, 0, none⟩))]) (fun s_ w' => (w'.cell? ⟨gb285, 0, none⟩ = some (.int .i64 a0_0) ∧ w'.cell? ⟨gb285, 1, none⟩ = some (.slice A0_1 l0_1.length c0_1) ∧ w'.cell? ⟨gb286, 0, none⟩ = some (.int .i64 a1_0) ∧ w'.cell? ⟨gb286, 1, none⟩ = some (.slice A1_1 l1_1.length c1_1)) ∧ (w'.heap[gb285]? = some (.cells #[.int .i64 a0_0, .slice A0_1 l0_1.length c0_1] 26 (0, 0))) ∧ (w'.heap[gb286]? = some (.cells #[.int .i64 a1_0, .slice A1_1 l1_1.length c1_1] 26 (0, 0))) ∧ (w'.heap[gb287]? = some (.cells #[.int .i64 0, .slice none 0 0] 26 (0, 0))) ∧ (w'.heap[s_]? = some (.cells #[.int .i64 0, .slice none 0 0] 26 (0, 0))) ∧ (w.heap.size ≤ s_) ∧ (w.heap.size ≤ s_) ∧ (gb285 ≠ s_) ∧ (s_ ≠ gb285) ∧ (gb286 ≠ s_) ∧ (s_ ≠ gb286) ∧ (gb287 ≠ s_) ∧ (s_ ≠ gb287) ∧ (Below w.heap.size w w')) ?_ ?_
          rotate_left
          ·intro hJ4
           refine join_ (σ := Nat) 5 #[true, false, true, false, false, true, false, false] (fun s_ => [(6, .pointer (some ⟨s_, 0, none⟩))]) (fun s_ w' => (w'.cell? ⟨gb285, 0, none⟩ = some (.int .i64 a0_0) ∧ w'.cell? ⟨gb285, 1, none⟩ = some (.slice A0_1 l0_1.length c0_1) ∧ w'.cell? ⟨gb286, 0, none⟩ = some (.int .i64 a1_0) ∧ w'.cell? ⟨gb286, 1, none⟩ = some (.slice A1_1 l1_1.length c1_1)) ∧ (w'.heap[gb285]? = some (.cells #[.int .i64 a0_0, .slice A0_1 l0_1.length c0_1] 26 (0, 0))) ∧ (w'.heap[gb286]? = some (.cells #[.int .i64 a1_0, .slice A1_1 l1_1.length c1_1] 26 (0, 0))) ∧ (w'.heap[gb287]? = some (.cells #[.int .i64 0, .slice none 0 0] 26 (0, 0))) ∧ (w'.heap[s_]? = some (.cells #[.int .i64 0, .slice none 0 0] 26 (0, 0))) ∧ (w.heap.size ≤ s_) ∧ (w.heap.size ≤ s_) ∧ (gb285 ≠ s_) ∧ (s_ ≠ gb285) ∧ (gb286 ≠ s_) ∧ (s_ ≠ gb286) ∧ (gb287 ≠ s_) ∧ (s_ ≠ gb287) ∧ (Below w.heap.size w w')) ?_ ?_
           rotate_left
           ·intro hJ5
            refine three_ (i := 1) (j := 4) (k := 5) (Ni := some 10) (Nj := some 5) (Nk := some 6) #[true, true, true, false, false, false, false, false] #[true, false, true, false, true, false, false, false] #[true, false, true, false, false, true, false, false] rfl rfl rfl rfl rfl rfl (three_of HT_.out (by kernel_rfl)) (by decide) (by decide) (by decide) (fun K hK => ?_) (fun K hK => ?_) (fun K hK => ?_)
            ·skip
             refine goes_ Tryd.func111 (by kernel_rfl) rfl #[.agg #[.int .i64 a0_0, .slice A0_1 l0_1.length c0_1]] (by rfl) rfl rfl ma_ ?_
             with_reducible refine (spec_l02Abs.calls k a0_0 _ _ l0_1 t288 t289 _ ?side1 ?side2 A3.out).mono ?_
             (case side1 => exact cb_ HR0_1 HB)
             (case side2 => exact HC0_1.out)
             rintro e w10 ⟨v290, rfl, ho0, hb⟩
             refine ⟨_, rfl, ?_⟩
             have HO291 := am_ (Kd.R_lower ho0 (below_size (bl_ HB))); replace BK285 := am_ (blk_below (bk_ BK285) hb); replace BK286 := am_ (blk_below (bk_ BK286) hb); replace BK287 := am_ (blk_below (bk_ BK287) hb); replace HB := am_ (below_step (bl_ HB) hb); (try clear hb); (try clear hb2); (try clear hk); (try clear hi); (try clear ho0)
             refine hK.out _ _ ⟨bc_ BK285 0, bc_ BK285 1, bc_ BK286 0, bc_ BK286 1⟩ (fun hHeld => ?_)
             clear hK K
             refine norm_ (a' := ?_) ?_ ?_
             rotate_left
             ·show Act.put _ (some 10) _ = _
              exact nm_
             exact norm_ (by first | (simp only [putAll, Act.put, List.setIfInBounds_toArray, List.set_cons_zero, List.set_cons_succ]; done) | (simp only [putAll, Act.put, List.setIfInBounds_toArray, List.set_cons_zero, List.set_cons_succ]; rfl)) (hJ1 (v290) _ ⟨hHeld, (kr_ HO291), (bk_ BK285), (bk_ BK286), (bk_ BK287), (bl_ HB)⟩)
            ·skip
             refine box_step ?hg (N := 5) ?hd (cs := #[.int .i64 0, .slice none 0 0]) (t := 26) ?hr ?_; (case hd => rfl); (case hg => rfl); (case hr => first | (go_simp; done) | (go_simp; rfl))
             intro gb296 hg w10 hbox hb
             have BK296 := am_ (hbox); have GW296 := am_ (gs_ hg HB); have GE296 := am_ (gs_ hg HB); replace HB := am_ (below_step (bl_ HB) hb); have NB285_296 := am_ (nl_ hg BK285); have NB296_285 := am_ (ng_ hg BK285); replace BK285 := am_ (blk_below (bk_ BK285) hb); have NB286_296 := am_ (nl_ hg BK286); have NB296_286 := am_ (ng_ hg BK286); replace BK286 := am_ (blk_below (bk_ BK286) hb); have NB287_296 := am_ (nl_ hg BK287); have NB296_287 := am_ (ng_ hg BK287); replace BK287 := am_ (blk_below (bk_ BK287) hb); clear hb hbox hg
             refine hK.out _ _ ⟨bc_ BK285 0, bc_ BK285 1, bc_ BK286 0, bc_ BK286 1⟩ (fun hHeld => ?_)
             clear hK K
             refine norm_ (a' := ?_) ?_ ?_
             rotate_left
             ·show Act.put _ (some 5) _ = _
              exact nm_
             exact norm_ (by first | (simp only [putAll, Act.put, List.setIfInBounds_toArray, List.set_cons_zero, List.set_cons_succ]; done) | (simp only [putAll, Act.put, List.setIfInBounds_toArray, List.set_cons_zero, List.set_cons_succ]; rfl)) (hJ4 (gb296) _ ⟨hHeld, (bk_ BK285), (bk_ BK286), (bk_ BK287), (bk_ BK296), GW296.out, GE296.out, NB285_296.out, NB296_285.out, NB286_296.out, NB296_286.out, NB287_296.out, NB296_287.out, (bl_ HB)⟩)
            ·skip
             refine box_step ?hg (N := 6) ?hd (cs := #[.int .i64 0, .slice none 0 0]) (t := 26) ?hr ?_; (case hd => rfl); (case hg => rfl); (case hr => first | (go_simp; done) | (go_simp; rfl))
             intro gb297 hg w10 hbox hb
             have BK297 := am_ (hbox); have GW297 := am_ (gs_ hg HB); have GE297 := am_ (gs_ hg HB); replace HB := am_ (below_step (bl_ HB) hb); have NB285_297 := am_ (nl_ hg BK285); have NB297_285 := am_ (ng_ hg BK285); replace BK285 := am_ (blk_below (bk_ BK285) hb); have NB286_297 := am_ (nl_ hg BK286); have NB297_286 := am_ (ng_ hg BK286); replace BK286 := am_ (blk_below (bk_ BK286) hb); have NB287_297 := am_ (nl_ hg BK287); have NB297_287 := am_ (ng_ hg BK287); replace BK287 := am_ (blk_below (bk_ BK287) hb); clear hb hbox hg
             refine hK.out _ _ ⟨bc_ BK285 0, bc_ BK285 1, bc_ BK286 0, bc_ BK286 1⟩ (fun hHeld => ?_)
             clear hK K
             refine norm_ (a' := ?_) ?_ ?_
             rotate_left
             ·show Act.put _ (some 6) _ = _
              exact nm_
             exact norm_ (by first | (simp only [putAll, Act.put, List.setIfInBounds_toArray, List.set_cons_zero, List.set_cons_succ]; done) | (simp only [putAll, Act.put, List.setIfInBounds_toArray, List.set_cons_zero, List.set_cons_succ]; rfl)) (hJ5 (gb297) _ ⟨hHeld, (bk_ BK285), (bk_ BK286), (bk_ BK287), (bk_ BK297), GW297.out, GE297.out, NB285_297.out, NB297_285.out, NB286_297.out, NB297_286.out, NB287_297.out, NB297_287.out, (bl_ HB)⟩)
           ·skip
            rintro gb297 w11 ⟨hS_, h0_, h1_, h2_, h3_, h4_, h5_, h6_, h7_, h8_, h9_, h10_, h11_, h12_⟩
            have n0_ : Aside0 (w11.heap[gb285]? = some (.cells #[.int .i64 a0_0, .slice A0_1 l0_1.length c0_1] 26 (0, 0))) := ⟨h0_⟩
            have n1_ : Aside0 (w11.heap[gb286]? = some (.cells #[.int .i64 a1_0, .slice A1_1 l1_1.length c1_1] 26 (0, 0))) := ⟨h1_⟩
            have n2_ : Aside0 (w11.heap[gb287]? = some (.cells #[.int .i64 0, .slice none 0 0] 26 (0, 0))) := ⟨h2_⟩
            have n3_ : Aside0 (w11.heap[gb297]? = some (.cells #[.int .i64 0, .slice none 0 0] 26 (0, 0))) := ⟨h3_⟩
            have n4_ : Aside0 (w.heap.size ≤ gb297) := ⟨h4_⟩
            have n5_ : Aside0 (w.heap.size ≤ gb297) := ⟨h5_⟩
            have n6_ : Aside0 (gb285 ≠ gb297) := ⟨h6_⟩
            have n7_ : Aside0 (gb297 ≠ gb285) := ⟨h7_⟩
            have n8_ : Aside0 (gb286 ≠ gb297) := ⟨h8_⟩
            have n9_ : Aside0 (gb297 ≠ gb286) := ⟨h9_⟩
            have n10_ : Aside0 (gb287 ≠ gb297) := ⟨h10_⟩
            have n11_ : Aside0 (gb297 ≠ gb287) := ⟨h11_⟩
            have n12_ : Aside0 (Below w.heap.size w w11) := ⟨h12_⟩
            clear BK285 BK286 BK287 HB h0_ h1_ h2_ h3_ h4_ h5_ h6_ h7_ h8_ h9_ h10_ h11_ h12_; have BK285 := n0_; have BK286 := n1_; have BK287 := n2_; have BK297 := n3_; have GW297 := n4_; have GE297 := n5_; have NB285_297 := n6_; have NB297_285 := n7_; have NB286_297 := n8_; have NB297_286 := n9_; have NB287_297 := n10_; have NB297_287 := n11_; have HB := n12_; clear n0_ n1_ n2_ n3_ n4_ n5_ n6_ n7_ n8_ n9_ n10_ n11_ n12_
            have hHeld : w11.cell? ⟨gb285, 0, none⟩ = some (.int .i64 a0_0) ∧ w11.cell? ⟨gb285, 1, none⟩ = some (.slice A0_1 l0_1.length c0_1) ∧ w11.cell? ⟨gb286, 0, none⟩ = some (.int .i64 a1_0) ∧ w11.cell? ⟨gb286, 1, none⟩ = some (.slice A1_1 l1_1.length c1_1) := hS_
            refine norm_ (a' := ?_) ?_ ?_
            rotate_left
            ·simp only [putAll, Act.put, List.setIfInBounds_toArray, List.set_cons_zero, List.set_cons_succ]
             rfl
            refine two_ (i := 1) (j := 4) (Ni := some 10) (Nj := some 5) #[true, true, true, false, false, true, false, false] #[true, false, true, false, true, true, false, false] rfl rfl rfl rfl (two_of HT_.out (by kernel_rfl)) (by decide) (by decide) (fun K hK => ?_) (fun K hK => ?_)
            ·skip
             refine goes_ Tryd.func111 (by kernel_rfl) rfl #[.agg #[.int .i64 a0_0, .slice A0_1 l0_1.length c0_1]] (by rfl) rfl rfl ma_ ?_
             with_reducible refine (spec_l02Abs.calls k a0_0 _ _ l0_1 t288 t289 _ ?side1 ?side2 A3.out).mono ?_
             (case side1 => exact cb_ HR0_1 HB)
             (case side2 => exact HC0_1.out)
             rintro e w12 ⟨v290, rfl, ho0, hb⟩
             refine ⟨_, rfl, ?_⟩
             have HO291 := am_ (Kd.R_lower ho0 (below_size (bl_ HB))); replace BK285 := am_ (blk_below (bk_ BK285) hb); replace BK286 := am_ (blk_below (bk_ BK286) hb); replace BK287 := am_ (blk_below (bk_ BK287) hb); replace BK297 := am_ (blk_below (bk_ BK297) hb); replace HB := am_ (below_step (bl_ HB) hb); (try clear hb); (try clear hb2); (try clear hk); (try clear hi); (try clear ho0)
             refine hK.out _ _ ⟨bc_ BK285 0, bc_ BK285 1, bc_ BK286 0, bc_ BK286 1⟩ (fun hHeld => ?_)
             clear hK K
             refine norm_ (a' := ?_) ?_ ?_
             rotate_left
             ·show Act.put _ (some 10) _ = _
              exact nm_
             exact norm_ (by first | (simp only [putAll, Act.put, List.setIfInBounds_toArray, List.set_cons_zero, List.set_cons_succ]; done) | (simp only [putAll, Act.put, List.setIfInBounds_toArray, List.set_cons_zero, List.set_cons_succ]; rfl)) (hJ1_5 (v290, gb297) _ ⟨hHeld, (kr_ HO291), (bk_ BK285), (bk_ BK286), (bk_ BK287), (bk_ BK297), GW297.out, GE297.out, NB285_297.out, NB297_285.out, NB286_297.out, NB297_286.out, NB287_297.out, NB297_287.out, (bl_ HB)⟩)
            ·skip
             refine box_step ?hg (N := 5) ?hd (cs := #[.int .i64 0, .slice none 0 0]) (t := 26) ?hr ?_; (case hd => rfl); (case hg => rfl); (case hr => first | (go_simp; done) | (go_simp; rfl))
             intro gb296 hg w12 hbox hb
             have BK296 := am_ (hbox); have GW296 := am_ (gs_ hg HB); have GE296 := am_ (gs_ hg HB); replace HB := am_ (below_step (bl_ HB) hb); have NB285_296 := am_ (nl_ hg BK285); have NB296_285 := am_ (ng_ hg BK285); replace BK285 := am_ (blk_below (bk_ BK285) hb); have NB286_296 := am_ (nl_ hg BK286); have NB296_286 := am_ (ng_ hg BK286); replace BK286 := am_ (blk_below (bk_ BK286) hb); have NB287_296 := am_ (nl_ hg BK287); have NB296_287 := am_ (ng_ hg BK287); replace BK287 := am_ (blk_below (bk_ BK287) hb); have NB297_296 := am_ (nl_ hg BK297); have NB296_297 := am_ (ng_ hg BK297); replace BK297 := am_ (blk_below (bk_ BK297) hb); clear hb hbox hg
             refine hK.out _ _ ⟨bc_ BK285 0, bc_ BK285 1, bc_ BK286 0, bc_ BK286 1⟩ (fun hHeld => ?_)
             clear hK K
             refine norm_ (a' := ?_) ?_ ?_
             rotate_left
             ·show Act.put _ (some 5) _ = _
              exact nm_
             exact norm_ (by first | (simp only [putAll, Act.put, List.setIfInBounds_toArray, List.set_cons_zero, List.set_cons_succ]; done) | (simp only [putAll, Act.put, List.setIfInBounds_toArray, List.set_cons_zero, List.set_cons_succ]; rfl)) (hJ4_5 (gb296, gb297) _ ⟨hHeld, (bk_ BK285), (bk_ BK286), (bk_ BK287), (bk_ BK296), (bk_ BK297), GW296.out, GE296.out, NB285_296.out, NB296_285.out, NB286_296.out, NB296_286.out, NB287_296.out, NB296_287.out, NB297_296.out, NB296_297.out, GW297.out, GE297.out, NB285_297.out, NB297_285.out, NB286_297.out, NB297_286.out, NB287_297.out, NB297_287.out, (bl_ HB)⟩)
          ·skip
           rintro gb296 w11 ⟨hS_, h0_, h1_, h2_, h3_, h4_, h5_, h6_, h7_, h8_, h9_, h10_, h11_, h12_⟩
           have n0_ : Aside0 (w11.heap[gb285]? = some (.cells #[.int .i64 a0_0, .slice A0_1 l0_1.length c0_1] 26 (0, 0))) := ⟨h0_⟩
           have n1_ : Aside0 (w11.heap[gb286]? = some (.cells #[.int .i64 a1_0, .slice A1_1 l1_1.length c1_1] 26 (0, 0))) := ⟨h1_⟩
           have n2_ : Aside0 (w11.heap[gb287]? = some (.cells #[.int .i64 0, .slice none 0 0] 26 (0, 0))) := ⟨h2_⟩
           have n3_ : Aside0 (w11.heap[gb296]? = some (.cells #[.int .i64 0, .slice none 0 0] 26 (0, 0))) := ⟨h3_⟩
           have n4_ : Aside0 (w.heap.size ≤ gb296) := ⟨h4_⟩
           have n5_ : Aside0 (w.heap.size ≤ gb296) := ⟨h5_⟩
           have n6_ : Aside0 (gb285 ≠ gb296) := ⟨h6_⟩
           have n7_ : Aside0 (gb296 ≠ gb285) := ⟨h7_⟩
           have n8_ : Aside0 (gb286 ≠ gb296) := ⟨h8_⟩
           have n9_ : Aside0 (gb296 ≠ gb286) := ⟨h9_⟩
           have n10_ : Aside0 (gb287 ≠ gb296) := ⟨h10_⟩
           have n11_ : Aside0 (gb296 ≠ gb287) := ⟨h11_⟩
           have n12_ : Aside0 (Below w.heap.size w w11) := ⟨h12_⟩
           clear BK285 BK286 BK287 HB h0_ h1_ h2_ h3_ h4_ h5_ h6_ h7_ h8_ h9_ h10_ h11_ h12_; have BK285 := n0_; have BK286 := n1_; have BK287 := n2_; have BK296 := n3_; have GW296 := n4_; have GE296 := n5_; have NB285_296 := n6_; have NB296_285 := n7_; have NB286_296 := n8_; have NB296_286 := n9_; have NB287_296 := n10_; have NB296_287 := n11_; have HB := n12_; clear n0_ n1_ n2_ n3_ n4_ n5_ n6_ n7_ n8_ n9_ n10_ n11_ n12_
           have hHeld : w11.cell? ⟨gb285, 0, none⟩ = some (.int .i64 a0_0) ∧ w11.cell? ⟨gb285, 1, none⟩ = some (.slice A0_1 l0_1.length c0_1) ∧ w11.cell? ⟨gb286, 0, none⟩ = some (.int .i64 a1_0) ∧ w11.cell? ⟨gb286, 1, none⟩ = some (.slice A1_1 l1_1.length c1_1) := hS_
           refine norm_ (a' := ?_) ?_ ?_
           rotate_left
           ·simp only [putAll, Act.put, List.setIfInBounds_toArray, List.set_cons_zero, List.set_cons_succ]
            rfl
           refine two_ (i := 1) (j := 5) (Ni := some 10) (Nj := some 6) #[true, true, true, false, true, false, false, false] #[true, false, true, false, true, true, false, false] rfl rfl rfl rfl (two_of HT_.out (by kernel_rfl)) (by decide) (by decide) (fun K hK => ?_) (fun K hK => ?_)
           ·skip
            refine goes_ Tryd.func111 (by kernel_rfl) rfl #[.agg #[.int .i64 a0_0, .slice A0_1 l0_1.length c0_1]] (by rfl) rfl rfl ma_ ?_
            with_reducible refine (spec_l02Abs.calls k a0_0 _ _ l0_1 t288 t289 _ ?side1 ?side2 A3.out).mono ?_
            (case side1 => exact cb_ HR0_1 HB)
            (case side2 => exact HC0_1.out)
            rintro e w12 ⟨v290, rfl, ho0, hb⟩
            refine ⟨_, rfl, ?_⟩
            have HO291 := am_ (Kd.R_lower ho0 (below_size (bl_ HB))); replace BK285 := am_ (blk_below (bk_ BK285) hb); replace BK286 := am_ (blk_below (bk_ BK286) hb); replace BK287 := am_ (blk_below (bk_ BK287) hb); replace BK296 := am_ (blk_below (bk_ BK296) hb); replace HB := am_ (below_step (bl_ HB) hb); (try clear hb); (try clear hb2); (try clear hk); (try clear hi); (try clear ho0)
            refine hK.out _ _ ⟨bc_ BK285 0, bc_ BK285 1, bc_ BK286 0, bc_ BK286 1⟩ (fun hHeld => ?_)
            clear hK K
            refine norm_ (a' := ?_) ?_ ?_
            rotate_left
            ·show Act.put _ (some 10) _ = _
             exact nm_
            exact norm_ (by first | (simp only [putAll, Act.put, List.setIfInBounds_toArray, List.set_cons_zero, List.set_cons_succ]; done) | (simp only [putAll, Act.put, List.setIfInBounds_toArray, List.set_cons_zero, List.set_cons_succ]; rfl)) (hJ1_4 (v290, gb296) _ ⟨hHeld, (kr_ HO291), (bk_ BK285), (bk_ BK286), (bk_ BK287), (bk_ BK296), GW296.out, GE296.out, NB285_296.out, NB296_285.out, NB286_296.out, NB296_286.out, NB287_296.out, NB296_287.out, (bl_ HB)⟩)
           ·skip
            refine box_step ?hg (N := 6) ?hd (cs := #[.int .i64 0, .slice none 0 0]) (t := 26) ?hr ?_; (case hd => rfl); (case hg => rfl); (case hr => first | (go_simp; done) | (go_simp; rfl))
            intro gb297 hg w12 hbox hb
            have BK297 := am_ (hbox); have GW297 := am_ (gs_ hg HB); have GE297 := am_ (gs_ hg HB); replace HB := am_ (below_step (bl_ HB) hb); have NB285_297 := am_ (nl_ hg BK285); have NB297_285 := am_ (ng_ hg BK285); replace BK285 := am_ (blk_below (bk_ BK285) hb); have NB286_297 := am_ (nl_ hg BK286); have NB297_286 := am_ (ng_ hg BK286); replace BK286 := am_ (blk_below (bk_ BK286) hb); have NB287_297 := am_ (nl_ hg BK287); have NB297_287 := am_ (ng_ hg BK287); replace BK287 := am_ (blk_below (bk_ BK287) hb); have NB296_297 := am_ (nl_ hg BK296); have NB297_296 := am_ (ng_ hg BK296); replace BK296 := am_ (blk_below (bk_ BK296) hb); clear hb hbox hg
            refine hK.out _ _ ⟨bc_ BK285 0, bc_ BK285 1, bc_ BK286 0, bc_ BK286 1⟩ (fun hHeld => ?_)
            clear hK K
            refine norm_ (a' := ?_) ?_ ?_
            rotate_left
            ·show Act.put _ (some 6) _ = _
             exact nm_
            exact norm_ (by first | (simp only [putAll, Act.put, List.setIfInBounds_toArray, List.set_cons_zero, List.set_cons_succ]; done) | (simp only [putAll, Act.put, List.setIfInBounds_toArray, List.set_cons_zero, List.set_cons_succ]; rfl)) (hJ4_5 (gb296, gb297) _ ⟨hHeld, (bk_ BK285), (bk_ BK286), (bk_ BK287), (bk_ BK296), (bk_ BK297), GW296.out, GE296.out, NB285_296.out, NB296_285.out, NB286_296.out, NB296_286.out, NB287_296.out, NB296_287.out, NB297_296.out, NB296_297.out, GW297.out, GE297.out, NB285_297.out, NB297_285.out, NB286_297.out, NB297_286.out, NB287_297.out, NB297_287.out, (bl_ HB)⟩)
         ·skip
          rintro v290 w11 ⟨hS_, h0_, h1_, h2_, h3_, h4_⟩
          have n0_ : Aside0 (Kd.R (Kd.int .i64) 2 w11 w.heap.size (fun _ => True) v290 t289) := ⟨h0_⟩
          have n1_ : Aside0 (w11.heap[gb285]? = some (.cells #[.int .i64 a0_0, .slice A0_1 l0_1.length c0_1] 26 (0, 0))) := ⟨h1_⟩
          have n2_ : Aside0 (w11.heap[gb286]? = some (.cells #[.int .i64 a1_0, .slice A1_1 l1_1.length c1_1] 26 (0, 0))) := ⟨h2_⟩
          have n3_ : Aside0 (w11.heap[gb287]? = some (.cells #[.int .i64 0, .slice none 0 0] 26 (0, 0))) := ⟨h3_⟩
          have n4_ : Aside0 (Below w.heap.size w w11) := ⟨h4_⟩
          clear BK285 BK286 BK287 HB h0_ h1_ h2_ h3_ h4_; have HO291 := n0_; have BK285 := n1_; have BK286 := n2_; have BK287 := n3_; have HB := n4_; clear n0_ n1_ n2_ n3_ n4_
          have hHeld : w11.cell? ⟨gb285, 0, none⟩ = some (.int .i64 a0_0) ∧ w11.cell? ⟨gb285, 1, none⟩ = some (.slice A0_1 l0_1.length c0_1) ∧ w11.cell? ⟨gb286, 0, none⟩ = some (.int .i64 a1_0) ∧ w11.cell? ⟨gb286, 1, none⟩ = some (.slice A1_1 l1_1.length c1_1) := hS_
          refine norm_ (a' := ?_) ?_ ?_
          rotate_left
          ·simp only [putAll, Act.put, List.setIfInBounds_toArray, List.set_cons_zero, List.set_cons_succ]
           rfl
          refine three_ (i := 3) (j := 4) (k := 5) (Ni := some 12) (Nj := some 5) (Nk := some 6) #[true, true, true, true, false, false, false, false] #[true, true, true, false, true, false, false, false] #[true, true, true, false, false, true, false, false] rfl rfl rfl rfl rfl rfl (three_of HT_.out (by kernel_rfl)) (by decide) (by decide) (by decide) (fun K hK => ?_) (fun K hK => ?_) (fun K hK => ?_)
          ·skip
           refine goes_ Tryd.func111 (by kernel_rfl) rfl #[.agg #[.int .i64 a1_0, .slice A1_1 l1_1.length c1_1]] (by rfl) rfl rfl ma_ ?_
           with_reducible refine (spec_l02Abs.calls k a1_0 _ _ l1_1 t292 t293 _ ?side1 ?side2 A4.out).mono ?_
           (case side1 => exact cb_ HR1_1 HB)
           (case side2 => exact HC1_1.out)
           rintro e w12 ⟨v294, rfl, ho0, hb⟩
           refine ⟨_, rfl, ?_⟩
           have HO295 := am_ (Kd.R_lower (Kd.R_new' ho0 (Kd.R_lt (kr_ HO291))) (below_size (bl_ HB))); replace HO291 := am_ (Kd.R_elder' (kr_ HO291) (Kd.R_base ho0) hb); replace BK285 := am_ (blk_below (bk_ BK285) hb); replace BK286 := am_ (blk_below (bk_ BK286) hb); replace BK287 := am_ (blk_below (bk_ BK287) hb); replace HB := am_ (below_step (bl_ HB) hb); (try clear hb); (try clear hb2); (try clear hk); (try clear hi); (try clear ho0)
           refine hK.out _ _ ⟨bc_ BK285 0, bc_ BK285 1, bc_ BK286 0, bc_ BK286 1⟩ (fun hHeld => ?_)
           clear hK K
           refine norm_ (a' := ?_) ?_ ?_
           rotate_left
           ·show Act.put _ (some 12) _ = _
            exact nm_
           exact norm_ (by first | (simp only [putAll, Act.put, List.setIfInBounds_toArray, List.set_cons_zero, List.set_cons_succ]; done) | (simp only [putAll, Act.put, List.setIfInBounds_toArray, List.set_cons_zero, List.set_cons_succ]; rfl)) (hJ1_3 (v290, v294) _ ⟨hHeld, (km_ HO291 (fun _ hk => hk.2)), (km_ HO295 (fun _ hk => hk.2)), (bk_ BK285), (bk_ BK286), (bk_ BK287), (bl_ HB)⟩)
          ·skip
           refine box_step ?hg (N := 5) ?hd (cs := #[.int .i64 0, .slice none 0 0]) (t := 26) ?hr ?_; (case hd => rfl); (case hg => rfl); (case hr => first | (go_simp; done) | (go_simp; rfl))
           intro gb296 hg w12 hbox hb
           replace HO291 := am_ (Kd.R_below (kr_ HO291) hb); have BK296 := am_ (hbox); have GW296 := am_ (gs_ hg HB); have GE296 := am_ (gs_ hg HB); replace HB := am_ (below_step (bl_ HB) hb); have NB285_296 := am_ (nl_ hg BK285); have NB296_285 := am_ (ng_ hg BK285); replace BK285 := am_ (blk_below (bk_ BK285) hb); have NB286_296 := am_ (nl_ hg BK286); have NB296_286 := am_ (ng_ hg BK286); replace BK286 := am_ (blk_below (bk_ BK286) hb); have NB287_296 := am_ (nl_ hg BK287); have NB296_287 := am_ (ng_ hg BK287); replace BK287 := am_ (blk_below (bk_ BK287) hb); clear hb hbox hg
           refine hK.out _ _ ⟨bc_ BK285 0, bc_ BK285 1, bc_ BK286 0, bc_ BK286 1⟩ (fun hHeld => ?_)
           clear hK K
           refine norm_ (a' := ?_) ?_ ?_
           rotate_left
           ·show Act.put _ (some 5) _ = _
            exact nm_
           exact norm_ (by first | (simp only [putAll, Act.put, List.setIfInBounds_toArray, List.set_cons_zero, List.set_cons_succ]; done) | (simp only [putAll, Act.put, List.setIfInBounds_toArray, List.set_cons_zero, List.set_cons_succ]; rfl)) (hJ1_4 (v290, gb296) _ ⟨hHeld, (kr_ HO291), (bk_ BK285), (bk_ BK286), (bk_ BK287), (bk_ BK296), GW296.out, GE296.out, NB285_296.out, NB296_285.out, NB286_296.out, NB296_286.out, NB287_296.out, NB296_287.out, (bl_ HB)⟩)
          ·skip
           refine box_step ?hg (N := 6) ?hd (cs := #[.int .i64 0, .slice none 0 0]) (t := 26) ?hr ?_; (case hd => rfl); (case hg => rfl); (case hr => first | (go_simp; done) | (go_simp; rfl))
           intro gb297 hg w12 hbox hb
           replace HO291 := am_ (Kd.R_below (kr_ HO291) hb); have BK297 := am_ (hbox); have GW297 := am_ (gs_ hg HB); have GE297 := am_ (gs_ hg HB); replace HB := am_ (below_step (bl_ HB) hb); have NB285_297 := am_ (nl_ hg BK285); have NB297_285 := am_ (ng_ hg BK285); replace BK285 := am_ (blk_below (bk_ BK285) hb); have NB286_297 := am_ (nl_ hg BK286); have NB297_286 := am_ (ng_ hg BK286); replace BK286 := am_ (blk_below (bk_ BK286) hb); have NB287_297 := am_ (nl_ hg BK287); have NB297_287 := am_ (ng_ hg BK287); replace BK287 := am_ (blk_below (bk_ BK287) hb); clear hb hbox hg
           refine hK.out _ _ ⟨bc_ BK285 0, bc_ BK285 1, bc_ BK286 0, bc_ BK286 1⟩ (fun hHeld => ?_)
           clear hK K
           refine norm_ (a' := ?_) ?_ ?_
           rotate_left
           ·show Act.put _ (some 6) _ = _
            exact nm_
           exact norm_ (by first | (simp only [putAll, Act.put, List.setIfInBounds_toArray, List.set_cons_zero, List.set_cons_succ]; done) | (simp only [putAll, Act.put, List.setIfInBounds_toArray, List.set_cons_zero, List.set_cons_succ]; rfl)) (hJ1_5 (v290, gb297) _ ⟨hHeld, (kr_ HO291), (bk_ BK285), (bk_ BK286), (bk_ BK287), (bk_ BK297), GW297.out, GE297.out, NB285_297.out, NB297_285.out, NB286_297.out, NB297_286.out, NB287_297.out, NB297_287.out, (bl_ HB)⟩)
        ·skip
         rintro ⟨gb296, gb297⟩ w12 ⟨hS_, h0_, h1_, h2_, h3_, h4_, h5_, h6_, h7_, h8_, h9_, h10_, h11_, h12_, h13_, h14_, h15_, h16_, h17_, h18_, h19_, h20_, h21_, h22_, h23_⟩
         have n0_ : Aside0 (w12.heap[gb285]? = some (.cells #[.int .i64 a0_0, .slice A0_1 l0_1.length c0_1] 26 (0, 0))) := ⟨h0_⟩
         have n1_ : Aside0 (w12.heap[gb286]? = some (.cells #[.int .i64 a1_0, .slice A1_1 l1_1.length c1_1] 26 (0, 0))) := ⟨h1_⟩
         have n2_ : Aside0 (w12.heap[gb287]? = some (.cells #[.int .i64 0, .slice none 0 0] 26 (0, 0))) := ⟨h2_⟩
         have n3_ : Aside0 (w12.heap[gb296]? = some (.cells #[.int .i64 0, .slice none 0 0] 26 (0, 0))) := ⟨h3_⟩
         have n4_ : Aside0 (w12.heap[gb297]? = some (.cells #[.int .i64 0, .slice none 0 0] 26 (0, 0))) := ⟨h4_⟩
         have n5_ : Aside0 (w.heap.size ≤ gb296) := ⟨h5_⟩
         have n6_ : Aside0 (w.heap.size ≤ gb296) := ⟨h6_⟩
         have n7_ : Aside0 (gb285 ≠ gb296) := ⟨h7_⟩
         have n8_ : Aside0 (gb296 ≠ gb285) := ⟨h8_⟩
         have n9_ : Aside0 (gb286 ≠ gb296) := ⟨h9_⟩
         have n10_ : Aside0 (gb296 ≠ gb286) := ⟨h10_⟩
         have n11_ : Aside0 (gb287 ≠ gb296) := ⟨h11_⟩
         have n12_ : Aside0 (gb296 ≠ gb287) := ⟨h12_⟩
         have n13_ : Aside0 (gb297 ≠ gb296) := ⟨h13_⟩
         have n14_ : Aside0 (gb296 ≠ gb297) := ⟨h14_⟩
         have n15_ : Aside0 (w.heap.size ≤ gb297) := ⟨h15_⟩
         have n16_ : Aside0 (w.heap.size ≤ gb297) := ⟨h16_⟩
         have n17_ : Aside0 (gb285 ≠ gb297) := ⟨h17_⟩
         have n18_ : Aside0 (gb297 ≠ gb285) := ⟨h18_⟩
         have n19_ : Aside0 (gb286 ≠ gb297) := ⟨h19_⟩
         have n20_ : Aside0 (gb297 ≠ gb286) := ⟨h20_⟩
         have n21_ : Aside0 (gb287 ≠ gb297) := ⟨h21_⟩
         have n22_ : Aside0 (gb297 ≠ gb287) := ⟨h22_⟩
         have n23_ : Aside0 (Below w.heap.size w w12) := ⟨h23_⟩
         clear BK285 BK286 BK287 HB h0_ h1_ h2_ h3_ h4_ h5_ h6_ h7_ h8_ h9_ h10_ h11_ h12_ h13_ h14_ h15_ h16_ h17_ h18_ h19_ h20_ h21_ h22_ h23_; have BK285 := n0_; have BK286 := n1_; have BK287 := n2_; have BK296 := n3_; have BK297 := n4_; have GW296 := n5_; have GE296 := n6_; have NB285_296 := n7_; have NB296_285 := n8_; have NB286_296 := n9_; have NB296_286 := n10_; have NB287_296 := n11_; have NB296_287 := n12_; have NB297_296 := n13_; have NB296_297 := n14_; have GW297 := n15_; have GE297 := n16_; have NB285_297 := n17_; have NB297_285 := n18_; have NB286_297 := n19_; have NB297_286 := n20_; have NB287_297 := n21_; have NB297_287 := n22_; have HB := n23_; clear n0_ n1_ n2_ n3_ n4_ n5_ n6_ n7_ n8_ n9_ n10_ n11_ n12_ n13_ n14_ n15_ n16_ n17_ n18_ n19_ n20_ n21_ n22_ n23_
         have hHeld : w12.cell? ⟨gb285, 0, none⟩ = some (.int .i64 a0_0) ∧ w12.cell? ⟨gb285, 1, none⟩ = some (.slice A0_1 l0_1.length c0_1) ∧ w12.cell? ⟨gb286, 0, none⟩ = some (.int .i64 a1_0) ∧ w12.cell? ⟨gb286, 1, none⟩ = some (.slice A1_1 l1_1.length c1_1) := hS_
         refine norm_ (a' := ?_) ?_ ?_
         rotate_left
         ·simp only [putAll, Act.put, List.setIfInBounds_toArray, List.set_cons_zero, List.set_cons_succ]
          rfl
         refine one_ (i := 1) (N := some 10) #[true, true, true, false, true, true, false, false] rfl rfl (one_of HT_.out (by kernel_rfl)) (by decide) (fun K hK => ?_)
         refine goes_ Tryd.func111 (by kernel_rfl) rfl #[.agg #[.int .i64 a0_0, .slice A0_1 l0_1.length c0_1]] (by rfl) rfl rfl ma_ ?_
         with_reducible refine (spec_l02Abs.calls k a0_0 _ _ l0_1 t288 t289 _ ?side1 ?side2 A3.out).mono ?_
         (case side1 => exact cb_ HR0_1 HB)
         (case side2 => exact HC0_1.out)
         rintro e w13 ⟨v290, rfl, ho0, hb⟩
         refine ⟨_, rfl, ?_⟩
         have HO291 := am_ (Kd.R_lower ho0 (below_size (bl_ HB))); replace BK285 := am_ (blk_below (bk_ BK285) hb); replace BK286 := am_ (blk_below (bk_ BK286) hb); replace BK287 := am_ (blk_below (bk_ BK287) hb); replace BK296 := am_ (blk_below (bk_ BK296) hb); replace BK297 := am_ (blk_below (bk_ BK297) hb); replace HB := am_ (below_step (bl_ HB) hb); (try clear hb); (try clear hb2); (try clear hk); (try clear hi); (try clear ho0)
         refine hK.out _ _ ⟨bc_ BK285 0, bc_ BK285 1, bc_ BK286 0, bc_ BK286 1⟩ (fun hHeld => ?_)
         clear hK K
         refine norm_ (a' := ?_) ?_ ?_
         rotate_left
         ·show Act.put _ (some 10) _ = _
          exact nm_
         exact norm_ (by first | (simp only [putAll, Act.put, List.setIfInBounds_toArray, List.set_cons_zero, List.set_cons_succ]; done) | (simp only [putAll, Act.put, List.setIfInBounds_toArray, List.set_cons_zero, List.set_cons_succ]; rfl)) (hJ1_4_5 (v290, gb296, gb297) _ ⟨hHeld, (kr_ HO291), (bk_ BK285), (bk_ BK286), (bk_ BK287), (bk_ BK296), (bk_ BK297), GW296.out, GE296.out, NB285_296.out, NB296_285.out, NB286_296.out, NB296_286.out, NB287_296.out, NB296_287.out, NB297_296.out, NB296_297.out, GW297.out, GE297.out, NB285_297.out, NB297_285.out, NB286_297.out, NB297_286.out, NB287_297.out, NB297_287.out, (bl_ HB)⟩)
       ·skip
        rintro ⟨v290, gb297⟩ w12 ⟨hS_, h0_, h1_, h2_, h3_, h4_, h5_, h6_, h7_, h8_, h9_, h10_, h11_, h12_, h13_⟩
        have n0_ : Aside0 (Kd.R (Kd.int .i64) 2 w12 w.heap.size (fun _ => True) v290 t289) := ⟨h0_⟩
        have n1_ : Aside0 (w12.heap[gb285]? = some (.cells #[.int .i64 a0_0, .slice A0_1 l0_1.length c0_1] 26 (0, 0))) := ⟨h1_⟩
        have n2_ : Aside0 (w12.heap[gb286]? = some (.cells #[.int .i64 a1_0, .slice A1_1 l1_1.length c1_1] 26 (0, 0))) := ⟨h2_⟩
        have n3_ : Aside0 (w12.heap[gb287]? = some (.cells #[.int .i64 0, .slice none 0 0] 26 (0, 0))) := ⟨h3_⟩
        have n4_ : Aside0 (w12.heap[gb297]? = some (.cells #[.int .i64 0, .slice none 0 0] 26 (0, 0))) := ⟨h4_⟩
        have n5_ : Aside0 (w.heap.size ≤ gb297) := ⟨h5_⟩
        have n6_ : Aside0 (w.heap.size ≤ gb297) := ⟨h6_⟩
        have n7_ : Aside0 (gb285 ≠ gb297) := ⟨h7_⟩
        have n8_ : Aside0 (gb297 ≠ gb285) := ⟨h8_⟩
        have n9_ : Aside0 (gb286 ≠ gb297) := ⟨h9_⟩
        have n10_ : Aside0 (gb297 ≠ gb286) := ⟨h10_⟩
        have n11_ : Aside0 (gb287 ≠ gb297) := ⟨h11_⟩
        have n12_ : Aside0 (gb297 ≠ gb287) := ⟨h12_⟩
        have n13_ : Aside0 (Below w.heap.size w w12) := ⟨h13_⟩
        clear BK285 BK286 BK287 HB h0_ h1_ h2_ h3_ h4_ h5_ h6_ h7_ h8_ h9_ h10_ h11_ h12_ h13_; have HO291 := n0_; have BK285 := n1_; have BK286 := n2_; have BK287 := n3_; have BK297 := n4_; have GW297 := n5_; have GE297 := n6_; have NB285_297 := n7_; have NB297_285 := n8_; have NB286_297 := n9_; have NB297_286 := n10_; have NB287_297 := n11_; have NB297_287 := n12_; have HB := n13_; clear n0_ n1_ n2_ n3_ n4_ n5_ n6_ n7_ n8_ n9_ n10_ n11_ n12_ n13_
        have hHeld : w12.cell? ⟨gb285, 0, none⟩ = some (.int .i64 a0_0) ∧ w12.cell? ⟨gb285, 1, none⟩ = some (.slice A0_1 l0_1.length c0_1) ∧ w12.cell? ⟨gb286, 0, none⟩ = some (.int .i64 a1_0) ∧ w12.cell? ⟨gb286, 1, none⟩ = some (.slice A1_1 l1_1.length c1_1) := hS_
        refine norm_ (a' := ?_) ?_ ?_
        rotate_left
        ·simp only [putAll, Act.put, List.setIfInBounds_toArray, List.set_cons_zero, List.set_cons_succ]
         rfl
        refine two_ (i := 3) (j := 4) (Ni := some 12) (Nj := some 5) #[true, true, true, true, false, true, false, false] #[true, true, true, false, true, true, false, false] rfl rfl rfl rfl (two_of HT_.out (by kernel_rfl)) (by decide) (by decide) (fun K hK => ?_) (fun K hK => ?_)
        ·skip
         refine goes_ Tryd.func111 (by kernel_rfl) rfl #[.agg #[.int .i64 a1_0, .slice A1_1 l1_1.length c1_1]] (by rfl) rfl rfl ma_ ?_
         with_reducible refine (spec_l02Abs.calls k a1_0 _ _ l1_1 t292 t293 _ ?side1 ?side2 A4.out).mono ?_
         (case side1 => exact cb_ HR1_1 HB)
         (case side2 => exact HC1_1.out)
         rintro e w13 ⟨v294, rfl, ho0, hb⟩
         refine ⟨_, rfl, ?_⟩
         have HO295 := am_ (Kd.R_lower (Kd.R_new' ho0 (Kd.R_lt (kr_ HO291))) (below_size (bl_ HB))); replace HO291 := am_ (Kd.R_elder' (kr_ HO291) (Kd.R_base ho0) hb); replace BK285 := am_ (blk_below (bk_ BK285) hb); replace BK286 := am_ (blk_below (bk_ BK286) hb); replace BK287 := am_ (blk_below (bk_ BK287) hb); replace BK297 := am_ (blk_below (bk_ BK297) hb); replace HB := am_ (below_step (bl_ HB) hb); (try clear hb); (try clear hb2); (try clear hk); (try clear hi); (try clear ho0)
         refine hK.out _ _ ⟨bc_ BK285 0, bc_ BK285 1, bc_ BK286 0, bc_ BK286 1⟩ (fun hHeld => ?_)
         clear hK K
         refine norm_ (a' := ?_) ?_ ?_
         rotate_left
         ·show Act.put _ (some 12) _ = _
          exact nm_
         exact norm_ (by first | (simp only [putAll, Act.put, List.setIfInBounds_toArray, List.set_cons_zero, List.set_cons_succ]; done) | (simp only [putAll, Act.put, List.setIfInBounds_toArray, List.set_cons_zero, List.set_cons_succ]; rfl)) (hJ1_3_5 (v290, v294, gb297) _ ⟨hHeld, (km_ HO291 (fun _ hk => hk.2)), (km_ HO295 (fun _ hk => hk.2)), (bk_ BK285), (bk_ BK286), (bk_ BK287), (bk_ BK297), GW297.out, GE297.out, NB285_297.out, NB297_285.out, NB286_297.out, NB297_286.out, NB287_297.out, NB297_287.out, (bl_ HB)⟩)
        ·skip
         refine box_step ?hg (N := 5) ?hd (cs := #[.int .i64 0, .slice none 0 0]) (t := 26) ?hr ?_; (case hd => rfl); (case hg => rfl); (case hr => first | (go_simp; done) | (go_simp; rfl))
         intro gb296 hg w13 hbox hb
         replace HO291 := am_ (Kd.R_below (kr_ HO291) hb); have BK296 := am_ (hbox); have GW296 := am_ (gs_ hg HB); have GE296 := am_ (gs_ hg HB); replace HB := am_ (below_step (bl_ HB) hb); have NB285_296 := am_ (nl_ hg BK285); have NB296_285 := am_ (ng_ hg BK285); replace BK285 := am_ (blk_below (bk_ BK285) hb); have NB286_296 := am_ (nl_ hg BK286); have NB296_286 := am_ (ng_ hg BK286); replace BK286 := am_ (blk_below (bk_ BK286) hb); have NB287_296 := am_ (nl_ hg BK287); have NB296_287 := am_ (ng_ hg BK287); replace BK287 := am_ (blk_below (bk_ BK287) hb); have NB297_296 := am_ (nl_ hg BK297); have NB296_297 := am_ (ng_ hg BK297); replace BK297 := am_ (blk_below (bk_ BK297) hb); clear hb hbox hg
         refine hK.out _ _ ⟨bc_ BK285 0, bc_ BK285 1, bc_ BK286 0, bc_ BK286 1⟩ (fun hHeld => ?_)
         clear hK K
         refine norm_ (a' := ?_) ?_ ?_
         rotate_left
         ·show Act.put _ (some 5) _ = _
          exact nm_
         exact norm_ (by first | (simp only [putAll, Act.put, List.setIfInBounds_toArray, List.set_cons_zero, List.set_cons_succ]; done) | (simp only [putAll, Act.put, List.setIfInBounds_toArray, List.set_cons_zero, List.set_cons_succ]; rfl)) (hJ1_4_5 (v290, gb296, gb297) _ ⟨hHeld, (kr_ HO291), (bk_ BK285), (bk_ BK286), (bk_ BK287), (bk_ BK296), (bk_ BK297), GW296.out, GE296.out, NB285_296.out, NB296_285.out, NB286_296.out, NB296_286.out, NB287_296.out, NB296_287.out, NB297_296.out, NB296_297.out, GW297.out, GE297.out, NB285_297.out, NB297_285.out, NB286_297.out, NB297_286.out, NB287_297.out, NB297_287.out, (bl_ HB)⟩)
      ·skip
       rintro ⟨v290, gb296⟩ w12 ⟨hS_, h0_, h1_, h2_, h3_, h4_, h5_, h6_, h7_, h8_, h9_, h10_, h11_, h12_, h13_⟩
       have n0_ : Aside0 (Kd.R (Kd.int .i64) 2 w12 w.heap.size (fun _ => True) v290 t289) := ⟨h0_⟩
       have n1_ : Aside0 (w12.heap[gb285]? = some (.cells #[.int .i64 a0_0, .slice A0_1 l0_1.length c0_1] 26 (0, 0))) := ⟨h1_⟩
       have n2_ : Aside0 (w12.heap[gb286]? = some (.cells #[.int .i64 a1_0, .slice A1_1 l1_1.length c1_1] 26 (0, 0))) := ⟨h2_⟩
       have n3_ : Aside0 (w12.heap[gb287]? = some (.cells #[.int .i64 0, .slice none 0 0] 26 (0, 0))) := ⟨h3_⟩
       have n4_ : Aside0 (w12.heap[gb296]? = some (.cells #[.int .i64 0, .slice none 0 0] 26 (0, 0))) := ⟨h4_⟩
       have n5_ : Aside0 (w.heap.size ≤ gb296) := ⟨h5_⟩
       have n6_ : Aside0 (w.heap.size ≤ gb296) := ⟨h6_⟩
       have n7_ : Aside0 (gb285 ≠ gb296) := ⟨h7_⟩
       have n8_ : Aside0 (gb296 ≠ gb285) := ⟨h8_⟩
       have n9_ : Aside0 (gb286 ≠ gb296) := ⟨h9_⟩
       have n10_ : Aside0 (gb296 ≠ gb286) := ⟨h10_⟩
       have n11_ : Aside0 (gb287 ≠ gb296) := ⟨h11_⟩
       have n12_ : Aside0 (gb296 ≠ gb287) := ⟨h12_⟩
       have n13_ : Aside0 (Below w.heap.size w w12) := ⟨h13_⟩
       clear BK285 BK286 BK287 HB h0_ h1_ h2_ h3_ h4_ h5_ h6_ h7_ h8_ h9_ h10_ h11_ h12_ h13_; have HO291 := n0_; have BK285 := n1_; have BK286 := n2_; have BK287 := n3_; have BK296 := n4_; have GW296 := n5_; have GE296 := n6_; have NB285_296 := n7_; have NB296_285 := n8_; have NB286_296 := n9_; have NB296_286 := n10_; have NB287_296 := n11_; have NB296_287 := n12_; have HB := n13_; clear n0_ n1_ n2_ n3_ n4_ n5_ n6_ n7_ n8_ n9_ n10_ n11_ n12_ n13_
       have hHeld : w12.cell? ⟨gb285, 0, none⟩ = some (.int .i64 a0_0) ∧ w12.cell? ⟨gb285, 1, none⟩ = some (.slice A0_1 l0_1.length c0_1) ∧ w12.cell? ⟨gb286, 0, none⟩ = some (.int .i64 a1_0) ∧ w12.cell? ⟨gb286, 1, none⟩ = some (.slice A1_1 l1_1.length c1_1) := hS_
       refine norm_ (a' := ?_) ?_ ?_
       rotate_left
       ·simp only [putAll, Act.put, List.setIfInBounds_toArray, List.set_cons_zero, List.set_cons_succ]
        rfl
       refine two_ (i := 3) (j := 5) (Ni := some 12) (Nj := some 6) #[true, true, true, true, true, false, false, false] #[true, true, true, false, true, true, false, false] rfl rfl rfl rfl (two_of HT_.out (by kernel_rfl)) (by decide) (by decide) (fun K hK => ?_) (fun K hK => ?_)
       ·skip
        refine goes_ Tryd.func111 (by kernel_rfl) rfl #[.agg #[.int .i64 a1_0, .slice A1_1 l1_1.length c1_1]] (by rfl) rfl rfl ma_ ?_
        with_reducible refine (spec_l02Abs.calls k a1_0 _ _ l1_1 t292 t293 _ ?side1 ?side2 A4.out).mono ?_
        (case side1 => exact cb_ HR1_1 HB)
        (case side2 => exact HC1_1.out)
        rintro e w13 ⟨v294, rfl, ho0, hb⟩
        refine ⟨_, rfl, ?_⟩
        have HO295 := am_ (Kd.R_lower (Kd.R_new' ho0 (Kd.R_lt (kr_ HO291))) (below_size (bl_ HB))); replace HO291 := am_ (Kd.R_elder' (kr_ HO291) (Kd.R_base ho0) hb); replace BK285 := am_ (blk_below (bk_ BK285) hb); replace BK286 := am_ (blk_below (bk_ BK286) hb); replace BK287 := am_ (blk_below (bk_ BK287) hb); replace BK296 := am_ (blk_below (bk_ BK296) hb); replace HB := am_ (below_step (bl_ HB) hb); (try clear hb); (try clear hb2); (try clear hk); (try clear hi); (try clear ho0)
        refine hK.out _ _ ⟨bc_ BK285 0, bc_ BK285 1, bc_ BK286 0, bc_ BK286 1⟩ (fun hHeld => ?_)
        clear hK K
        refine norm_ (a' := ?_) ?_ ?_
        rotate_left
        ·show Act.put _ (some 12) _ = _
         exact nm_
        exact norm_ (by first | (simp only [putAll, Act.put, List.setIfInBounds_toArray, List.set_cons_zero, List.set_cons_succ]; done) | (simp only [putAll, Act.put, List.setIfInBounds_toArray, List.set_cons_zero, List.set_cons_succ]; rfl)) (hJ1_3_4 (v290, v294, gb296) _ ⟨hHeld, (km_ HO291 (fun _ hk => hk.2)), (km_ HO295 (fun _ hk => hk.2)), (bk_ BK285), (bk_ BK286), (bk_ BK287), (bk_ BK296), GW296.out, GE296.out, NB285_296.out, NB296_285.out, NB286_296.out, NB296_286.out, NB287_296.out, NB296_287.out, (bl_ HB)⟩)
       ·skip
        refine box_step ?hg (N := 6) ?hd (cs := #[.int .i64 0, .slice none 0 0]) (t := 26) ?hr ?_; (case hd => rfl); (case hg => rfl); (case hr => first | (go_simp; done) | (go_simp; rfl))
        intro gb297 hg w13 hbox hb
        replace HO291 := am_ (Kd.R_below (kr_ HO291) hb); have BK297 := am_ (hbox); have GW297 := am_ (gs_ hg HB); have GE297 := am_ (gs_ hg HB); replace HB := am_ (below_step (bl_ HB) hb); have NB285_297 := am_ (nl_ hg BK285); have NB297_285 := am_ (ng_ hg BK285); replace BK285 := am_ (blk_below (bk_ BK285) hb); have NB286_297 := am_ (nl_ hg BK286); have NB297_286 := am_ (ng_ hg BK286); replace BK286 := am_ (blk_below (bk_ BK286) hb); have NB287_297 := am_ (nl_ hg BK287); have NB297_287 := am_ (ng_ hg BK287); replace BK287 := am_ (blk_below (bk_ BK287) hb); have NB296_297 := am_ (nl_ hg BK296); have NB297_296 := am_ (ng_ hg BK296); replace BK296 := am_ (blk_below (bk_ BK296) hb); clear hb hbox hg
        refine hK.out _ _ ⟨bc_ BK285 0, bc_ BK285 1, bc_ BK286 0, bc_ BK286 1⟩ (fun hHeld => ?_)
        clear hK K
        refine norm_ (a' := ?_) ?_ ?_
        rotate_left
        ·show Act.put _ (some 6) _ = _
         exact nm_
        exact norm_ (by first | (simp only [putAll, Act.put, List.setIfInBounds_toArray, List.set_cons_zero, List.set_cons_succ]; done) | (simp only [putAll, Act.put, List.setIfInBounds_toArray, List.set_cons_zero, List.set_cons_succ]; rfl)) (hJ1_4_5 (v290, gb296, gb297) _ ⟨hHeld, (kr_ HO291), (bk_ BK285), (bk_ BK286), (bk_ BK287), (bk_ BK296), (bk_ BK297), GW296.out, GE296.out, NB285_296.out, NB296_285.out, NB286_296.out, NB296_286.out, NB287_296.out, NB296_287.out, NB297_296.out, NB296_297.out, GW297.out, GE297.out, NB285_297.out, NB297_285.out, NB286_297.out, NB297_286.out, NB287_297.out, NB297_287.out, (bl_ HB)⟩)
     ·skip
      rintro ⟨v290, v294⟩ w12 ⟨hS_, h0_, h1_, h2_, h3_, h4_, h5_⟩
      have n0_ : Aside0 (Kd.R (Kd.int .i64) 2 w12 w.heap.size (fun k_ => some k_ ≠ (v294 : Value).ownBlock) v290 t289) := ⟨h0_⟩
      have n1_ : Aside0 (Kd.R (Kd.int .i64) 2 w12 w.heap.size (fun k_ => some k_ ≠ (v290 : Value).ownBlock) v294 t293) := ⟨h1_⟩
      have n2_ : Aside0 (w12.heap[gb285]? = some (.cells #[.int .i64 a0_0, .slice A0_1 l0_1.length c0_1] 26 (0, 0))) := ⟨h2_⟩
      have n3_ : Aside0 (w12.heap[gb286]? = some (.cells #[.int .i64 a1_0, .slice A1_1 l1_1.length c1_1] 26 (0, 0))) := ⟨h3_⟩
      have n4_ : Aside0 (w12.heap[gb287]? = some (.cells #[.int .i64 0, .slice none 0 0] 26 (0, 0))) := ⟨h4_⟩
      have n5_ : Aside0 (Below w.heap.size w w12) := ⟨h5_⟩
      clear BK285 BK286 BK287 HB h0_ h1_ h2_ h3_ h4_ h5_; have HO291 := n0_; have HO295 := n1_; have BK285 := n2_; have BK286 := n3_; have BK287 := n4_; have HB := n5_; clear n0_ n1_ n2_ n3_ n4_ n5_
      have hHeld : w12.cell? ⟨gb285, 0, none⟩ = some (.int .i64 a0_0) ∧ w12.cell? ⟨gb285, 1, none⟩ = some (.slice A0_1 l0_1.length c0_1) ∧ w12.cell? ⟨gb286, 0, none⟩ = some (.int .i64 a1_0) ∧ w12.cell? ⟨gb286, 1, none⟩ = some (.slice A1_1 l1_1.length c1_1) := hS_
      refine norm_ (a' := ?_) ?_ ?_
      rotate_left
      ·simp only [putAll, Act.put, List.setIfInBounds_toArray, List.set_cons_zero, List.set_cons_succ]
       rfl
      refine two_ (i := 4) (j := 5) (Ni := some 5) (Nj := some 6) #[true, true, true, true, true, false, false, false] #[true, true, true, true, false, true, false, false] rfl rfl rfl rfl (two_of HT_.out (by kernel_rfl)) (by decide) (by decide) (fun K hK => ?_) (fun K hK => ?_)
      ·skip
       refine box_step ?hg (N := 5) ?hd (cs := #[.int .i64 0, .slice none 0 0]) (t := 26) ?hr ?_; (case hd => rfl); (case hg => rfl); (case hr => first | (go_simp; done) | (go_simp; rfl))
       intro gb296 hg w13 hbox hb
       replace HO291 := am_ (Kd.R_below (kr_ HO291) hb); replace HO295 := am_ (Kd.R_below (kr_ HO295) hb); have BK296 := am_ (hbox); have GW296 := am_ (gs_ hg HB); have GE296 := am_ (gs_ hg HB); replace HB := am_ (below_step (bl_ HB) hb); have NB285_296 := am_ (nl_ hg BK285); have NB296_285 := am_ (ng_ hg BK285); replace BK285 := am_ (blk_below (bk_ BK285) hb); have NB286_296 := am_ (nl_ hg BK286); have NB296_286 := am_ (ng_ hg BK286); replace BK286 := am_ (blk_below (bk_ BK286) hb); have NB287_296 := am_ (nl_ hg BK287); have NB296_287 := am_ (ng_ hg BK287); replace BK287 := am_ (blk_below (bk_ BK287) hb); clear hb hbox hg
       refine hK.out _ _ ⟨bc_ BK285 0, bc_ BK285 1, bc_ BK286 0, bc_ BK286 1⟩ (fun hHeld => ?_)
       clear hK K
       refine norm_ (a' := ?_) ?_ ?_
       rotate_left
       ·show Act.put _ (some 5) _ = _
        exact nm_
       exact norm_ (by first | (simp only [putAll, Act.put, List.setIfInBounds_toArray, List.set_cons_zero, List.set_cons_succ]; done) | (simp only [putAll, Act.put, List.setIfInBounds_toArray, List.set_cons_zero, List.set_cons_succ]; rfl)) (hJ1_3_4 (v290, v294, gb296) _ ⟨hHeld, (kr_ HO291), (kr_ HO295), (bk_ BK285), (bk_ BK286), (bk_ BK287), (bk_ BK296), GW296.out, GE296.out, NB285_296.out, NB296_285.out, NB286_296.out, NB296_286.out, NB287_296.out, NB296_287.out, (bl_ HB)⟩)
      ·skip
       refine box_step ?hg (N := 6) ?hd (cs := #[.int .i64 0, .slice none 0 0]) (t := 26) ?hr ?_; (case hd => rfl); (case hg => rfl); (case hr => first | (go_simp; done) | (go_simp; rfl))
       intro gb297 hg w13 hbox hb
       replace HO291 := am_ (Kd.R_below (kr_ HO291) hb); replace HO295 := am_ (Kd.R_below (kr_ HO295) hb); have BK297 := am_ (hbox); have GW297 := am_ (gs_ hg HB); have GE297 := am_ (gs_ hg HB); replace HB := am_ (below_step (bl_ HB) hb); have NB285_297 := am_ (nl_ hg BK285); have NB297_285 := am_ (ng_ hg BK285); replace BK285 := am_ (blk_below (bk_ BK285) hb); have NB286_297 := am_ (nl_ hg BK286); have NB297_286 := am_ (ng_ hg BK286); replace BK286 := am_ (blk_below (bk_ BK286) hb); have NB287_297 := am_ (nl_ hg BK287); have NB297_287 := am_ (ng_ hg BK287); replace BK287 := am_ (blk_below (bk_ BK287) hb); clear hb hbox hg
       refine hK.out _ _ ⟨bc_ BK285 0, bc_ BK285 1, bc_ BK286 0, bc_ BK286 1⟩ (fun hHeld => ?_)
       clear hK K
       refine norm_ (a' := ?_) ?_ ?_
       rotate_left
       ·show Act.put _ (some 6) _ = _
        exact nm_
       exact norm_ (by first | (simp only [putAll, Act.put, List.setIfInBounds_toArray, List.set_cons_zero, List.set_cons_succ]; done) | (simp only [putAll, Act.put, List.setIfInBounds_toArray, List.set_cons_zero, List.set_cons_succ]; rfl)) (hJ1_3_5 (v290, v294, gb297) _ ⟨hHeld, (kr_ HO291), (kr_ HO295), (bk_ BK285), (bk_ BK286), (bk_ BK287), (bk_ BK297), GW297.out, GE297.out, NB285_297.out, NB297_285.out, NB286_297.out, NB297_286.out, NB287_297.out, NB297_287.out, (bl_ HB)⟩)
    ·skip
     rintro ⟨v290, gb296, gb297⟩ w13 ⟨hS_, h0_, h1_, h2_, h3_, h4_, h5_, h6_, h7_, h8_, h9_, h10_, h11_, h12_, h13_, h14_, h15_, h16_, h17_, h18_, h19_, h20_, h21_, h22_, h23_, h24_⟩
     have n0_ : Aside0 (Kd.R (Kd.int .i64) 2 w13 w.heap.size (fun _ => True) v290 t289) := ⟨h0_⟩
     have n1_ : Aside0 (w13.heap[gb285]? = some (.cells #[.int .i64 a0_0, .slice A0_1 l0_1.length c0_1] 26 (0, 0))) := ⟨h1_⟩
     have n2_ : Aside0 (w13.heap[gb286]? = some (.cells #[.int .i64 a1_0, .slice A1_1 l1_1.length c1_1] 26 (0, 0))) := ⟨h2_⟩
     have n3_ : Aside0 (w13.heap[gb287]? = some (.cells #[.int .i64 0, .slice none 0 0] 26 (0, 0))) := ⟨h3_⟩
     have n4_ : Aside0 (w13.heap[gb296]? = some (.cells #[.int .i64 0, .slice none 0 0] 26 (0, 0))) := ⟨h4_⟩
     have n5_ : Aside0 (w13.heap[gb297]? = some (.cells #[.int .i64 0, .slice none 0 0] 26 (0, 0))) := ⟨h5_⟩
     have n6_ : Aside0 (w.heap.size ≤ gb296) := ⟨h6_⟩
     have n7_ : Aside0 (w.heap.size ≤ gb296) := ⟨h7_⟩
     have n8_ : Aside0 (gb285 ≠ gb296) := ⟨h8_⟩
     have n9_ : Aside0 (gb296 ≠ gb285) := ⟨h9_⟩
     have n10_ : Aside0 (gb286 ≠ gb296) := ⟨h10_⟩
     have n11_ : Aside0 (gb296 ≠ gb286) := ⟨h11_⟩
     have n12_ : Aside0 (gb287 ≠ gb296) := ⟨h12_⟩
     have n13_ : Aside0 (gb296 ≠ gb287) := ⟨h13_⟩
     have n14_ : Aside0 (gb297 ≠ gb296) := ⟨h14_⟩
     have n15_ : Aside0 (gb296 ≠ gb297) := ⟨h15_⟩
     have n16_ : Aside0 (w.heap.size ≤ gb297) := ⟨h16_⟩
     have n17_ : Aside0 (w.heap.size ≤ gb297) := ⟨h17_⟩
     have n18_ : Aside0 (gb285 ≠ gb297) := ⟨h18_⟩
     have n19_ : Aside0 (gb297 ≠ gb285) := ⟨h19_⟩
     have n20_ : Aside0 (gb286 ≠ gb297) := ⟨h20_⟩
     have n21_ : Aside0 (gb297 ≠ gb286) := ⟨h21_⟩
     have n22_ : Aside0 (gb287 ≠ gb297) := ⟨h22_⟩
     have n23_ : Aside0 (gb297 ≠ gb287) := ⟨h23_⟩
     have n24_ : Aside0 (Below w.heap.size w w13) := ⟨h24_⟩
     clear BK285 BK286 BK287 HB h0_ h1_ h2_ h3_ h4_ h5_ h6_ h7_ h8_ h9_ h10_ h11_ h12_ h13_ h14_ h15_ h16_ h17_ h18_ h19_ h20_ h21_ h22_ h23_ h24_; have HO291 := n0_; have BK285 := n1_; have BK286 := n2_; have BK287 := n3_; have BK296 := n4_; have BK297 := n5_; have GW296 := n6_; have GE296 := n7_; have NB285_296 := n8_; have NB296_285 := n9_; have NB286_296 := n10_; have NB296_286 := n11_; have NB287_296 := n12_; have NB296_287 := n13_; have NB297_296 := n14_; have NB296_297 := n15_; have GW297 := n16_; have GE297 := n17_; have NB285_297 := n18_; have NB297_285 := n19_; have NB286_297 := n20_; have NB297_286 := n21_; have NB287_297 := n22_; have NB297_287 := n23_; have HB := n24_; clear n0_ n1_ n2_ n3_ n4_ n5_ n6_ n7_ n8_ n9_ n10_ n11_ n12_ n13_ n14_ n15_ n16_ n17_ n18_ n19_ n20_ n21_ n22_ n23_ n24_
     have hHeld : w13.cell? ⟨gb285, 0, none⟩ = some (.int .i64 a0_0) ∧ w13.cell? ⟨gb285, 1, none⟩ = some (.slice A0_1 l0_1.length c0_1) ∧ w13.cell? ⟨gb286, 0, none⟩ = some (.int .i64 a1_0) ∧ w13.cell? ⟨gb286, 1, none⟩ = some (.slice A1_1 l1_1.length c1_1) := hS_
     refine norm_ (a' := ?_) ?_ ?_
     rotate_left
     ·simp only [putAll, Act.put, List.setIfInBounds_toArray, List.set_cons_zero, List.set_cons_succ]
      rfl
     refine one_ (i := 3) (N := some 12) #[true, true, true, true, true, true, false, false] rfl rfl (one_of HT_.out (by kernel_rfl)) (by decide) (fun K hK => ?_)
     refine goes_ Tryd.func111 (by kernel_rfl) rfl #[.agg #[.int .i64 a1_0, .slice A1_1 l1_1.length c1_1]] (by rfl) rfl rfl ma_ ?_
     with_reducible refine (spec_l02Abs.calls k a1_0 _ _ l1_1 t292 t293 _ ?side1 ?side2 A4.out).mono ?_
     (case side1 => exact cb_ HR1_1 HB)
     (case side2 => exact HC1_1.out)
     rintro e w14 ⟨v294, rfl, ho0, hb⟩
     refine ⟨_, rfl, ?_⟩
     have HO295 := am_ (Kd.R_lower (Kd.R_new' ho0 (Kd.R_lt (kr_ HO291))) (below_size (bl_ HB))); replace HO291 := am_ (Kd.R_elder' (kr_ HO291) (Kd.R_base ho0) hb); replace BK285 := am_ (blk_below (bk_ BK285) hb); replace BK286 := am_ (blk_below (bk_ BK286) hb); replace BK287 := am_ (blk_below (bk_ BK287) hb); replace BK296 := am_ (blk_below (bk_ BK296) hb); replace BK297 := am_ (blk_below (bk_ BK297) hb); replace HB := am_ (below_step (bl_ HB) hb); (try clear hb); (try clear hb2); (try clear hk); (try clear hi); (try clear ho0)
     refine hK.out _ _ ⟨bc_ BK285 0, bc_ BK285 1, bc_ BK286 0, bc_ BK286 1⟩ (fun hHeld => ?_)
     clear hK K
     refine norm_ (a' := ?_) ?_ ?_
     rotate_left
     ·show Act.put _ (some 12) _ = _
      exact nm_
     exact norm_ (by first | (simp only [putAll, Act.put, List.setIfInBounds_toArray, List.set_cons_zero, List.set_cons_succ]; done) | (simp only [putAll, Act.put, List.setIfInBounds_toArray, List.set_cons_zero, List.set_cons_succ]; rfl)) (hJ1_3_4_5 (v290, v294, gb296, gb297) _ ⟨hHeld, (km_ HO291 (fun _ hk => hk.2)), (km_ HO295 (fun _ hk => hk.2)), (bk_ BK285), (bk_ BK286), (bk_ BK287), (bk_ BK296), (bk_ BK297), GW296.out, GE296.out, NB285_296.out, NB296_285.out, NB286_296.out, NB296_286.out, NB287_296.out, NB296_287.out, NB297_296.out, NB296_297.out, GW297.out, GE297.out, NB285_297.out, NB297_285.out, NB286_297.out, NB297_286.out, NB287_297.out, NB297_287.out, (bl_ HB)⟩)
   ·skip
    rintro ⟨v290, v294, gb297⟩ w13 ⟨hS_, h0_, h1_, h2_, h3_, h4_, h5_, h6_, h7_, h8_, h9_, h10_, h11_, h12_, h13_, h14_⟩
    have n0_ : Aside0 (Kd.R (Kd.int .i64) 2 w13 w.heap.size (fun k_ => some k_ ≠ (v294 : Value).ownBlock) v290 t289) := ⟨h0_⟩
    have n1_ : Aside0 (Kd.R (Kd.int .i64) 2 w13 w.heap.size (fun k_ => some k_ ≠ (v290 : Value).ownBlock) v294 t293) := ⟨h1_⟩
    have n2_ : Aside0 (w13.heap[gb285]? = some (.cells #[.int .i64 a0_0, .slice A0_1 l0_1.length c0_1] 26 (0, 0))) := ⟨h2_⟩
    have n3_ : Aside0 (w13.heap[gb286]? = some (.cells #[.int .i64 a1_0, .slice A1_1 l1_1.length c1_1] 26 (0, 0))) := ⟨h3_⟩
    have n4_ : Aside0 (w13.heap[gb287]? = some (.cells #[.int .i64 0, .slice none 0 0] 26 (0, 0))) := ⟨h4_⟩
    have n5_ : Aside0 (w13.heap[gb297]? = some (.cells #[.int .i64 0, .slice none 0 0] 26 (0, 0))) := ⟨h5_⟩
    have n6_ : Aside0 (w.heap.size ≤ gb297) := ⟨h6_⟩
    have n7_ : Aside0 (w.heap.size ≤ gb297) := ⟨h7_⟩
    have n8_ : Aside0 (gb285 ≠ gb297) := ⟨h8_⟩
    have n9_ : Aside0 (gb297 ≠ gb285) := ⟨h9_⟩
    have n10_ : Aside0 (gb286 ≠ gb297) := ⟨h10_⟩
    have n11_ : Aside0 (gb297 ≠ gb286) := ⟨h11_⟩
    have n12_ : Aside0 (gb287 ≠ gb297) := ⟨h12_⟩
    have n13_ : Aside0 (gb297 ≠ gb287) := ⟨h13_⟩
    have n14_ : Aside0 (Below w.heap.size w w13) := ⟨h14_⟩
    clear BK285 BK286 BK287 HB h0_ h1_ h2_ h3_ h4_ h5_ h6_ h7_ h8_ h9_ h10_ h11_ h12_ h13_ h14_; have HO291 := n0_; have HO295 := n1_; have BK285 := n2_; have BK286 := n3_; have BK287 := n4_; have BK297 := n5_; have GW297 := n6_; have GE297 := n7_; have NB285_297 := n8_; have NB297_285 := n9_; have NB286_297 := n10_; have NB297_286 := n11_; have NB287_297 := n12_; have NB297_287 := n13_; have HB := n14_; clear n0_ n1_ n2_ n3_ n4_ n5_ n6_ n7_ n8_ n9_ n10_ n11_ n12_ n13_ n14_
    have hHeld : w13.cell? ⟨gb285, 0, none⟩ = some (.int .i64 a0_0) ∧ w13.cell? ⟨gb285, 1, none⟩ = some (.slice A0_1 l0_1.length c0_1) ∧ w13.cell? ⟨gb286, 0, none⟩ = some (.int .i64 a1_0) ∧ w13.cell? ⟨gb286, 1, none⟩ = some (.slice A1_1 l1_1.length c1_1) := hS_
    refine norm_ (a' := ?_) ?_ ?_
    rotate_left
    ·simp only [putAll, Act.put, List.setIfInBounds_toArray, List.set_cons_zero, List.set_cons_succ]
     rfl
    refine one_ (i := 4) (N := some 5) #[true, true, true, true, true, true, false, false] rfl rfl (one_of HT_.out (by kernel_rfl)) (by decide) (fun K hK => ?_)
    refine box_step ?hg (N := 5) ?hd (cs := #[.int .i64 0, .slice none 0 0]) (t := 26) ?hr ?_; (case hd => rfl); (case hg => rfl); (case hr => first | (go_simp; done) | (go_simp; rfl))
    intro gb296 hg w14 hbox hb
    replace HO291 := am_ (Kd.R_below (kr_ HO291) hb); replace HO295 := am_ (Kd.R_below (kr_ HO295) hb); have BK296 := am_ (hbox); have GW296 := am_ (gs_ hg HB); have GE296 := am_ (gs_ hg HB); replace HB := am_ (below_step (bl_ HB) hb); have NB285_296 := am_ (nl_ hg BK285); have NB296_285 := am_ (ng_ hg BK285); replace BK285 := am_ (blk_below (bk_ BK285) hb); have NB286_296 := am_ (nl_ hg BK286); have NB296_286 := am_ (ng_ hg BK286); replace BK286 := am_ (blk_below (bk_ BK286) hb); have NB287_296 := am_ (nl_ hg BK287); have NB296_287 := am_ (ng_ hg BK287); replace BK287 := am_ (blk_below (bk_ BK287) hb); have NB297_296 := am_ (nl_ hg BK297); have NB296_297 := am_ (ng_ hg BK297); replace BK297 := am_ (blk_below (bk_ BK297) hb); clear hb hbox hg
    refine hK.out _ _ ⟨bc_ BK285 0, bc_ BK285 1, bc_ BK286 0, bc_ BK286 1⟩ (fun hHeld => ?_)
    clear hK K
    refine norm_ (a' := ?_) ?_ ?_
    rotate_left
    ·show Act.put _ (some 5) _ = _
     exact nm_
    exact norm_ (by first | (simp only [putAll, Act.put, List.setIfInBounds_toArray, List.set_cons_zero, List.set_cons_succ]; done) | (simp only [putAll, Act.put, List.setIfInBounds_toArray, List.set_cons_zero, List.set_cons_succ]; rfl)) (hJ1_3_4_5 (v290, v294, gb296, gb297) _ ⟨hHeld, (kr_ HO291), (kr_ HO295), (bk_ BK285), (bk_ BK286), (bk_ BK287), (bk_ BK296), (bk_ BK297), GW296.out, GE296.out, NB285_296.out, NB296_285.out, NB286_296.out, NB296_286.out, NB287_296.out, NB296_287.out, NB297_296.out, NB296_297.out, GW297.out, GE297.out, NB285_297.out, NB297_285.out, NB286_297.out, NB297_286.out, NB287_297.out, NB297_287.out, (bl_ HB)⟩)
  ·skip
   rintro ⟨v290, v294, gb296⟩ w13 ⟨hS_, h0_, h1_, h2_, h3_, h4_, h5_, h6_, h7_, h8_, h9_, h10_, h11_, h12_, h13_, h14_⟩
   have n0_ : Aside0 (Kd.R (Kd.int .i64) 2 w13 w.heap.size (fun k_ => some k_ ≠ (v294 : Value).ownBlock) v290 t289) := ⟨h0_⟩
   have n1_ : Aside0 (Kd.R (Kd.int .i64) 2 w13 w.heap.size (fun k_ => some k_ ≠ (v290 : Value).ownBlock) v294 t293) := ⟨h1_⟩
   have n2_ : Aside0 (w13.heap[gb285]? = some (.cells #[.int .i64 a0_0, .slice A0_1 l0_1.length c0_1] 26 (0, 0))) := ⟨h2_⟩
   have n3_ : Aside0 (w13.heap[gb286]? = some (.cells #[.int .i64 a1_0, .slice A1_1 l1_1.length c1_1] 26 (0, 0))) := ⟨h3_⟩
   have n4_ : Aside0 (w13.heap[gb287]? = some (.cells #[.int .i64 0, .slice none 0 0] 26 (0, 0))) := ⟨h4_⟩
   have n5_ : Aside0 (w13.heap[gb296]? = some (.cells #[.int .i64 0, .slice none 0 0] 26 (0, 0))) := ⟨h5_⟩
   have n6_ : Aside0 (w.heap.size ≤ gb296) := ⟨h6_⟩
   have n7_ : Aside0 (w.heap.size ≤ gb296) := ⟨h7_⟩
   have n8_ : Aside0 (gb285 ≠ gb296) := ⟨h8_⟩
   have n9_ : Aside0 (gb296 ≠ gb285) := ⟨h9_⟩
   have n10_ : Aside0 (gb286 ≠ gb296) := ⟨h10_⟩
   have n11_ : Aside0 (gb296 ≠ gb286) := ⟨h11_⟩
   have n12_ : Aside0 (gb287 ≠ gb296) := ⟨h12_⟩
   have n13_ : Aside0 (gb296 ≠ gb287) := ⟨h13_⟩
   have n14_ : Aside0 (Below w.heap.size w w13) := ⟨h14_⟩
   clear BK285 BK286 BK287 HB h0_ h1_ h2_ h3_ h4_ h5_ h6_ h7_ h8_ h9_ h10_ h11_ h12_ h13_ h14_; have HO291 := n0_; have HO295 := n1_; have BK285 := n2_; have BK286 := n3_; have BK287 := n4_; have BK296 := n5_; have GW296 := n6_; have GE296 := n7_; have NB285_296 := n8_; have NB296_285 := n9_; have NB286_296 := n10_; have NB296_286 := n11_; have NB287_296 := n12_; have NB296_287 := n13_; have HB := n14_; clear n0_ n1_ n2_ n3_ n4_ n5_ n6_ n7_ n8_ n9_ n10_ n11_ n12_ n13_ n14_
   have hHeld : w13.cell? ⟨gb285, 0, none⟩ = some (.int .i64 a0_0) ∧ w13.cell? ⟨gb285, 1, none⟩ = some (.slice A0_1 l0_1.length c0_1) ∧ w13.cell? ⟨gb286, 0, none⟩ = some (.int .i64 a1_0) ∧ w13.cell? ⟨gb286, 1, none⟩ = some (.slice A1_1 l1_1.length c1_1) := hS_
   refine norm_ (a' := ?_) ?_ ?_
   rotate_left
   ·simp only [putAll, Act.put, List.setIfInBounds_toArray, List.set_cons_zero, List.set_cons_succ]
    rfl
   refine one_ (i := 5) (N := some 6) #[true, true, true, true, true, true, false, false] rfl rfl (one_of HT_.out (by kernel_rfl)) (by decide) (fun K hK => ?_)
   refine box_step ?hg (N := 6) ?hd (cs := #[.int .i64 0, .slice none 0 0]) (t := 26) ?hr ?_; (case hd => rfl); (case hg => rfl); (case hr => first | (go_simp; done) | (go_simp; rfl))
   intro gb297 hg w14 hbox hb
   replace HO291 := am_ (Kd.R_below (kr_ HO291) hb); replace HO295 := am_ (Kd.R_below (kr_ HO295) hb); have BK297 := am_ (hbox); have GW297 := am_ (gs_ hg HB); have GE297 := am_ (gs_ hg HB); replace HB := am_ (below_step (bl_ HB) hb); have NB285_297 := am_ (nl_ hg BK285); have NB297_285 := am_ (ng_ hg BK285); replace BK285 := am_ (blk_below (bk_ BK285) hb); have NB286_297 := am_ (nl_ hg BK286); have NB297_286 := am_ (ng_ hg BK286); replace BK286 := am_ (blk_below (bk_ BK286) hb); have NB287_297 := am_ (nl_ hg BK287); have NB297_287 := am_ (ng_ hg BK287); replace BK287 := am_ (blk_below (bk_ BK287) hb); have NB296_297 := am_ (nl_ hg BK296); have NB297_296 := am_ (ng_ hg BK296); replace BK296 := am_ (blk_below (bk_ BK296) hb); clear hb hbox hg
   refine hK.out _ _ ⟨bc_ BK285 0, bc_ BK285 1, bc_ BK286 0, bc_ BK286 1⟩ (fun hHeld => ?_)
   clear hK K
   refine norm_ (a' := ?_) ?_ ?_
   rotate_left
   ·show Act.put _ (some 6) _ = _
    exact nm_
   exact norm_ (by first | (simp only [putAll, Act.put, List.setIfInBounds_toArray, List.set_cons_zero, List.set_cons_succ]; done) | (simp only [putAll, Act.put, List.setIfInBounds_toArray, List.set_cons_zero, List.set_cons_succ]; rfl)) (hJ1_3_4_5 (v290, v294, gb296, gb297) _ ⟨hHeld, (kr_ HO291), (kr_ HO295), (bk_ BK285), (bk_ BK286), (bk_ BK287), (bk_ BK296), (bk_ BK297), GW296.out, GE296.out, NB285_296.out, NB296_285.out, NB286_296.out, NB296_286.out, NB287_296.out, NB296_287.out, NB297_296.out, NB296_297.out, GW297.out, GE297.out, NB285_297.out, NB297_285.out, NB286_297.out, NB297_286.out, NB287_297.out, NB297_287.out, (bl_ HB)⟩)
 rintro ⟨v290, v294, gb296, gb297⟩ w14 ⟨hS_, h0_, h1_, h2_, h3_, h4_, h5_, h6_, h7_, h8_, h9_, h10_, h11_, h12_, h13_, h14_, h15_, h16_, h17_, h18_, h19_, h20_, h21_, h22_, h23_, h24_, h25_⟩
 have n0_ : Aside0 (Kd.R (Kd.int .i64) 2 w14 w.heap.size (fun k_ => some k_ ≠ (v294 : Value).ownBlock) v290 t289) := ⟨h0_⟩
 have n1_ : Aside0 (Kd.R (Kd.int .i64) 2 w14 w.heap.size (fun k_ => some k_ ≠ (v290 : Value).ownBlock) v294 t293) := ⟨h1_⟩
 have n2_ : Aside0 (w14.heap[gb285]? = some (.cells #[.int .i64 a0_0, .slice A0_1 l0_1.length c0_1] 26 (0, 0))) := ⟨h2_⟩
 have n3_ : Aside0 (w14.heap[gb286]? = some (.cells #[.int .i64 a1_0, .slice A1_1 l1_1.length c1_1] 26 (0, 0))) := ⟨h3_⟩
 have n4_ : Aside0 (w14.heap[gb287]? = some (.cells #[.int .i64 0, .slice none 0 0] 26 (0, 0))) := ⟨h4_⟩
 have n5_ : Aside0 (w14.heap[gb296]? = some (.cells #[.int .i64 0, .slice none 0 0] 26 (0, 0))) := ⟨h5_⟩
 have n6_ : Aside0 (w14.heap[gb297]? = some (.cells #[.int .i64 0, .slice none 0 0] 26 (0, 0))) := ⟨h6_⟩
 have n7_ : Aside0 (w.heap.size ≤ gb296) := ⟨h7_⟩
 have n8_ : Aside0 (w.heap.size ≤ gb296) := ⟨h8_⟩
 have n9_ : Aside0 (gb285 ≠ gb296) := ⟨h9_⟩
 have n10_ : Aside0 (gb296 ≠ gb285) := ⟨h10_⟩
 have n11_ : Aside0 (gb286 ≠ gb296) := ⟨h11_⟩
 have n12_ : Aside0 (gb296 ≠ gb286) := ⟨h12_⟩
 have n13_ : Aside0 (gb287 ≠ gb296) := ⟨h13_⟩
 have n14_ : Aside0 (gb296 ≠ gb287) := ⟨h14_⟩
 have n15_ : Aside0 (gb297 ≠ gb296) := ⟨h15_⟩
 have n16_ : Aside0 (gb296 ≠ gb297) := ⟨h16_⟩
 have n17_ : Aside0 (w.heap.size ≤ gb297) := ⟨h17_⟩
 have n18_ : Aside0 (w.heap.size ≤ gb297) := ⟨h18_⟩
 have n19_ : Aside0 (gb285 ≠ gb297) := ⟨h19_⟩
 have n20_ : Aside0 (gb297 ≠ gb285) := ⟨h20_⟩
 have n21_ : Aside0 (gb286 ≠ gb297) := ⟨h21_⟩
 have n22_ : Aside0 (gb297 ≠ gb286) := ⟨h22_⟩
 have n23_ : Aside0 (gb287 ≠ gb297) := ⟨h23_⟩
 have n24_ : Aside0 (gb297 ≠ gb287) := ⟨h24_⟩
 have n25_ : Aside0 (Below w.heap.size w w14) := ⟨h25_⟩
 clear BK285 BK286 BK287 HB h0_ h1_ h2_ h3_ h4_ h5_ h6_ h7_ h8_ h9_ h10_ h11_ h12_ h13_ h14_ h15_ h16_ h17_ h18_ h19_ h20_ h21_ h22_ h23_ h24_ h25_; have HO291 := n0_; have HO295 := n1_; have BK285 := n2_; have BK286 := n3_; have BK287 := n4_; have BK296 := n5_; have BK297 := n6_; have GW296 := n7_; have GE296 := n8_; have NB285_296 := n9_; have NB296_285 := n10_; have NB286_296 := n11_; have NB296_286 := n12_; have NB287_296 := n13_; have NB296_287 := n14_; have NB297_296 := n15_; have NB296_297 := n16_; have GW297 := n17_; have GE297 := n18_; have NB285_297 := n19_; have NB297_285 := n20_; have NB286_297 := n21_; have NB297_286 := n22_; have NB287_297 := n23_; have NB297_287 := n24_; have HB := n25_; clear n0_ n1_ n2_ n3_ n4_ n5_ n6_ n7_ n8_ n9_ n10_ n11_ n12_ n13_ n14_ n15_ n16_ n17_ n18_ n19_ n20_ n21_ n22_ n23_ n24_ n25_
 have hHeld : w14.cell? ⟨gb285, 0, none⟩ = some (.int .i64 a0_0) ∧ w14.cell? ⟨gb285, 1, none⟩ = some (.slice A0_1 l0_1.length c0_1) ∧ w14.cell? ⟨gb286, 0, none⟩ = some (.int .i64 a1_0) ∧ w14.cell? ⟨gb286, 1, none⟩ = some (.slice A1_1 l1_1.length c1_1) := hS_
 obtain ⟨Ao16, co16, eo16⟩ := Kd.R_slice HO291.out
 (first | subst eo16 | (injection eo16 with f1_ f2_ f3_; have f4_ := f1_.symm; have f5_ := f3_.symm; clear f1_ f2_ f3_; subst f4_; subst f5_))
 obtain ⟨Ao19, co19, eo19⟩ := Kd.R_slice HO295.out
 (first | subst eo19 | (injection eo19 with f1_ f2_ f3_; have f4_ := f1_.symm; have f5_ := f3_.symm; clear f1_ f2_ f3_; subst f4_; subst f5_))
 refine norm_ (a' := ?_) ?_ ?_
 rotate_left
 ·simp only [putAll, Act.put, List.setIfInBounds_toArray, List.set_cons_zero, List.set_cons_succ]
  rfl
 refine one_ (i := 6) (N := none) #[true, true, true, true, true, true, true, false] rfl rfl (one_of HT_.out (by kernel_rfl)) (by decide) (fun K hK => ?_)
 have hs15 : w14.cell? ⟨gb296, 0, none⟩ = some (.int .i64 0) := bc_ BK296 0
 have hfs15 := blk_frozen BK296.out 0; have hns15_0 := NB285_296.out; have hns15_1 := NB286_296.out; have hns15_2 := NB287_296.out; have hns15_4 := NB297_296.out; have hms15_0 := NB296_285.out; have hms15_1 := NB296_286.out; have hms15_2 := NB296_287.out; have hms15_4 := NB296_297.out
 have hs17 : w14.cell? ⟨gb296, 1, none⟩ = some (.slice none 0 0) := bc_ BK296 1
 have hfs17 := blk_frozen BK296.out 1; have hns17_0 := NB285_296.out; have hns17_1 := NB286_296.out; have hns17_2 := NB287_296.out; have hns17_4 := NB297_296.out; have hms17_0 := NB296_285.out; have hms17_1 := NB296_286.out; have hms17_2 := NB296_287.out; have hms17_4 := NB296_297.out
 refine skip_ (w1 := ?_) (by rfl) rfl ?_ ?_
 rotate_left
 ·go_simp
  rfl
 refine hK.out _ _ ⟨((cell_far (p := ⟨gb296, _, none⟩) NB285_296.out _).trans (((cell_far (p := ⟨gb296, _, none⟩) NB285_296.out _).trans (hHeld.1)))), ((cell_far (p := ⟨gb296, _, none⟩) NB285_296.out _).trans (((cell_far (p := ⟨gb296, _, none⟩) NB285_296.out _).trans (hHeld.2.1)))), ((cell_far (p := ⟨gb296, _, none⟩) NB286_296.out _).trans (((cell_far (p := ⟨gb296, _, none⟩) NB286_296.out _).trans (hHeld.2.2.1)))), ((cell_far (p := ⟨gb296, _, none⟩) NB286_296.out _).trans (((cell_far (p := ⟨gb296, _, none⟩) NB286_296.out _).trans (hHeld.2.2.2))))⟩ (fun hHeld => ?_)
 clear hK K
 refine one_ (i := 7) (N := none) #[true, true, true, true, true, true, true, true] rfl rfl (one_of HT_.out (by kernel_rfl)) (by decide) (fun K hK => ?_)
 have hs18 : w14.cell? ⟨gb297, 0, none⟩ = some (.int .i64 0) := bc_ BK297 0
 have hfs18 := blk_frozen BK297.out 0; have hns18_0 := NB285_297.out; have hns18_1 := NB286_297.out; have hns18_2 := NB287_297.out; have hns18_3 := NB296_297.out; have hms18_0 := NB297_285.out; have hms18_1 := NB297_286.out; have hms18_2 := NB297_287.out; have hms18_3 := NB297_296.out
 have hs20 : w14.cell? ⟨gb297, 1, none⟩ = some (.slice none 0 0) := bc_ BK297 1
 have hfs20 := blk_frozen BK297.out 1; have hns20_0 := NB285_297.out; have hns20_1 := NB286_297.out; have hns20_2 := NB287_297.out; have hns20_3 := NB296_297.out; have hms20_0 := NB297_285.out; have hms20_1 := NB297_286.out; have hms20_2 := NB297_287.out; have hms20_3 := NB297_296.out
 refine skip_ (w1 := ?_) (by rfl) rfl ?_ ?_
 rotate_left
 ·go_simp
  rfl
 refine hK.out _ _ ⟨((cell_far (p := ⟨gb297, _, none⟩) NB285_297.out _).trans (((cell_far (p := ⟨gb297, _, none⟩) NB285_297.out _).trans (hHeld.1)))), ((cell_far (p := ⟨gb297, _, none⟩) NB285_297.out _).trans (((cell_far (p := ⟨gb297, _, none⟩) NB285_297.out _).trans (hHeld.2.1)))), ((cell_far (p := ⟨gb297, _, none⟩) NB286_297.out _).trans (((cell_far (p := ⟨gb297, _, none⟩) NB286_297.out _).trans (hHeld.2.2.1)))), ((cell_far (p := ⟨gb297, _, none⟩) NB286_297.out _).trans (((cell_far (p := ⟨gb297, _, none⟩) NB286_297.out _).trans (hHeld.2.2.2))))⟩ (fun hHeld => ?_)
 clear hK K
 refine done_ (done_of HT_.out (by kernel_rfl)) ?_
 have H := HASIDE.out; clear HASIDE
 by_cases c5 : t288 = 0
 ·rw [if_pos c5] at H
  have c5b0 : (t288 == 0) = true := beq_iff_eq.mpr c5
  have c5b1 : (t288 != 0) = false := bne_eq_false_iff_eq.mpr c5
  clear c5
  simp only [Option.some.injEq, Prod.mk.injEq] at H
  obtain ⟨rfl, rfl⟩ := H
  have hnb21 := NB296_285.out; have hnc21 := NB285_296.out; have hnb22 := NB296_286.out; have hnc22 := NB286_296.out; have hnb23 := NB296_287.out; have hnc23 := NB287_296.out; have hnb24 := NB296_297.out; have hnc24 := NB297_296.out
  have hcz25_0 : w14.cell? ⟨gb296, 0, none⟩ = some (.int .i64 0) := bc_ BK296 0
  have hcz25_1 : w14.cell? ⟨gb296, 1, none⟩ = some (.slice none 0 0) := bc_ BK296 1
  have hfz25_0 := blk_frozen BK296.out 0; have hfz25_1 := blk_frozen BK296.out 1; have hnb26 := NB297_285.out; have hnc26 := NB285_297.out; have hnb27 := NB297_286.out; have hnc27 := NB286_297.out; have hnb28 := NB297_287.out; have hnc28 := NB287_297.out
  have hcz29_0 : w14.cell? ⟨gb297, 0, none⟩ = some (.int .i64 0) := bc_ BK297 0
  have hcz29_1 : w14.cell? ⟨gb297, 1, none⟩ = some (.slice none 0 0) := bc_ BK297 1
  have hfz29_0 := blk_frozen BK297.out 0; have hfz29_1 := blk_frozen BK297.out 1; have hnb30 := NB287_285.out; have hnc30 := NB285_287.out; have hnb31 := NB287_286.out; have hnc31 := NB286_287.out
  have hcz32_0 : w14.cell? ⟨gb287, 0, none⟩ = some (.int .i64 0) := bc_ BK287 0
  have hcz32_1 : w14.cell? ⟨gb287, 1, none⟩ = some (.slice none 0 0) := bc_ BK287 1
  have hfz32_0 := blk_frozen BK287.out 0; have hfz32_1 := blk_frozen BK287.out 1
  try go_wp2
  refine bodyPost_ret (results_cell_row rfl _ _ gb287 26 #[.int .i64 t292, .slice Ao19 t293.length co19] (0, 0) _ rfl (by (with_reducible repeat (first | refine blk_drewN ?_ _ | refine blk_drew ?_ | refine blk_alloc ?_ _)); refine blk_put (cs := #[.int .i64 t292, .slice none 0 0]) ?_ 1 _ rfl; (with_reducible repeat (first | refine blk_drewN ?_ _ | refine blk_drew ?_ | refine blk_alloc ?_ _)); refine blk_put (cs := #[.int .i64 0, .slice none 0 0]) ?_ 0 _ rfl; (with_reducible repeat (first | refine blk_drewN ?_ _ | refine blk_drew ?_ | refine blk_alloc ?_ _)); refine blk_far ?_ NB287_297.out _; (with_reducible repeat (first | refine blk_drewN ?_ _ | refine blk_drew ?_ | refine blk_alloc ?_ _)); refine blk_far ?_ NB287_297.out _; (with_reducible repeat (first | refine blk_drewN ?_ _ | refine blk_drew ?_ | refine blk_alloc ?_ _)); refine blk_far ?_ NB287_296.out _; (with_reducible repeat (first | refine blk_drewN ?_ _ | refine blk_drew ?_ | refine blk_alloc ?_ _)); refine blk_far ?_ NB287_296.out _; (with_reducible repeat (first | refine blk_drewN ?_ _ | refine blk_drew ?_ | refine blk_alloc ?_ _)); exact BK287.out) Tryd.underlying26 rfl (by kernel_rfl)) rfl ?_
  exact ⟨_, by first | rfl | (simp [errW_none, errW_some] <;> rfl) | (simp [*, errW_none, errW_some] <;> rfl), by (with_reducible repeat (first | apply Kd.R_alloc | apply Kd.R_drewN | apply Kd.R_drew)); exact Kd.R_mono (Kd.R_far (p := ⟨gb287, 1, none⟩) (Kd.R_far (p := ⟨gb287, 0, none⟩) (Kd.R_far (p := ⟨gb297, 1, none⟩) (Kd.R_far (p := ⟨gb297, 0, none⟩) (Kd.R_far (p := ⟨gb296, 1, none⟩) (Kd.R_far (p := ⟨gb296, 0, none⟩) (Kd.R_types (Kd.R_types (Kd.R_types HO295.out BK296.out (by decide)) BK297.out (by decide)) BK287.out (by decide)) (fun _ hk => hk.1.1.2) (.int .i64 t288)) (fun _ hk => hk.1.1.2) (.slice Ao16 t289.length co16)) (fun _ hk => hk.1.2) (.int .i64 t292)) (fun _ hk => hk.1.2) (.slice Ao19 t293.length co19)) (fun _ hk => hk.2) (.int .i64 t292)) (fun _ hk => hk.2) (.slice Ao19 t293.length co19)) (fun _ hk => trivial), bl_ HB⟩
 ·rw [if_neg c5] at H
  have c5b0 : (t288 == 0) = false := beq_eq_false_iff_ne.mpr c5
  have c5b1 : (t288 != 0) = true := bne_iff_ne.mpr c5
  by_cases c33 : t292 = 0
  ·rw [if_pos c33] at H
   have c33b0 : (t292 == 0) = true := beq_iff_eq.mpr c33
   have c33b1 : (t292 != 0) = false := bne_eq_false_iff_eq.mpr c33
   clear c33
   simp only [Option.some.injEq, Prod.mk.injEq] at H
   obtain ⟨rfl, rfl⟩ := H
   have hnb49 := NB296_285.out; have hnc49 := NB285_296.out; have hnb50 := NB296_286.out; have hnc50 := NB286_296.out; have hnb51 := NB296_287.out; have hnc51 := NB287_296.out; have hnb52 := NB296_297.out; have hnc52 := NB297_296.out
   have hcz53_0 : w14.cell? ⟨gb296, 0, none⟩ = some (.int .i64 0) := bc_ BK296 0
   have hcz53_1 : w14.cell? ⟨gb296, 1, none⟩ = some (.slice none 0 0) := bc_ BK296 1
   have hfz53_0 := blk_frozen BK296.out 0; have hfz53_1 := blk_frozen BK296.out 1; have hnb54 := NB297_285.out; have hnc54 := NB285_297.out; have hnb55 := NB297_286.out; have hnc55 := NB286_297.out; have hnb56 := NB297_287.out; have hnc56 := NB287_297.out
   have hcz57_0 : w14.cell? ⟨gb297, 0, none⟩ = some (.int .i64 0) := bc_ BK297 0
   have hcz57_1 : w14.cell? ⟨gb297, 1, none⟩ = some (.slice none 0 0) := bc_ BK297 1
   have hfz57_0 := blk_frozen BK297.out 0; have hfz57_1 := blk_frozen BK297.out 1; have hnb58 := NB287_285.out; have hnc58 := NB285_287.out; have hnb59 := NB287_286.out; have hnc59 := NB286_287.out
   have hcz60_0 : w14.cell? ⟨gb287, 0, none⟩ = some (.int .i64 0) := bc_ BK287 0
   have hcz60_1 : w14.cell? ⟨gb287, 1, none⟩ = some (.slice none 0 0) := bc_ BK287 1
   have hfz60_0 := blk_frozen BK287.out 0; have hfz60_1 := blk_frozen BK287.out 1
   try go_wp2
   refine bodyPost_ret (results_cell_row rfl _ _ gb287 26 #[.int .i64 t288, .slice Ao16 t289.length co16] (0, 0) _ rfl (by (with_reducible repeat (first | refine blk_drewN ?_ _ | refine blk_drew ?_ | refine blk_alloc ?_ _)); refine blk_put (cs := #[.int .i64 t288, .slice none 0 0]) ?_ 1 _ rfl; (with_reducible repeat (first | refine blk_drewN ?_ _ | refine blk_drew ?_ | refine blk_alloc ?_ _)); refine blk_put (cs := #[.int .i64 0, .slice none 0 0]) ?_ 0 _ rfl; (with_reducible repeat (first | refine blk_drewN ?_ _ | refine blk_drew ?_ | refine blk_alloc ?_ _)); refine blk_far ?_ NB287_297.out _; (with_reducible repeat (first | refine blk_drewN ?_ _ | refine blk_drew ?_ | refine blk_alloc ?_ _)); refine blk_far ?_ NB287_297.out _; (with_reducible repeat (first | refine blk_drewN ?_ _ | refine blk_drew ?_ | refine blk_alloc ?_ _)); refine blk_far ?_ NB287_296.out _; (with_reducible repeat (first | refine blk_drewN ?_ _ | refine blk_drew ?_ | refine blk_alloc ?_ _)); refine blk_far ?_ NB287_296.out _; (with_reducible repeat (first | refine blk_drewN ?_ _ | refine blk_drew ?_ | refine blk_alloc ?_ _)); exact BK287.out) Tryd.underlying26 rfl (by kernel_rfl)) rfl ?_
   exact ⟨_, by first | rfl | (simp [errW_none, errW_some] <;> rfl) | (simp [*, errW_none, errW_some] <;> rfl), by (with_reducible repeat (first | apply Kd.R_alloc | apply Kd.R_drewN | apply Kd.R_drew)); exact Kd.R_mono (Kd.R_far (p := ⟨gb287, 1, none⟩) (Kd.R_far (p := ⟨gb287, 0, none⟩) (Kd.R_far (p := ⟨gb297, 1, none⟩) (Kd.R_far (p := ⟨gb297, 0, none⟩) (Kd.R_far (p := ⟨gb296, 1, none⟩) (Kd.R_far (p := ⟨gb296, 0, none⟩) (Kd.R_types (Kd.R_types (Kd.R_types HO291.out BK296.out (by decide)) BK297.out (by decide)) BK287.out (by decide)) (fun _ hk => hk.1.1.2) (.int .i64 t288)) (fun _ hk => hk.1.1.2) (.slice Ao16 t289.length co16)) (fun _ hk => hk.1.2) (.int .i64 t292)) (fun _ hk => hk.1.2) (.slice Ao19 t293.length co19)) (fun _ hk => hk.2) (.int .i64 t288)) (fun _ hk => hk.2) (.slice Ao16 t289.length co16)) (fun _ hk => trivial), bl_ HB⟩
  ·rw [if_neg c33] at H
   have c33b0 : (t292 == 0) = false := beq_eq_false_iff_ne.mpr c33
   have c33b1 : (t292 != 0) = true := bne_iff_ne.mpr c33
   replace H := Option.bind_eq_some_iff.mp H
   obtain ⟨t298, A610, H⟩ := H
   replace H : ((spec_l02Twos.f k t292 t293).bind fun t299 => ((spec_l02Twos.f k t288 t289).bind fun t300 => ((spec_l02Cut.f k t288 t289 t300).bind fun bt301 => ((spec_l02Twos.f k t292 t293).bind fun t305 => ((spec_l02Cut.f k t292 t293 t305).bind fun bt306 => ((spec_l02Compare.f k bt301.1 bt301.2 bt306.1 bt306.2).bind fun t310 => (spec_l02Common.l0 k (mn t298 t299) t310 bt301.1 bt301.2 bt306.1 bt306.2))))))) = some (r1, r2) := H
   have A61 := Aside0.mk A610; clear A610
   replace H := Option.bind_eq_some_iff.mp H
   obtain ⟨t299, A620, H⟩ := H
   replace H : ((spec_l02Twos.f k t288 t289).bind fun t300 => ((spec_l02Cut.f k t288 t289 t300).bind fun bt301 => ((spec_l02Twos.f k t292 t293).bind fun t305 => ((spec_l02Cut.f k t292 t293 t305).bind fun bt306 => ((spec_l02Compare.f k bt301.1 bt301.2 bt306.1 bt306.2).bind fun t310 => (spec_l02Common.l0 k (mn t298 t299) t310 bt301.1 bt301.2 bt306.1 bt306.2)))))) = some (r1, r2) := H
   have A62 := Aside0.mk A620; clear A620
   obtain ⟨ji63, hji63⟩ : ∃ j_ : Int, (mn t298 t299) = j_ := ⟨_, rfl⟩
   replace H : ((spec_l02Twos.f k t288 t289).bind fun t300 => ((spec_l02Cut.f k t288 t289 t300).bind fun bt301 => ((spec_l02Twos.f k t292 t293).bind fun t305 => ((spec_l02Cut.f k t292 t293 t305).bind fun bt306 => ((spec_l02Compare.f k bt301.1 bt301.2 bt306.1 bt306.2).bind fun t310 => (spec_l02Common.l0 k ji63 t310 bt301.1 bt301.2 bt306.1 bt306.2)))))) = some (r1, r2) := by first | (rw [hji63] at H; exact H) | (simp only [hji63] at H ⊢; exact H)
   (try rw [hji63] at A3)
   (try rw [hji63] at A4)
   (try rw [hji63] at A61)
   (try rw [hji63] at A62)
   have hji63_ : (if t299 < t298 then t299 else t298) = ji63 := hji63
   replace H := Option.bind_eq_some_iff.mp H
   obtain ⟨t300, A640, H⟩ := H
   replace H : ((spec_l02Cut.f k t288 t289 t300).bind fun bt301 => ((spec_l02Twos.f k t292 t293).bind fun t305 => ((spec_l02Cut.f k t292 t293 t305).bind fun bt306 => ((spec_l02Compare.f k bt301.1 bt301.2 bt306.1 bt306.2).bind fun t310 => (spec_l02Common.l0 k ji63 t310 bt301.1 bt301.2 bt306.1 bt306.2))))) = some (r1, r2) := H
   have A64 := Aside0.mk A640; clear A640
   replace H := Option.bind_eq_some_iff.mp H
   obtain ⟨⟨t301, t302⟩, A650, H⟩ := H
   replace H : ((spec_l02Twos.f k t292 t293).bind fun t305 => ((spec_l02Cut.f k t292 t293 t305).bind fun bt306 => ((spec_l02Compare.f k t301 t302 bt306.1 bt306.2).bind fun t310 => (spec_l02Common.l0 k ji63 t310 t301 t302 bt306.1 bt306.2)))) = some (r1, r2) := H
   have A65 := Aside0.mk A650; clear A650
   replace H := Option.bind_eq_some_iff.mp H
   obtain ⟨t305, A660, H⟩ := H
   replace H : ((spec_l02Cut.f k t292 t293 t305).bind fun bt306 => ((spec_l02Compare.f k t301 t302 bt306.1 bt306.2).bind fun t310 => (spec_l02Common.l0 k ji63 t310 t301 t302 bt306.1 bt306.2))) = some (r1, r2) := H
   have A66 := Aside0.mk A660; clear A660
   replace H := Option.bind_eq_some_iff.mp H
   obtain ⟨⟨t306, t307⟩, A670, H⟩ := H
   replace H : ((spec_l02Compare.f k t301 t302 t306 t307).bind fun t310 => (spec_l02Common.l0 k ji63 t310 t301 t302 t306 t307)) = some (r1, r2) := H
   have A67 := Aside0.mk A670; clear A670
   replace H := Option.bind_eq_some_iff.mp H
   obtain ⟨t310, A680, H⟩ := H
   replace H : (spec_l02Common.l0 k ji63 t310 t301 t302 t306 t307) = some (r1, r2) := H
   have A68 := Aside0.mk A680; clear A680
   have H' := Aside0.mk H
   clear H
   have hnb84 := NB296_285.out; have hnc84 := NB285_296.out; have hnb85 := NB296_286.out; have hnc85 := NB286_296.out; have hnb86 := NB296_287.out; have hnc86 := NB287_296.out; have hnb87 := NB296_297.out; have hnc87 := NB297_296.out
   have hcz88_0 : w14.cell? ⟨gb296, 0, none⟩ = some (.int .i64 0) := bc_ BK296 0
   have hcz88_1 : w14.cell? ⟨gb296, 1, none⟩ = some (.slice none 0 0) := bc_ BK296 1
   have hfz88_0 := blk_frozen BK296.out 0; have hfz88_1 := blk_frozen BK296.out 1; have hnb89 := NB297_285.out; have hnc89 := NB285_297.out; have hnb90 := NB297_286.out; have hnc90 := NB286_297.out; have hnb91 := NB297_287.out; have hnc91 := NB287_297.out
   have hcz92_0 : w14.cell? ⟨gb297, 0, none⟩ = some (.int .i64 0) := bc_ BK297 0
   have hcz92_1 : w14.cell? ⟨gb297, 1, none⟩ = some (.slice none 0 0) := bc_ BK297 1
   have hfz92_0 := blk_frozen BK297.out 0; have hfz92_1 := blk_frozen BK297.out 1
   try go_wp2
   have n0_ : Aside0 (Kd.R (Kd.int .i64) 2 ((((w14.setCell ⟨gb296, 0, none⟩ (.int .i64 t288)).setCell ⟨gb296, 1, none⟩ (.slice Ao16 t289.length co16)).setCell ⟨gb297, 0, none⟩ (.int .i64 t292)).setCell ⟨gb297, 1, none⟩ (.slice Ao19 t293.length co19)) w.heap.size (fun k_ => some k_ ≠ (.slice Ao19 t293.length co19 : Value).ownBlock) (.slice Ao16 t289.length co16) t289) := ⟨by (with_reducible repeat (first | apply Kd.R_alloc | apply Kd.R_drewN | apply Kd.R_drew)); exact Kd.R_mono (Kd.R_far (p := ⟨gb297, 1, none⟩) (Kd.R_far (p := ⟨gb297, 0, none⟩) (Kd.R_far (p := ⟨gb296, 1, none⟩) (Kd.R_far (p := ⟨gb296, 0, none⟩) (Kd.R_types (Kd.R_types HO291.out BK296.out (by decide)) BK297.out (by decide)) (fun _ hk => hk.1.2) (.int .i64 t288)) (fun _ hk => hk.1.2) (.slice Ao16 t289.length co16)) (fun _ hk => hk.2) (.int .i64 t292)) (fun _ hk => hk.2) (.slice Ao19 t293.length co19)) (fun _ hk => hk.1.1)⟩
   have n1_ : Aside0 (Kd.R (Kd.int .i64) 2 ((((w14.setCell ⟨gb296, 0, none⟩ (.int .i64 t288)).setCell ⟨gb296, 1, none⟩ (.slice Ao16 t289.length co16)).setCell ⟨gb297, 0, none⟩ (.int .i64 t292)).setCell ⟨gb297, 1, none⟩ (.slice Ao19 t293.length co19)) w.heap.size (fun k_ => some k_ ≠ (.slice Ao16 t289.length co16 : Value).ownBlock) (.slice Ao19 t293.length co19) t293) := ⟨by (with_reducible repeat (first | apply Kd.R_alloc | apply Kd.R_drewN | apply Kd.R_drew)); exact Kd.R_mono (Kd.R_far (p := ⟨gb297, 1, none⟩) (Kd.R_far (p := ⟨gb297, 0, none⟩) (Kd.R_far (p := ⟨gb296, 1, none⟩) (Kd.R_far (p := ⟨gb296, 0, none⟩) (Kd.R_types (Kd.R_types HO295.out BK296.out (by decide)) BK297.out (by decide)) (fun _ hk => hk.1.2) (.int .i64 t288)) (fun _ hk => hk.1.2) (.slice Ao16 t289.length co16)) (fun _ hk => hk.2) (.int .i64 t292)) (fun _ hk => hk.2) (.slice Ao19 t293.length co19)) (fun _ hk => hk.1.1)⟩
   have n2_ : Aside0 (((((w14.setCell ⟨gb296, 0, none⟩ (.int .i64 t288)).setCell ⟨gb296, 1, none⟩ (.slice Ao16 t289.length co16)).setCell ⟨gb297, 0, none⟩ (.int .i64 t292)).setCell ⟨gb297, 1, none⟩ (.slice Ao19 t293.length co19)).heap[gb285]? = some (.cells #[.int .i64 a0_0, .slice A0_1 l0_1.length c0_1] 26 (0, 0))) := ⟨bk_ BK285⟩
   have n3_ : Aside0 (((((w14.setCell ⟨gb296, 0, none⟩ (.int .i64 t288)).setCell ⟨gb296, 1, none⟩ (.slice Ao16 t289.length co16)).setCell ⟨gb297, 0, none⟩ (.int .i64 t292)).setCell ⟨gb297, 1, none⟩ (.slice Ao19 t293.length co19)).heap[gb286]? = some (.cells #[.int .i64 a1_0, .slice A1_1 l1_1.length c1_1] 26 (0, 0))) := ⟨bk_ BK286⟩
   have n4_ : Aside0 (((((w14.setCell ⟨gb296, 0, none⟩ (.int .i64 t288)).setCell ⟨gb296, 1, none⟩ (.slice Ao16 t289.length co16)).setCell ⟨gb297, 0, none⟩ (.int .i64 t292)).setCell ⟨gb297, 1, none⟩ (.slice Ao19 t293.length co19)).heap[gb287]? = some (.cells #[.int .i64 0, .slice none 0 0] 26 (0, 0))) := ⟨bk_ BK287⟩
   have n5_ : Aside0 (((((w14.setCell ⟨gb296, 0, none⟩ (.int .i64 t288)).setCell ⟨gb296, 1, none⟩ (.slice Ao16 t289.length co16)).setCell ⟨gb297, 0, none⟩ (.int .i64 t292)).setCell ⟨gb297, 1, none⟩ (.slice Ao19 t293.length co19)).heap[gb296]? = some (.cells #[.int .i64 t288, .slice Ao16 t289.length co16] 26 (0, 0))) := ⟨by (with_reducible repeat (first | refine blk_drewN ?_ _ | refine blk_drew ?_ | refine blk_alloc ?_ _)); refine blk_far ?_ NB296_297.out _; (with_reducible repeat (first | refine blk_drewN ?_ _ | refine blk_drew ?_ | refine blk_alloc ?_ _)); refine blk_far ?_ NB296_297.out _; (with_reducible repeat (first | refine blk_drewN ?_ _ | refine blk_drew ?_ | refine blk_alloc ?_ _)); refine blk_put (cs := #[.int .i64 t288, .slice none 0 0]) ?_ 1 _ rfl; (with_reducible repeat (first | refine blk_drewN ?_ _ | refine blk_drew ?_ | refine blk_alloc ?_ _)); refine blk_put (cs := #[.int .i64 0, .slice none 0 0]) ?_ 0 _ rfl; (with_reducible repeat (first | refine blk_drewN ?_ _ | refine blk_drew ?_ | refine blk_alloc ?_ _)); exact BK296.out⟩
   have n6_ : Aside0 (((((w14.setCell ⟨gb296, 0, none⟩ (.int .i64 t288)).setCell ⟨gb296, 1, none⟩ (.slice Ao16 t289.length co16)).setCell ⟨gb297, 0, none⟩ (.int .i64 t292)).setCell ⟨gb297, 1, none⟩ (.slice Ao19 t293.length co19)).heap[gb297]? = some (.cells #[.int .i64 t292, .slice Ao19 t293.length co19] 26 (0, 0))) := ⟨by (with_reducible repeat (first | refine blk_drewN ?_ _ | refine blk_drew ?_ | refine blk_alloc ?_ _)); refine blk_put (cs := #[.int .i64 t292, .slice none 0 0]) ?_ 1 _ rfl; (with_reducible repeat (first | refine blk_drewN ?_ _ | refine blk_drew ?_ | refine blk_alloc ?_ _)); refine blk_put (cs := #[.int .i64 0, .slice none 0 0]) ?_ 0 _ rfl; (with_reducible repeat (first | refine blk_drewN ?_ _ | refine blk_drew ?_ | refine blk_alloc ?_ _)); refine blk_far ?_ NB297_296.out _; (with_reducible repeat (first | refine blk_drewN ?_ _ | refine blk_drew ?_ | refine blk_alloc ?_ _)); refine blk_far ?_ NB297_296.out _; (with_reducible repeat (first | refine blk_drewN ?_ _ | refine blk_drew ?_ | refine blk_alloc ?_ _)); exact BK297.out⟩
   have n7_ : Aside0 (Below w.heap.size w ((((w14.setCell ⟨gb296, 0, none⟩ (.int .i64 t288)).setCell ⟨gb296, 1, none⟩ (.slice Ao16 t289.length co16)).setCell ⟨gb297, 0, none⟩ (.int .i64 t292)).setCell ⟨gb297, 1, none⟩ (.slice Ao19 t293.length co19))) := ⟨bl_ HB⟩
   (try clear HO291); (try clear HO295); (try clear BK285); (try clear BK286); (try clear BK287); (try clear BK296); (try clear BK297); (try clear HB)
   generalize ((((w14.setCell ⟨gb296, 0, none⟩ (.int .i64 t288)).setCell ⟨gb296, 1, none⟩ (.slice Ao16 t289.length co16)).setCell ⟨gb297, 0, none⟩ (.int .i64 t292)).setCell ⟨gb297, 1, none⟩ (.slice Ao19 t293.length co19)) = w93 at n0_ n1_ n2_ n3_ n4_ n5_ n6_ n7_ ⊢
   have HO291 := n0_; have HO295 := n1_; have BK285 := n2_; have BK286 := n3_; have BK287 := n4_; have BK296 := n5_; have BK297 := n6_; have HB := n7_; clear n0_ n1_ n2_ n3_ n4_ n5_ n6_ n7_; replace HO291 := am_ (Kd.R_drew HO291.out); replace HO295 := am_ (Kd.R_drew HO295.out); replace BK285 := am_ (blk_drew BK285.out); replace BK286 := am_ (blk_drew BK286.out); replace BK287 := am_ (blk_drew BK287.out); replace BK296 := am_ (blk_drew BK296.out); replace BK297 := am_ (blk_drew BK297.out); replace HB := am_ (below_drew1 HB.out)
   refine start_ (n := 6) (S := fun w' => w'.cell? ⟨gb296, 0, none⟩ = some (.int .i64 t288) ∧ w'.cell? ⟨gb296, 1, none⟩ = some (.slice Ao16 t289.length co16) ∧ w'.cell? ⟨gb297, 0, none⟩ = some (.int .i64 t292) ∧ w'.cell? ⟨gb297, 1, none⟩ = some (.slice Ao19 t293.length co19)) (ds := []) #[false, false, false, false, false, false] (by kernel_rfl) rfl rfl ⟨bc_ BK296 0, bc_ BK296 1, bc_ BK297 0, bc_ BK297 1⟩ (fun hHeld => ?_)
   generalize w93.drew = w94 at HO291 HO295 BK285 BK286 BK287 BK296 BK297 HB hHeld ⊢
   refine take_ (i := 0) (N := some 21) (v := ?_) (a' := ?_) #[true, false, false, false, false, false] rfl rfl (by kernel_rfl) (fun _ _ _ h => h) (Or.inl ⟨by rfl, ?_⟩) hHeld ?_ ?_
   rotate_left
   ·rintro w' ⟨s0, s1, s2, s3⟩
    go_simp
    with_reducible rfl
   rotate_left
   ·exact nm_
   refine take_ (i := 2) (N := some 23) (v := ?_) (a' := ?_) #[true, false, true, false, false, false] rfl rfl (by kernel_rfl) (fun _ _ _ h => h) (Or.inl ⟨by rfl, ?_⟩) hHeld ?_ ?_
   rotate_left
   ·rintro w' ⟨s0, s1, s2, s3⟩
    go_simp
    with_reducible rfl
   rotate_left
   ·exact nm_
   refine one_ (i := 1) (N := some 22) #[true, true, true, false, false, false] rfl rfl (by kernel_rfl) (by decide) (fun K hK => ?_)
   refine goes_ Tryd.func112 (by kernel_rfl) rfl #[.agg #[.int .i64 t288, .slice Ao16 t289.length co16]] (by rfl) rfl rfl ma_ ?_
   with_reducible refine (spec_l02Twos.calls k t288 _ _ t289 t298 _ ?side1 ?side2 A61.out).mono ?_
   (case side1 => exact cr_ HO291)
   (case side2 => exact (Kd.R_reads' HO291.out).2.1)
   rintro e w95 ⟨rfl, hb⟩
   refine ⟨_, rfl, ?_⟩
   replace HO291 := am_ (Kd.R_below (kr_ HO291) hb); replace HO295 := am_ (Kd.R_below (kr_ HO295) hb); replace BK285 := am_ (blk_below (bk_ BK285) hb); replace BK286 := am_ (blk_below (bk_ BK286) hb); replace BK287 := am_ (blk_below (bk_ BK287) hb); replace BK296 := am_ (blk_below (bk_ BK296) hb); replace BK297 := am_ (blk_below (bk_ BK297) hb); replace HB := am_ (below_step (bl_ HB) hb); (try clear hb); (try clear hb2); (try clear hk); (try clear hi)
   refine hK.out _ _ ⟨bc_ BK296 0, bc_ BK296 1, bc_ BK297 0, bc_ BK297 1⟩ (fun hHeld => ?_)
   clear hK K
   refine norm_ (a' := ?_) ?_ ?_
   rotate_left
   ·show Act.put _ (some 22) _ = _
    exact nm_
   refine one_ (i := 3) (N := some 24) #[true, true, true, true, false, false] rfl rfl (by kernel_rfl) (by decide) (fun K hK => ?_)
   refine goes_ Tryd.func112 (by kernel_rfl) rfl #[.agg #[.int .i64 t292, .slice Ao19 t293.length co19]] (by rfl) rfl rfl ma_ ?_
   with_reducible refine (spec_l02Twos.calls k t292 _ _ t293 t299 _ ?side1 ?side2 A62.out).mono ?_
   (case side1 => exact cr_ HO295)
   (case side2 => exact (Kd.R_reads' HO295.out).2.1)
   rintro e w96 ⟨rfl, hb⟩
   refine ⟨_, rfl, ?_⟩
   replace HO291 := am_ (Kd.R_below (kr_ HO291) hb); replace HO295 := am_ (Kd.R_below (kr_ HO295) hb); replace BK285 := am_ (blk_below (bk_ BK285) hb); replace BK286 := am_ (blk_below (bk_ BK286) hb); replace BK287 := am_ (blk_below (bk_ BK287) hb); replace BK296 := am_ (blk_below (bk_ BK296) hb); replace BK297 := am_ (blk_below (bk_ BK297) hb); replace HB := am_ (below_step (bl_ HB) hb); (try clear hb); (try clear hb2); (try clear hk); (try clear hi)
   refine hK.out _ _ ⟨bc_ BK296 0, bc_ BK296 1, bc_ BK297 0, bc_ BK297 1⟩ (fun hHeld => ?_)
   clear hK K
   refine norm_ (a' := ?_) ?_ ?_
   rotate_left
   ·show Act.put _ (some 24) _ = _
    exact nm_
   refine pure_ (i := 4) (N := some 25) (v := ?_) (a' := ?_) #[true, true, true, true, true, false] rfl rfl (by kernel_rfl) (fun _ _ _ h => h) (Or.inl ⟨by rfl, ?_⟩) ?_ ?_
   rotate_left
   ·intro w'
    go_simp
    with_reducible rfl
   rotate_left
   ·exact nm_
   refine pure_ (i := 5) (N := some 7) (v := ?_) (a' := ?_) #[true, true, true, true, true, true] rfl rfl (by kernel_rfl) (fun _ _ _ h => h) (Or.inl ⟨by rfl, ?_⟩) ?_ ?_
   rotate_left
   ·intro w'
    go_simp
    with_reducible rfl
   rotate_left
   ·exact nm_
   refine done_ (by kernel_rfl) ?_
   try go_wp2
   replace HO291 := am_ (Kd.R_drew HO291.out); replace HO295 := am_ (Kd.R_drew HO295.out); replace BK285 := am_ (blk_drew BK285.out); replace BK286 := am_ (blk_drew BK286.out); replace BK287 := am_ (blk_drew BK287.out); replace BK296 := am_ (blk_drew BK296.out); replace BK297 := am_ (blk_drew BK297.out); replace HB := am_ (below_drew1 HB.out)
   refine start_ (n := 5) (S := fun w' => w'.cell? ⟨gb296, 0, none⟩ = some (.int .i64 t288) ∧ w'.cell? ⟨gb296, 1, none⟩ = some (.slice Ao16 t289.length co16)) (ds := [4]) #[false, false, false, false, false] (by kernel_rfl) rfl rfl ⟨bc_ BK296 0, bc_ BK296 1⟩ (fun hHeld => ?_)
   generalize w96.drew = w97 at HO291 HO295 BK285 BK286 BK287 BK296 BK297 HB hHeld ⊢
   refine take_ (i := 0) (N := some 26) (v := ?_) (a' := ?_) #[true, false, false, false, false] rfl rfl (by kernel_rfl) (fun _ _ _ h => h) (Or.inl ⟨by rfl, ?_⟩) hHeld ?_ ?_
   rotate_left
   ·rintro w' ⟨s0, s1⟩
    go_simp
    with_reducible rfl
   rotate_left
   ·exact nm_
   refine take_ (i := 1) (N := some 27) (v := ?_) (a' := ?_) #[true, true, false, false, false] rfl rfl (by kernel_rfl) (fun _ _ _ h => h) (Or.inl ⟨by rfl, ?_⟩) hHeld ?_ ?_
   rotate_left
   ·rintro w' ⟨s0, s1⟩
    go_simp
    with_reducible rfl
   rotate_left
   ·exact nm_
   refine one_ (i := 2) (N := some 28) #[true, true, true, false, false] rfl rfl (by kernel_rfl) (by decide) (fun K hK => ?_)
   refine goes_ Tryd.func112 (by kernel_rfl) rfl #[.agg #[.int .i64 t288, .slice Ao16 t289.length co16]] (by rfl) rfl rfl ma_ ?_
   with_reducible refine (spec_l02Twos.calls k t288 _ _ t289 t300 _ ?side1 ?side2 A64.out).mono ?_
   (case side1 => exact cr_ HO291)
   (case side2 => exact (Kd.R_reads' HO291.out).2.1)
   rintro e w98 ⟨rfl, hb⟩
   refine ⟨_, rfl, ?_⟩
   replace HO291 := am_ (Kd.R_below (kr_ HO291) hb); replace HO295 := am_ (Kd.R_below (kr_ HO295) hb); replace BK285 := am_ (blk_below (bk_ BK285) hb); replace BK286 := am_ (blk_below (bk_ BK286) hb); replace BK287 := am_ (blk_below (bk_ BK287) hb); replace BK296 := am_ (blk_below (bk_ BK296) hb); replace BK297 := am_ (blk_below (bk_ BK297) hb); replace HB := am_ (below_step (bl_ HB) hb); (try clear hb); (try clear hb2); (try clear hk); (try clear hi)
   refine hK.out _ _ ⟨bc_ BK296 0, bc_ BK296 1⟩ (fun hHeld => ?_)
   clear hK K
   refine norm_ (a' := ?_) ?_ ?_
   rotate_left
   ·show Act.put _ (some 28) _ = _
    exact nm_
   refine one_ (i := 3) (N := some 29) #[true, true, true, true, false] rfl rfl (by kernel_rfl) (by decide) (fun K hK => ?_)
   refine goes_ Tryd.func113 (by kernel_rfl) rfl #[.agg #[.int .i64 t288, .slice Ao16 t289.length co16], .int .i64 t300] (by rfl) rfl rfl ma_ ?_
   with_reducible refine (spec_l02Cut.calls k t288 _ _ t289 t300 t301 t302 _ ?side1 ?side2 A65.out).mono ?_
   (case side1 => exact cr_ HO291)
   (case side2 => exact (Kd.R_reads' HO291.out).2.1)
   rintro e w99 ⟨v303, rfl, ho0, hb⟩
   refine ⟨_, rfl, ?_⟩
   have HO304 := am_ (Kd.R_lower (Kd.R_new' (Kd.R_new' ho0 (Kd.R_lt (kr_ HO291))) (Kd.R_lt (kr_ HO295))) (below_size (bl_ HB))); replace HO291 := am_ (Kd.R_elder' (kr_ HO291) (Kd.R_base ho0) hb); replace HO295 := am_ (Kd.R_elder' (kr_ HO295) (Kd.R_base ho0) hb); replace BK285 := am_ (blk_below (bk_ BK285) hb); replace BK286 := am_ (blk_below (bk_ BK286) hb); replace BK287 := am_ (blk_below (bk_ BK287) hb); replace BK296 := am_ (blk_below (bk_ BK296) hb); replace BK297 := am_ (blk_below (bk_ BK297) hb); replace HB := am_ (below_step (bl_ HB) hb); (try clear hb); (try clear hb2); (try clear hk); (try clear hi); (try clear ho0)
   obtain ⟨Ao101, co101, eo101⟩ := Kd.R_slice HO304.out
   (first | subst eo101 | (injection eo101 with f1_ f2_ f3_; have f4_ := f1_.symm; have f5_ := f3_.symm; clear f1_ f2_ f3_; subst f4_; subst f5_))
   refine hK.out _ _ ⟨bc_ BK296 0, bc_ BK296 1⟩ (fun hHeld => ?_)
   clear hK K
   refine norm_ (a' := ?_) ?_ ?_
   rotate_left
   ·show Act.put _ (some 29) _ = _
    exact nm_
   refine last_ (i := 4) (N := none) #[true, true, true, true, true] rfl rfl (by kernel_rfl) (by decide) (fun K hK => ?_)
   have hs100 : w99.cell? ⟨gb296, 0, none⟩ = some (.int .i64 t288) := bc_ BK296 0
   have hfs100 := blk_frozen BK296.out 0; have hns100_0 := NB285_296.out; have hns100_1 := NB286_296.out; have hns100_2 := NB287_296.out; have hns100_4 := NB297_296.out; have hms100_0 := NB296_285.out; have hms100_1 := NB296_286.out; have hms100_2 := NB296_287.out; have hms100_4 := NB296_297.out
   have hs102 : w99.cell? ⟨gb296, 1, none⟩ = some (.slice Ao16 t289.length co16) := bc_ BK296 1
   have hfs102 := blk_frozen BK296.out 1; have hns102_0 := NB285_296.out; have hns102_1 := NB286_296.out; have hns102_2 := NB287_296.out; have hns102_4 := NB297_296.out; have hms102_0 := NB296_285.out; have hms102_1 := NB296_286.out; have hms102_2 := NB296_287.out; have hms102_4 := NB296_297.out
   refine skip_ (w1 := ?_) (by rfl) rfl ?_ ?_
   rotate_left
   ·go_simp
    rfl
   refine hK.out _ _ ?_
   clear hK K
   refine done_ (by kernel_rfl) ?_
   try go_wp2
   have n0_ : Aside0 (Kd.R (Kd.int .i64) 2 ((w99.setCell ⟨gb296, 0, none⟩ (.int .i64 t301)).setCell ⟨gb296, 1, none⟩ (.slice Ao101 t302.length co101)) w.heap.size (fun k_ => some k_ ≠ (.slice Ao19 t293.length co19 : Value).ownBlock ∧ some k_ ≠ (.slice Ao101 t302.length co101 : Value).ownBlock) (.slice Ao16 t289.length co16) t289) := ⟨by (with_reducible repeat (first | apply Kd.R_alloc | apply Kd.R_drewN | apply Kd.R_drew)); exact Kd.R_mono (Kd.R_far (p := ⟨gb296, 1, none⟩) (Kd.R_far (p := ⟨gb296, 0, none⟩) (Kd.R_types HO291.out BK296.out (by decide)) (fun _ hk => hk.2) (.int .i64 t301)) (fun _ hk => hk.2) (.slice Ao101 t302.length co101)) (fun _ hk => ⟨hk.1.1, hk.1.2⟩)⟩
   have n1_ : Aside0 (Kd.R (Kd.int .i64) 2 ((w99.setCell ⟨gb296, 0, none⟩ (.int .i64 t301)).setCell ⟨gb296, 1, none⟩ (.slice Ao101 t302.length co101)) w.heap.size (fun k_ => some k_ ≠ (.slice Ao16 t289.length co16 : Value).ownBlock ∧ some k_ ≠ (.slice Ao101 t302.length co101 : Value).ownBlock) (.slice Ao19 t293.length co19) t293) := ⟨by (with_reducible repeat (first | apply Kd.R_alloc | apply Kd.R_drewN | apply Kd.R_drew)); exact Kd.R_mono (Kd.R_far (p := ⟨gb296, 1, none⟩) (Kd.R_far (p := ⟨gb296, 0, none⟩) (Kd.R_types HO295.out BK296.out (by decide)) (fun _ hk => hk.2) (.int .i64 t301)) (fun _ hk => hk.2) (.slice Ao101 t302.length co101)) (fun _ hk => ⟨hk.1.1, hk.1.2⟩)⟩
   have n2_ : Aside0 (Kd.R (Kd.int .i64) 2 ((w99.setCell ⟨gb296, 0, none⟩ (.int .i64 t301)).setCell ⟨gb296, 1, none⟩ (.slice Ao101 t302.length co101)) w.heap.size (fun k_ => some k_ ≠ (.slice Ao16 t289.length co16 : Value).ownBlock ∧ some k_ ≠ (.slice Ao19 t293.length co19 : Value).ownBlock) (.slice Ao101 t302.length co101) t302) := ⟨by (with_reducible repeat (first | apply Kd.R_alloc | apply Kd.R_drewN | apply Kd.R_drew)); exact Kd.R_mono (Kd.R_far (p := ⟨gb296, 1, none⟩) (Kd.R_far (p := ⟨gb296, 0, none⟩) (Kd.R_types HO304.out BK296.out (by decide)) (fun _ hk => hk.2) (.int .i64 t301)) (fun _ hk => hk.2) (.slice Ao101 t302.length co101)) (fun _ hk => ⟨hk.1.1.2, hk.1.2⟩)⟩
   have n3_ : Aside0 (((w99.setCell ⟨gb296, 0, none⟩ (.int .i64 t301)).setCell ⟨gb296, 1, none⟩ (.slice Ao101 t302.length co101)).heap[gb285]? = some (.cells #[.int .i64 a0_0, .slice A0_1 l0_1.length c0_1] 26 (0, 0))) := ⟨bk_ BK285⟩
   have n4_ : Aside0 (((w99.setCell ⟨gb296, 0, none⟩ (.int .i64 t301)).setCell ⟨gb296, 1, none⟩ (.slice Ao101 t302.length co101)).heap[gb286]? = some (.cells #[.int .i64 a1_0, .slice A1_1 l1_1.length c1_1] 26 (0, 0))) := ⟨bk_ BK286⟩
   have n5_ : Aside0 (((w99.setCell ⟨gb296, 0, none⟩ (.int .i64 t301)).setCell ⟨gb296, 1, none⟩ (.slice Ao101 t302.length co101)).heap[gb287]? = some (.cells #[.int .i64 0, .slice none 0 0] 26 (0, 0))) := ⟨bk_ BK287⟩
   have n6_ : Aside0 (((w99.setCell ⟨gb296, 0, none⟩ (.int .i64 t301)).setCell ⟨gb296, 1, none⟩ (.slice Ao101 t302.length co101)).heap[gb296]? = some (.cells #[.int .i64 t301, .slice Ao101 t302.length co101] 26 (0, 0))) := ⟨bp2_ BK296⟩
   have n7_ : Aside0 (((w99.setCell ⟨gb296, 0, none⟩ (.int .i64 t301)).setCell ⟨gb296, 1, none⟩ (.slice Ao101 t302.length co101)).heap[gb297]? = some (.cells #[.int .i64 t292, .slice Ao19 t293.length co19] 26 (0, 0))) := ⟨bk_ BK297⟩
   have n8_ : Aside0 (Below w.heap.size w ((w99.setCell ⟨gb296, 0, none⟩ (.int .i64 t301)).setCell ⟨gb296, 1, none⟩ (.slice Ao101 t302.length co101))) := ⟨bl_ HB⟩
   (try clear HO291); (try clear HO295); (try clear HO304); (try clear BK285); (try clear BK286); (try clear BK287); (try clear BK296); (try clear BK297); (try clear HB)
   generalize ((w99.setCell ⟨gb296, 0, none⟩ (.int .i64 t301)).setCell ⟨gb296, 1, none⟩ (.slice Ao101 t302.length co101)) = w103 at n0_ n1_ n2_ n3_ n4_ n5_ n6_ n7_ n8_ ⊢
   have HO291 := n0_; have HO295 := n1_; have HO304 := n2_; have BK285 := n3_; have BK286 := n4_; have BK287 := n5_; have BK296 := n6_; have BK297 := n7_; have HB := n8_; clear n0_ n1_ n2_ n3_ n4_ n5_ n6_ n7_ n8_; replace HO291 := am_ (Kd.R_drew HO291.out); replace HO295 := am_ (Kd.R_drew HO295.out); replace HO304 := am_ (Kd.R_drew HO304.out); replace BK285 := am_ (blk_drew BK285.out); replace BK286 := am_ (blk_drew BK286.out); replace BK287 := am_ (blk_drew BK287.out); replace BK296 := am_ (blk_drew BK296.out); replace BK297 := am_ (blk_drew BK297.out); replace HB := am_ (below_drew1 HB.out)
   refine start_ (n := 5) (S := fun w' => w'.cell? ⟨gb297, 0, none⟩ = some (.int .i64 t292) ∧ w'.cell? ⟨gb297, 1, none⟩ = some (.slice Ao19 t293.length co19)) (ds := [4]) #[false, false, false, false, false] (by kernel_rfl) rfl rfl ⟨bc_ BK297 0, bc_ BK297 1⟩ (fun hHeld => ?_)
   generalize w103.drew = w104 at HO291 HO295 HO304 BK285 BK286 BK287 BK296 BK297 HB hHeld ⊢
   refine take_ (i := 0) (N := some 30) (v := ?_) (a' := ?_) #[true, false, false, false, false] rfl rfl (by kernel_rfl) (fun _ _ _ h => h) (Or.inl ⟨by rfl, ?_⟩) hHeld ?_ ?_
   rotate_left
   ·rintro w' ⟨s0, s1⟩
    go_simp
    with_reducible rfl
   rotate_left
   ·exact nm_
   refine take_ (i := 1) (N := some 31) (v := ?_) (a' := ?_) #[true, true, false, false, false] rfl rfl (by kernel_rfl) (fun _ _ _ h => h) (Or.inl ⟨by rfl, ?_⟩) hHeld ?_ ?_
   rotate_left
   ·rintro w' ⟨s0, s1⟩
    go_simp
    with_reducible rfl
   rotate_left
   ·exact nm_
   refine one_ (i := 2) (N := some 32) #[true, true, true, false, false] rfl rfl (by kernel_rfl) (by decide) (fun K hK => ?_)
   refine goes_ Tryd.func112 (by kernel_rfl) rfl #[.agg #[.int .i64 t292, .slice Ao19 t293.length co19]] (by rfl) rfl rfl ma_ ?_
   with_reducible refine (spec_l02Twos.calls k t292 _ _ t293 t305 _ ?side1 ?side2 A66.out).mono ?_
   (case side1 => exact cr_ HO295)
   (case side2 => exact (Kd.R_reads' HO295.out).2.1)
   rintro e w105 ⟨rfl, hb⟩
   refine ⟨_, rfl, ?_⟩
   replace HO291 := am_ (Kd.R_below (kr_ HO291) hb); replace HO295 := am_ (Kd.R_below (kr_ HO295) hb); replace HO304 := am_ (Kd.R_below (kr_ HO304) hb); replace BK285 := am_ (blk_below (bk_ BK285) hb); replace BK286 := am_ (blk_below (bk_ BK286) hb); replace BK287 := am_ (blk_below (bk_ BK287) hb); replace BK296 := am_ (blk_below (bk_ BK296) hb); replace BK297 := am_ (blk_below (bk_ BK297) hb); replace HB := am_ (below_step (bl_ HB) hb); (try clear hb); (try clear hb2); (try clear hk); (try clear hi)
   refine hK.out _ _ ⟨bc_ BK297 0, bc_ BK297 1⟩ (fun hHeld => ?_)
   clear hK K
   refine norm_ (a' := ?_) ?_ ?_
   rotate_left
   ·show Act.put _ (some 32) _ = _
    exact nm_
   refine one_ (i := 3) (N := some 33) #[true, true, true, true, false] rfl rfl (by kernel_rfl) (by decide) (fun K hK => ?_)
   refine goes_ Tryd.func113 (by kernel_rfl) rfl #[.agg #[.int .i64 t292, .slice Ao19 t293.length co19], .int .i64 t305] (by rfl) rfl rfl ma_ ?_
   with_reducible refine (spec_l02Cut.calls k t292 _ _ t293 t305 t306 t307 _ ?side1 ?side2 A67.out).mono ?_
   (case side1 => exact cr_ HO295)
   (case side2 => exact (Kd.R_reads' HO295.out).2.1)
   rintro e w106 ⟨v308, rfl, ho0, hb⟩
   refine ⟨_, rfl, ?_⟩
   have HO309 := am_ (Kd.R_lower (Kd.R_new' (Kd.R_new' (Kd.R_new' ho0 (Kd.R_lt (kr_ HO291))) (Kd.R_lt (kr_ HO295))) (Kd.R_lt (kr_ HO304))) (below_size (bl_ HB))); replace HO291 := am_ (Kd.R_elder' (kr_ HO291) (Kd.R_base ho0) hb); replace HO295 := am_ (Kd.R_elder' (kr_ HO295) (Kd.R_base ho0) hb); replace HO304 := am_ (Kd.R_elder' (kr_ HO304) (Kd.R_base ho0) hb); replace BK285 := am_ (blk_below (bk_ BK285) hb); replace BK286 := am_ (blk_below (bk_ BK286) hb); replace BK287 := am_ (blk_below (bk_ BK287) hb); replace BK296 := am_ (blk_below (bk_ BK296) hb); replace BK297 := am_ (blk_below (bk_ BK297) hb); replace HB := am_ (below_step (bl_ HB) hb); (try clear hb); (try clear hb2); (try clear hk); (try clear hi); (try clear ho0)
   obtain ⟨Ao108, co108, eo108⟩ := Kd.R_slice HO309.out
   (first | subst eo108 | (injection eo108 with f1_ f2_ f3_; have f4_ := f1_.symm; have f5_ := f3_.symm; clear f1_ f2_ f3_; subst f4_; subst f5_))
   refine hK.out _ _ ⟨bc_ BK297 0, bc_ BK297 1⟩ (fun hHeld => ?_)
   clear hK K
   refine norm_ (a' := ?_) ?_ ?_
   rotate_left
   ·show Act.put _ (some 33) _ = _
    exact nm_
   refine last_ (i := 4) (N := none) #[true, true, true, true, true] rfl rfl (by kernel_rfl) (by decide) (fun K hK => ?_)
   have hs107 : w106.cell? ⟨gb297, 0, none⟩ = some (.int .i64 t292) := bc_ BK297 0
   have hfs107 := blk_frozen BK297.out 0; have hns107_0 := NB285_297.out; have hns107_1 := NB286_297.out; have hns107_2 := NB287_297.out; have hns107_3 := NB296_297.out; have hms107_0 := NB297_285.out; have hms107_1 := NB297_286.out; have hms107_2 := NB297_287.out; have hms107_3 := NB297_296.out
   have hs109 : w106.cell? ⟨gb297, 1, none⟩ = some (.slice Ao19 t293.length co19) := bc_ BK297 1
   have hfs109 := blk_frozen BK297.out 1; have hns109_0 := NB285_297.out; have hns109_1 := NB286_297.out; have hns109_2 := NB287_297.out; have hns109_3 := NB296_297.out; have hms109_0 := NB297_285.out; have hms109_1 := NB297_286.out; have hms109_2 := NB297_287.out; have hms109_3 := NB297_296.out
   refine skip_ (w1 := ?_) (by rfl) rfl ?_ ?_
   rotate_left
   ·go_simp
    rfl
   refine hK.out _ _ ?_
   clear hK K
   refine done_ (by kernel_rfl) ?_
   have hcz110_0 : w106.cell? ⟨gb296, 0, none⟩ = some (.int .i64 t301) := bc_ BK296 0
   have hcz110_1 : w106.cell? ⟨gb296, 1, none⟩ = some (.slice Ao101 t302.length co101) := bc_ BK296 1
   have hfz110_0 := blk_frozen BK296.out 0; have hfz110_1 := blk_frozen BK296.out 1
   have hcz111_0 : w106.cell? ⟨gb297, 0, none⟩ = some (.int .i64 t292) := bc_ BK297 0
   have hcz111_1 : w106.cell? ⟨gb297, 1, none⟩ = some (.slice Ao19 t293.length co19) := bc_ BK297 1
   have hfz111_0 := blk_frozen BK297.out 0; have hfz111_1 := blk_frozen BK297.out 1
   try go_wp2_with (first | ((with_reducible refine gate_callee (f := 107) rfl ?_); refine goesL_ (some 36) rfl rfl Tryd.func107 (by kernel_rfl) rfl #[.agg #[.int .i64 t301, .slice Ao101 t302.length co101], .agg #[.int .i64 t306, .slice Ao108 t307.length co108]] rfl ma_ ?_; (with_reducible refine (spec_l02Compare.calls k t301 _ _ t302 t306 _ _ t307 t310 _ ?side1 ?side2 ?side3 ?side4 A68.out).mono ?_); (case side1 => refine (Kd.R_reads' (e := 2) (base := w.heap.size) (ok := fun k_ => ((some k_ ≠ (.slice Ao16 t289.length co16 : Value).ownBlock ∧ some k_ ≠ (.slice Ao19 t293.length co19 : Value).ownBlock) ∧ some k_ ≠ (.slice Ao108 t307.length co108 : Value).ownBlock)) (n := t302.length) (c := co101) ?_).2.2; exact (rg_ HO304 BK297)); (case side2 => exact (Kd.R_reads' HO304.out).2.1); (case side3 => refine (Kd.R_reads' (e := 2) (base := w.heap.size) (ok := fun k_ => (((True ∧ some k_ ≠ (.slice Ao16 t289.length co16 : Value).ownBlock) ∧ some k_ ≠ (.slice Ao19 t293.length co19 : Value).ownBlock) ∧ some k_ ≠ (.slice Ao101 t302.length co101 : Value).ownBlock)) (n := t307.length) (c := co108) ?_).2.2; exact (rg_ HO309 BK297)); (case side4 => exact (Kd.R_reads' HO309.out).2.1); rintro e w112 ⟨rfl, hb⟩; refine ⟨_, rfl, ?_⟩; replace HO291 := am_ (Kd.R_below (rg_ HO291 BK297) hb); replace HO295 := am_ (Kd.R_below (rg_ HO295 BK297) hb); replace HO304 := am_ (Kd.R_below (rg_ HO304 BK297) hb); replace HO309 := am_ (Kd.R_below (rg_ HO309 BK297) hb); replace BK285 := am_ (blk_below (bk_ BK285) hb); replace BK286 := am_ (blk_below (bk_ BK286) hb); replace BK287 := am_ (blk_below (bk_ BK287) hb); replace BK296 := am_ (blk_below (bk_ BK296) hb); replace BK297 := am_ (blk_below (bp2_ BK297) hb); replace HB := am_ (below_step (bl_ HB) hb); (try clear hb); (try clear hb2); (try clear hk); (try clear hi)))
   go_loopg [8] k (fun kq v8 w' => ∃ (x8_1 : Int) (x297000_1 : Int) (x297001_1 : List Int) (x298000_1 : Int) (x298001_1 : List Int) (u297001 : Value) (u298001 : Value), v8 = .int .i64 x8_1 ∧ Aside0 (spec_l02Common.l0 kq ji63 x8_1 x297000_1 x297001_1 x298000_1 x298001_1 = some (r1, r2)) ∧ Aside0 (kq ≤ k) ∧ Aside0 (Kd.R (Kd.int .i64) 2 w' w.heap.size (fun k_ => some k_ ≠ (u298001 : Value).ownBlock) u297001 x297001_1) ∧ Aside0 (Kd.R (Kd.int .i64) 2 w' w.heap.size (fun k_ => some k_ ≠ (u297001 : Value).ownBlock) u298001 x298001_1) ∧ Aside0 (w'.heap[gb285]? = some (.cells #[.int .i64 a0_0, (.slice A0_1 l0_1.length c0_1)] 26 (0, 0))) ∧ Aside0 (w'.heap[gb286]? = some (.cells #[.int .i64 a1_0, (.slice A1_1 l1_1.length c1_1)] 26 (0, 0))) ∧ Aside0 (w'.heap[gb287]? = some (.cells #[.int .i64 0, (.slice none 0 0)] 26 (0, 0))) ∧ Aside0 (w'.heap[gb296]? = some (.cells #[.int .i64 x297000_1, u297001] 26 (0, 0))) ∧ Aside0 (w'.heap[gb297]? = some (.cells #[.int .i64 x298000_1, u298001] 26 (0, 0))) ∧ Aside0 (Below w.heap.size w w'))
   case atStart => exact ⟨(t310), (t301), (t302), (t306), (t307), (.slice Ao101 t302.length co101), (.slice Ao108 t307.length co108), (by first | rfl | (simp; done) | (simp [*]; done)), H', ⟨Nat.le_refl _⟩, ⟨km_ HO304 (fun _ hk => hk.2)⟩, ⟨km_ HO309 (fun _ hk => hk.2)⟩, ⟨bk_ BK285⟩, ⟨bk_ BK286⟩, ⟨bk_ BK287⟩, ⟨bk_ BK296⟩, ⟨bk_ BK297⟩, ⟨bl_ HB⟩⟩
   case round =>
    clear H'; try clear c1; try clear p2; try clear c8; try clear c9; try clear c10; try clear c11; try clear c84; try clear c85; try clear c86; try clear c87; try clear c89; try clear c90; try clear c91; try clear c107; try clear c112; try clear hcz110_0; try clear hcz110_1; try clear hcz111_0; try clear hcz111_1; try clear hcz88_0; try clear hcz88_1; try clear hcz92_0; try clear hcz92_1; try clear hfz110_0; try clear hfz110_1; try clear hfz111_0; try clear hfz111_1; try clear hfz88_0; try clear hfz88_1; try clear hfz92_0; try clear hfz92_1
    obtain ⟨x8_1, x297000_1, x297001_1, x298000_1, x298001_1, u297001, u298001, rfl, HA, HK1, HO_297001, HO_298001, BK285, BK286, BK287, BK296, BK297, HB⟩ := hrel
    cases gk with
    | zero => exact absurd HA.out (by simp [spec_l02Common.l0])
    | succ k1 =>
     have H := HA.out; clear HA
     simp only [spec_l02Common.l0] at H
     by_cases c113 : x8_1 = 0
     ·rw [if_pos c113] at H
      have c113b0 : (x8_1 == 0) = true := beq_iff_eq.mpr c113
      have c113b1 : (x8_1 != 0) = false := bne_eq_false_iff_eq.mpr c113
      clear c113
      replace H := Option.bind_eq_some_iff.mp H
      obtain ⟨⟨t311, t312⟩, A1140, H⟩ := H
      replace H : (some (t311, t312)) = some (r1, r2) := H
      have A114 := Aside0.mk A1140; clear A1140
      simp only [Option.some.injEq, Prod.mk.injEq] at H
      obtain ⟨rfl, rfl⟩ := H
      have hnb115 := NB296_285.out; have hnc115 := NB285_296.out; have hnb116 := NB296_286.out; have hnc116 := NB286_296.out; have hnb117 := NB296_287.out; have hnc117 := NB287_296.out; have hnb118 := NB296_297.out; have hnc118 := NB297_296.out
      have hcz119_0 : wr.cell? ⟨gb296, 0, none⟩ = some (.int .i64 x297000_1) := bc_ BK296 0
      have hcz119_1 : wr.cell? ⟨gb296, 1, none⟩ = some (u297001) := bc_ BK296 1
      have hfz119_0 := blk_frozen BK296.out 0; have hfz119_1 := blk_frozen BK296.out 1
      obtain ⟨Ao120, co120, eo120⟩ := Kd.R_slice HO_297001.out
      subst eo120
      go_wp2_with (first | ((with_reducible refine gate_callee (f := 106) rfl ?_); refine goesL_ (some 60) rfl rfl Tryd.func106 (by kernel_rfl) rfl #[.agg #[.int .i64 x297000_1, .slice Ao120 x297001_1.length co120], .int .i64 ji63] rfl (by (try simp only [List.map_toArray, List.map_cons, List.map_nil]); first | done | (simp only [hji63]; rfl) | rfl | (simp only [List.length_drop, List.length_take]; rfl)) ?_; (with_reducible refine (spec_l02Left.calls k1 x297000_1 _ _ x297001_1 ji63 t311 t312 _ ?side1 ?side2 A114.out).mono ?_); (case side1 => exact cr_ HO_297001); (case side2 => exact (Kd.R_reads' HO_297001.out).2.1); rintro e w121 ⟨v313, rfl, ho0, hb⟩; refine ⟨_, rfl, ?_⟩; have HO314 := am_ (Kd.R_lower (Kd.R_new' (Kd.R_new' ho0 (Kd.R_lt (kr_ HO_297001))) (Kd.R_lt (kr_ HO_298001))) (below_size (bl_ HB))); replace HO_297001 := am_ (Kd.R_elder' (kr_ HO_297001) (Kd.R_base ho0) hb); replace HO_298001 := am_ (Kd.R_elder' (kr_ HO_298001) (Kd.R_base ho0) hb); replace BK285 := am_ (blk_below (bk_ BK285) hb); replace BK286 := am_ (blk_below (bk_ BK286) hb); replace BK287 := am_ (blk_below (bk_ BK287) hb); replace BK296 := am_ (blk_below (bk_ BK296) hb); replace BK297 := am_ (blk_below (bk_ BK297) hb); replace HB := am_ (below_step (bl_ HB) hb); (try clear hb); (try clear hb2); (try clear hk); (try clear hi); (try clear ho0); have hnb122 := NB287_285.out; have hnc122 := NB285_287.out; have hnb123 := NB287_286.out; have hnc123 := NB286_287.out; have hnb124 := NB287_297.out; have hnc124 := NB297_287.out; have hcz125_0 : w121.cell? ⟨gb287, 0, none⟩ = some (.int .i64 0) := bc_ BK287 0; have hcz125_1 : w121.cell? ⟨gb287, 1, none⟩ = some (.slice none 0 0) := bc_ BK287 1; have hfz125_0 := blk_frozen BK287.out 0; have hfz125_1 := blk_frozen BK287.out 1; obtain ⟨Ao126, co126, eo126⟩ := Kd.R_slice HO314.out; subst eo126))
      refine bodyPost_ret (results_cell_row rfl _ _ gb287 26 #[.int .i64 t311, .slice Ao126 t312.length co126] (0, 0) _ rfl (bp2_ BK287) Tryd.underlying26 rfl (by kernel_rfl)) rfl ?_
      exact ⟨_, by first | rfl | (simp [errW_none, errW_some] <;> rfl) | (simp only [← hji63]; first | rfl | (simp [errW_none, errW_some] <;> rfl)) | (simp [*, errW_none, errW_some] <;> rfl), rt_ HO314 BK287, bl_ HB⟩
     ·rw [if_neg c113] at H
      have c113b0 : (x8_1 == 0) = false := beq_eq_false_iff_ne.mpr c113
      have c113b1 : (x8_1 != 0) = true := bne_iff_ne.mpr c113
      by_cases c127 : x8_1 < 0
      ·rw [if_pos c127] at H
       have c127b0 : decide (x8_1 < 0) = true := decide_eq_true c127
       clear c127
       replace H := Option.bind_eq_some_iff.mp H
       obtain ⟨⟨t315, t316⟩, A1280, H⟩ := H
       replace H : ((spec_l02Twos.f k1 t315 t316).bind fun t319 => ((spec_l02Cut.f k1 t315 t316 t319).bind fun bt320 => ((spec_l02Compare.f k1 x297000_1 x297001_1 bt320.1 bt320.2).bind fun t324 => (spec_l02Common.l0 k1 ji63 t324 x297000_1 x297001_1 bt320.1 bt320.2)))) = some (r1, r2) := H
       have A128 := Aside0.mk A1280; clear A1280
       replace H := Option.bind_eq_some_iff.mp H
       obtain ⟨t319, A1290, H⟩ := H
       replace H : ((spec_l02Cut.f k1 t315 t316 t319).bind fun bt320 => ((spec_l02Compare.f k1 x297000_1 x297001_1 bt320.1 bt320.2).bind fun t324 => (spec_l02Common.l0 k1 ji63 t324 x297000_1 x297001_1 bt320.1 bt320.2))) = some (r1, r2) := H
       have A129 := Aside0.mk A1290; clear A1290
       replace H := Option.bind_eq_some_iff.mp H
       obtain ⟨⟨t320, t321⟩, A1300, H⟩ := H
       replace H : ((spec_l02Compare.f k1 x297000_1 x297001_1 t320 t321).bind fun t324 => (spec_l02Common.l0 k1 ji63 t324 x297000_1 x297001_1 t320 t321)) = some (r1, r2) := H
       have A130 := Aside0.mk A1300; clear A1300
       replace H := Option.bind_eq_some_iff.mp H
       obtain ⟨t324, A1310, H⟩ := H
       replace H : (spec_l02Common.l0 k1 ji63 t324 x297000_1 x297001_1 t320 t321) = some (r1, r2) := H
       have A131 := Aside0.mk A1310; clear A1310
       have H' := Aside0.mk H
       clear H; have hnb132 := NB297_285.out; have hnc132 := NB285_297.out; have hnb133 := NB297_286.out; have hnc133 := NB286_297.out; have hnb134 := NB297_287.out; have hnc134 := NB287_297.out; have hnb135 := NB297_296.out; have hnc135 := NB296_297.out
       have hcz136_0 : wr.cell? ⟨gb297, 0, none⟩ = some (.int .i64 x298000_1) := bc_ BK297 0
       have hcz136_1 : wr.cell? ⟨gb297, 1, none⟩ = some (u298001) := bc_ BK297 1
       have hfz136_0 := blk_frozen BK297.out 0; have hfz136_1 := blk_frozen BK297.out 1; have hnb137 := NB296_285.out; have hnc137 := NB285_296.out; have hnb138 := NB296_286.out; have hnc138 := NB286_296.out; have hnb139 := NB296_287.out; have hnc139 := NB287_296.out
       have hcz140_0 : wr.cell? ⟨gb296, 0, none⟩ = some (.int .i64 x297000_1) := bc_ BK296 0
       have hcz140_1 : wr.cell? ⟨gb296, 1, none⟩ = some (u297001) := bc_ BK296 1
       have hfz140_0 := blk_frozen BK296.out 0; have hfz140_1 := blk_frozen BK296.out 1
       obtain ⟨Ao141, co141, eo141⟩ := Kd.R_slice HO_298001.out
       subst eo141
       obtain ⟨Ao142, co142, eo142⟩ := Kd.R_slice HO_297001.out
       subst eo142
       try go_wp2_with (first | ((with_reducible refine gate_callee (f := 114) rfl ?_); refine goesL_ (some 46) rfl rfl Tryd.func114 (by kernel_rfl) rfl #[.agg #[.int .i64 x298000_1, .slice Ao141 x298001_1.length co141], .agg #[.int .i64 x297000_1, .slice Ao142 x297001_1.length co142]] rfl ma_ ?_; (with_reducible refine (spec_l02Sub.calls k1 x298000_1 _ _ x298001_1 x297000_1 _ _ x297001_1 t315 t316 _ ?side1 ?side2 ?side3 ?side4 A128.out).mono ?_); (case side1 => exact cr_ HO_298001); (case side2 => exact (Kd.R_reads' HO_298001.out).2.1); (case side3 => exact cr_ HO_297001); (case side4 => exact (Kd.R_reads' HO_297001.out).2.1); rintro e w143 ⟨v317, rfl, ho0, hb⟩; refine ⟨_, rfl, ?_⟩; have HO318 := am_ (Kd.R_lower (Kd.R_new' (Kd.R_new' ho0 (Kd.R_lt (kr_ HO_297001))) (Kd.R_lt (kr_ HO_298001))) (below_size (bl_ HB))); replace HO_297001 := am_ (Kd.R_elder' (kr_ HO_297001) (Kd.R_base ho0) hb); replace HO_298001 := am_ (Kd.R_elder' (kr_ HO_298001) (Kd.R_base ho0) hb); replace BK285 := am_ (blk_below (bk_ BK285) hb); replace BK286 := am_ (blk_below (bk_ BK286) hb); replace BK287 := am_ (blk_below (bk_ BK287) hb); replace BK296 := am_ (blk_below (bk_ BK296) hb); replace BK297 := am_ (blk_below (bk_ BK297) hb); replace HB := am_ (below_step (bl_ HB) hb); (try clear hb); (try clear hb2); (try clear hk); (try clear hi); (try clear ho0); have hcz144_0 : w143.cell? ⟨gb297, 0, none⟩ = some (.int .i64 x298000_1) := bc_ BK297 0; have hcz144_1 : w143.cell? ⟨gb297, 1, none⟩ = some (.slice Ao141 x298001_1.length co141) := bc_ BK297 1; have hfz144_0 := blk_frozen BK297.out 0; have hfz144_1 := blk_frozen BK297.out 1; obtain ⟨Ao145, co145, eo145⟩ := Kd.R_slice HO318.out; subst eo145))
       have n0_ : Aside0 (Kd.R (Kd.int .i64) 2 ((w143.setCell ⟨gb297, 0, none⟩ (.int .i64 t315)).setCell ⟨gb297, 1, none⟩ (.slice Ao145 t316.length co145)) w.heap.size (fun k_ => some k_ ≠ (.slice Ao141 x298001_1.length co141 : Value).ownBlock ∧ some k_ ≠ (.slice Ao145 t316.length co145 : Value).ownBlock) (.slice Ao142 x297001_1.length co142) x297001_1) := ⟨by (with_reducible repeat (first | apply Kd.R_alloc | apply Kd.R_drewN | apply Kd.R_drew)); exact Kd.R_mono (Kd.R_far (p := ⟨gb297, 1, none⟩) (Kd.R_far (p := ⟨gb297, 0, none⟩) (Kd.R_types HO_297001.out BK297.out (by decide)) (fun _ hk => hk.2) (.int .i64 t315)) (fun _ hk => hk.2) (.slice Ao145 t316.length co145)) (fun _ hk => ⟨hk.1.1, hk.1.2⟩)⟩
       have n1_ : Aside0 (Kd.R (Kd.int .i64) 2 ((w143.setCell ⟨gb297, 0, none⟩ (.int .i64 t315)).setCell ⟨gb297, 1, none⟩ (.slice Ao145 t316.length co145)) w.heap.size (fun k_ => some k_ ≠ (.slice Ao142 x297001_1.length co142 : Value).ownBlock ∧ some k_ ≠ (.slice Ao145 t316.length co145 : Value).ownBlock) (.slice Ao141 x298001_1.length co141) x298001_1) := ⟨by (with_reducible repeat (first | apply Kd.R_alloc | apply Kd.R_drewN | apply Kd.R_drew)); exact Kd.R_mono (Kd.R_far (p := ⟨gb297, 1, none⟩) (Kd.R_far (p := ⟨gb297, 0, none⟩) (Kd.R_types HO_298001.out BK297.out (by decide)) (fun _ hk => hk.2) (.int .i64 t315)) (fun _ hk => hk.2) (.slice Ao145 t316.length co145)) (fun _ hk => ⟨hk.1.1, hk.1.2⟩)⟩
       have n2_ : Aside0 (Kd.R (Kd.int .i64) 2 ((w143.setCell ⟨gb297, 0, none⟩ (.int .i64 t315)).setCell ⟨gb297, 1, none⟩ (.slice Ao145 t316.length co145)) w.heap.size (fun k_ => some k_ ≠ (.slice Ao142 x297001_1.length co142 : Value).ownBlock ∧ some k_ ≠ (.slice Ao141 x298001_1.length co141 : Value).ownBlock) (.slice Ao145 t316.length co145) t316) := ⟨by (with_reducible repeat (first | apply Kd.R_alloc | apply Kd.R_drewN | apply Kd.R_drew)); exact Kd.R_mono (Kd.R_far (p := ⟨gb297, 1, none⟩) (Kd.R_far (p := ⟨gb297, 0, none⟩) (Kd.R_types HO318.out BK297.out (by decide)) (fun _ hk => hk.2) (.int .i64 t315)) (fun _ hk => hk.2) (.slice Ao145 t316.length co145)) (fun _ hk => ⟨hk.1.1.2, hk.1.2⟩)⟩
       have n3_ : Aside0 (((w143.setCell ⟨gb297, 0, none⟩ (.int .i64 t315)).setCell ⟨gb297, 1, none⟩ (.slice Ao145 t316.length co145)).heap[gb285]? = some (.cells #[.int .i64 a0_0, .slice A0_1 l0_1.length c0_1] 26 (0, 0))) := ⟨bk_ BK285⟩
       have n4_ : Aside0 (((w143.setCell ⟨gb297, 0, none⟩ (.int .i64 t315)).setCell ⟨gb297, 1, none⟩ (.slice Ao145 t316.length co145)).heap[gb286]? = some (.cells #[.int .i64 a1_0, .slice A1_1 l1_1.length c1_1] 26 (0, 0))) := ⟨bk_ BK286⟩
       have n5_ : Aside0 (((w143.setCell ⟨gb297, 0, none⟩ (.int .i64 t315)).setCell ⟨gb297, 1, none⟩ (.slice Ao145 t316.length co145)).heap[gb287]? = some (.cells #[.int .i64 0, .slice none 0 0] 26 (0, 0))) := ⟨bk_ BK287⟩
       have n6_ : Aside0 (((w143.setCell ⟨gb297, 0, none⟩ (.int .i64 t315)).setCell ⟨gb297, 1, none⟩ (.slice Ao145 t316.length co145)).heap[gb296]? = some (.cells #[.int .i64 x297000_1, .slice Ao142 x297001_1.length co142] 26 (0, 0))) := ⟨bk_ BK296⟩
       have n7_ : Aside0 (((w143.setCell ⟨gb297, 0, none⟩ (.int .i64 t315)).setCell ⟨gb297, 1, none⟩ (.slice Ao145 t316.length co145)).heap[gb297]? = some (.cells #[.int .i64 t315, .slice Ao145 t316.length co145] 26 (0, 0))) := ⟨bp2_ BK297⟩
       have n8_ : Aside0 (Below w.heap.size w ((w143.setCell ⟨gb297, 0, none⟩ (.int .i64 t315)).setCell ⟨gb297, 1, none⟩ (.slice Ao145 t316.length co145))) := ⟨bl_ HB⟩
       (try clear HO_297001); (try clear HO_298001); (try clear HO318); (try clear BK285); (try clear BK286); (try clear BK287); (try clear BK296); (try clear BK297); (try clear HB)
       generalize ((w143.setCell ⟨gb297, 0, none⟩ (.int .i64 t315)).setCell ⟨gb297, 1, none⟩ (.slice Ao145 t316.length co145)) = w146 at n0_ n1_ n2_ n3_ n4_ n5_ n6_ n7_ n8_ ⊢
       have HO_297001 := n0_; have HO_298001 := n1_; have HO318 := n2_; have BK285 := n3_; have BK286 := n4_; have BK287 := n5_; have BK296 := n6_; have BK297 := n7_; have HB := n8_; clear n0_ n1_ n2_ n3_ n4_ n5_ n6_ n7_ n8_; replace HO_297001 := am_ (Kd.R_drew HO_297001.out); replace HO_298001 := am_ (Kd.R_drew HO_298001.out); replace HO318 := am_ (Kd.R_drew HO318.out); replace BK285 := am_ (blk_drew BK285.out); replace BK286 := am_ (blk_drew BK286.out); replace BK287 := am_ (blk_drew BK287.out); replace BK296 := am_ (blk_drew BK296.out); replace BK297 := am_ (blk_drew BK297.out); replace HB := am_ (below_drew1 HB.out)
       refine start_ (n := 5) (S := fun w' => w'.cell? ⟨gb297, 0, none⟩ = some (.int .i64 t315) ∧ w'.cell? ⟨gb297, 1, none⟩ = some (.slice Ao145 t316.length co145)) (ds := [4]) #[false, false, false, false, false] (by kernel_rfl) rfl rfl ⟨bc_ BK297 0, bc_ BK297 1⟩ (fun hHeld => ?_)
       generalize w146.drew = w147 at HO_297001 HO_298001 HO318 BK285 BK286 BK287 BK296 BK297 HB hHeld ⊢
       refine take_ (i := 0) (N := some 47) (v := ?_) (a' := ?_) #[true, false, false, false, false] rfl rfl (by kernel_rfl) (fun _ _ _ h => h) (Or.inl ⟨by rfl, ?_⟩) hHeld ?_ ?_
       rotate_left
       ·rintro w' ⟨s0, s1⟩
        go_simp
        with_reducible rfl
       rotate_left
       ·exact nm_
       refine take_ (i := 1) (N := some 48) (v := ?_) (a' := ?_) #[true, true, false, false, false] rfl rfl (by kernel_rfl) (fun _ _ _ h => h) (Or.inl ⟨by rfl, ?_⟩) hHeld ?_ ?_
       rotate_left
       ·rintro w' ⟨s0, s1⟩
        go_simp
        with_reducible rfl
       rotate_left
       ·exact nm_
       refine one_ (i := 2) (N := some 49) #[true, true, true, false, false] rfl rfl (by kernel_rfl) (by decide) (fun K hK => ?_)
       refine goes_ Tryd.func112 (by kernel_rfl) rfl #[.agg #[.int .i64 t315, .slice Ao145 t316.length co145]] (by rfl) rfl rfl ma_ ?_
       with_reducible refine (spec_l02Twos.calls k1 t315 _ _ t316 t319 _ ?side1 ?side2 A129.out).mono ?_
       (case side1 => exact cr_ HO318)
       (case side2 => exact (Kd.R_reads' HO318.out).2.1)
       rintro e w148 ⟨rfl, hb⟩
       refine ⟨_, rfl, ?_⟩
       replace HO_297001 := am_ (Kd.R_below (kr_ HO_297001) hb); replace HO_298001 := am_ (Kd.R_below (kr_ HO_298001) hb); replace HO318 := am_ (Kd.R_below (kr_ HO318) hb); replace BK285 := am_ (blk_below (bk_ BK285) hb); replace BK286 := am_ (blk_below (bk_ BK286) hb); replace BK287 := am_ (blk_below (bk_ BK287) hb); replace BK296 := am_ (blk_below (bk_ BK296) hb); replace BK297 := am_ (blk_below (bk_ BK297) hb); replace HB := am_ (below_step (bl_ HB) hb); (try clear hb); (try clear hb2); (try clear hk); (try clear hi)
       refine hK.out _ _ ⟨bc_ BK297 0, bc_ BK297 1⟩ (fun hHeld => ?_)
       clear hK K
       refine norm_ (a' := ?_) ?_ ?_
       rotate_left
       ·show Act.put _ (some 49) _ = _
        exact nm_
       refine one_ (i := 3) (N := some 50) #[true, true, true, true, false] rfl rfl (by kernel_rfl) (by decide) (fun K hK => ?_)
       refine goes_ Tryd.func113 (by kernel_rfl) rfl #[.agg #[.int .i64 t315, .slice Ao145 t316.length co145], .int .i64 t319] (by rfl) rfl rfl ma_ ?_
       with_reducible refine (spec_l02Cut.calls k1 t315 _ _ t316 t319 t320 t321 _ ?side1 ?side2 A130.out).mono ?_
       (case side1 => exact cr_ HO318)
       (case side2 => exact (Kd.R_reads' HO318.out).2.1)
       rintro e w149 ⟨v322, rfl, ho0, hb⟩
       refine ⟨_, rfl, ?_⟩
       have HO323 := am_ (Kd.R_lower (Kd.R_new' (Kd.R_new' (Kd.R_new' ho0 (Kd.R_lt (kr_ HO_297001))) (Kd.R_lt (kr_ HO_298001))) (Kd.R_lt (kr_ HO318))) (below_size (bl_ HB))); replace HO_297001 := am_ (Kd.R_elder' (kr_ HO_297001) (Kd.R_base ho0) hb); replace HO_298001 := am_ (Kd.R_elder' (kr_ HO_298001) (Kd.R_base ho0) hb); replace HO318 := am_ (Kd.R_elder' (kr_ HO318) (Kd.R_base ho0) hb); replace BK285 := am_ (blk_below (bk_ BK285) hb); replace BK286 := am_ (blk_below (bk_ BK286) hb); replace BK287 := am_ (blk_below (bk_ BK287) hb); replace BK296 := am_ (blk_below (bk_ BK296) hb); replace BK297 := am_ (blk_below (bk_ BK297) hb); replace HB := am_ (below_step (bl_ HB) hb); (try clear hb); (try clear hb2); (try clear hk); (try clear hi); (try clear ho0)
       obtain ⟨Ao151, co151, eo151⟩ := Kd.R_slice HO323.out
       (first | subst eo151 | (injection eo151 with f1_ f2_ f3_; have f4_ := f1_.symm; have f5_ := f3_.symm; clear f1_ f2_ f3_; subst f4_; subst f5_))
       refine hK.out _ _ ⟨bc_ BK297 0, bc_ BK297 1⟩ (fun hHeld => ?_)
       clear hK K
       refine norm_ (a' := ?_) ?_ ?_
       rotate_left
       ·show Act.put _ (some 50) _ = _
        exact nm_
       refine last_ (i := 4) (N := none) #[true, true, true, true, true] rfl rfl (by kernel_rfl) (by decide) (fun K hK => ?_)
       have hs150 : w149.cell? ⟨gb297, 0, none⟩ = some (.int .i64 t315) := bc_ BK297 0
       have hfs150 := blk_frozen BK297.out 0; have hns150_0 := NB285_297.out; have hns150_1 := NB286_297.out; have hns150_2 := NB287_297.out; have hns150_3 := NB296_297.out; have hms150_0 := NB297_285.out; have hms150_1 := NB297_286.out; have hms150_2 := NB297_287.out; have hms150_3 := NB297_296.out
       have hs152 : w149.cell? ⟨gb297, 1, none⟩ = some (.slice Ao145 t316.length co145) := bc_ BK297 1
       have hfs152 := blk_frozen BK297.out 1; have hns152_0 := NB285_297.out; have hns152_1 := NB286_297.out; have hns152_2 := NB287_297.out; have hns152_3 := NB296_297.out; have hms152_0 := NB297_285.out; have hms152_1 := NB297_286.out; have hms152_2 := NB297_287.out; have hms152_3 := NB297_296.out
       refine skip_ (w1 := ?_) (by rfl) rfl ?_ ?_
       rotate_left
       ·go_simp
        rfl
       refine hK.out _ _ ?_
       clear hK K
       refine done_ (by kernel_rfl) ?_
       have hcz153_0 : w149.cell? ⟨gb296, 0, none⟩ = some (.int .i64 x297000_1) := bc_ BK296 0
       have hcz153_1 : w149.cell? ⟨gb296, 1, none⟩ = some (.slice Ao142 x297001_1.length co142) := bc_ BK296 1
       have hfz153_0 := blk_frozen BK296.out 0; have hfz153_1 := blk_frozen BK296.out 1
       have hcz154_0 : w149.cell? ⟨gb297, 0, none⟩ = some (.int .i64 t315) := bc_ BK297 0
       have hcz154_1 : w149.cell? ⟨gb297, 1, none⟩ = some (.slice Ao145 t316.length co145) := bc_ BK297 1
       have hfz154_0 := blk_frozen BK297.out 0; have hfz154_1 := blk_frozen BK297.out 1
       try go_wp2_with (first | ((with_reducible refine gate_callee (f := 107) rfl ?_); refine goesL_ (some 41) rfl rfl Tryd.func107 (by kernel_rfl) rfl #[.agg #[.int .i64 x297000_1, .slice Ao142 x297001_1.length co142], .agg #[.int .i64 t320, .slice Ao151 t321.length co151]] rfl ma_ ?_; (with_reducible refine (spec_l02Compare.calls k1 x297000_1 _ _ x297001_1 t320 _ _ t321 t324 _ ?side1 ?side2 ?side3 ?side4 A131.out).mono ?_); (case side1 => refine (Kd.R_reads' (e := 2) (base := w.heap.size) (ok := fun k_ => ((some k_ ≠ (.slice Ao141 x298001_1.length co141 : Value).ownBlock ∧ some k_ ≠ (.slice Ao145 t316.length co145 : Value).ownBlock) ∧ some k_ ≠ (.slice Ao151 t321.length co151 : Value).ownBlock)) (n := x297001_1.length) (c := co142) ?_).2.2; exact (rg_ HO_297001 BK297)); (case side2 => exact (Kd.R_reads' HO_297001.out).2.1); (case side3 => refine (Kd.R_reads' (e := 2) (base := w.heap.size) (ok := fun k_ => (((True ∧ some k_ ≠ (.slice Ao142 x297001_1.length co142 : Value).ownBlock) ∧ some k_ ≠ (.slice Ao141 x298001_1.length co141 : Value).ownBlock) ∧ some k_ ≠ (.slice Ao145 t316.length co145 : Value).ownBlock)) (n := t321.length) (c := co151) ?_).2.2; exact (rg_ HO323 BK297)); (case side4 => exact (Kd.R_reads' HO323.out).2.1); rintro e w155 ⟨rfl, hb⟩; refine ⟨_, rfl, ?_⟩; replace HO_297001 := am_ (Kd.R_below (rg_ HO_297001 BK297) hb); replace HO_298001 := am_ (Kd.R_below (rg_ HO_298001 BK297) hb); replace HO318 := am_ (Kd.R_below (rg_ HO318 BK297) hb); replace HO323 := am_ (Kd.R_below (rg_ HO323 BK297) hb); replace BK285 := am_ (blk_below (bk_ BK285) hb); replace BK286 := am_ (blk_below (bk_ BK286) hb); replace BK287 := am_ (blk_below (bk_ BK287) hb); replace BK296 := am_ (blk_below (bk_ BK296) hb); replace BK297 := am_ (blk_below (bp2_ BK297) hb); replace HB := am_ (below_step (bl_ HB) hb); (try clear hb); (try clear hb2); (try clear hk); (try clear hi)))
       go_roundg k1
       case measure => have := HK1.out; omega
       case rel => exact ⟨(t324), (x297000_1), (x297001_1), (t320), (t321), (.slice Ao142 x297001_1.length co142), (.slice Ao151 t321.length co151), (by first | rfl | (simp; done) | (simp [*]; done)), H', ⟨by have := HK1.out; omega⟩, ⟨km_ HO_297001 (fun _ hk => hk.2)⟩, ⟨km_ HO323 (fun _ hk => hk.1.1.2)⟩, ⟨bk_ BK285⟩, ⟨bk_ BK286⟩, ⟨bk_ BK287⟩, ⟨bk_ BK296⟩, ⟨bk_ BK297⟩, ⟨bl_ HB⟩⟩
      ·rw [if_neg c127] at H
       have c127b0 : decide (x8_1 < 0) = false := decide_eq_false c127
       clear c127
       replace H := Option.bind_eq_some_iff.mp H
       obtain ⟨⟨t325, t326⟩, A1560, H⟩ := H
       replace H : ((spec_l02Twos.f k1 t325 t326).bind fun t329 => ((spec_l02Cut.f k1 t325 t326 t329).bind fun bt330 => ((spec_l02Compare.f k1 bt330.1 bt330.2 x298000_1 x298001_1).bind fun t334 => (spec_l02Common.l0 k1 ji63 t334 bt330.1 bt330.2 x298000_1 x298001_1)))) = some (r1, r2) := H
       have A156 := Aside0.mk A1560; clear A1560
       replace H := Option.bind_eq_some_iff.mp H
       obtain ⟨t329, A1570, H⟩ := H
       replace H : ((spec_l02Cut.f k1 t325 t326 t329).bind fun bt330 => ((spec_l02Compare.f k1 bt330.1 bt330.2 x298000_1 x298001_1).bind fun t334 => (spec_l02Common.l0 k1 ji63 t334 bt330.1 bt330.2 x298000_1 x298001_1))) = some (r1, r2) := H
       have A157 := Aside0.mk A1570; clear A1570
       replace H := Option.bind_eq_some_iff.mp H
       obtain ⟨⟨t330, t331⟩, A1580, H⟩ := H
       replace H : ((spec_l02Compare.f k1 t330 t331 x298000_1 x298001_1).bind fun t334 => (spec_l02Common.l0 k1 ji63 t334 t330 t331 x298000_1 x298001_1)) = some (r1, r2) := H
       have A158 := Aside0.mk A1580; clear A1580
       replace H := Option.bind_eq_some_iff.mp H
       obtain ⟨t334, A1590, H⟩ := H
       replace H : (spec_l02Common.l0 k1 ji63 t334 t330 t331 x298000_1 x298001_1) = some (r1, r2) := H
       have A159 := Aside0.mk A1590; clear A1590
       have H' := Aside0.mk H
       clear H; have hnb160 := NB296_285.out; have hnc160 := NB285_296.out; have hnb161 := NB296_286.out; have hnc161 := NB286_296.out; have hnb162 := NB296_287.out; have hnc162 := NB287_296.out; have hnb163 := NB296_297.out; have hnc163 := NB297_296.out
       have hcz164_0 : wr.cell? ⟨gb296, 0, none⟩ = some (.int .i64 x297000_1) := bc_ BK296 0
       have hcz164_1 : wr.cell? ⟨gb296, 1, none⟩ = some (u297001) := bc_ BK296 1
       have hfz164_0 := blk_frozen BK296.out 0; have hfz164_1 := blk_frozen BK296.out 1; have hnb165 := NB297_285.out; have hnc165 := NB285_297.out; have hnb166 := NB297_286.out; have hnc166 := NB286_297.out; have hnb167 := NB297_287.out; have hnc167 := NB287_297.out
       have hcz168_0 : wr.cell? ⟨gb297, 0, none⟩ = some (.int .i64 x298000_1) := bc_ BK297 0
       have hcz168_1 : wr.cell? ⟨gb297, 1, none⟩ = some (u298001) := bc_ BK297 1
       have hfz168_0 := blk_frozen BK297.out 0; have hfz168_1 := blk_frozen BK297.out 1
       obtain ⟨Ao169, co169, eo169⟩ := Kd.R_slice HO_297001.out
       subst eo169
       obtain ⟨Ao170, co170, eo170⟩ := Kd.R_slice HO_298001.out
       subst eo170
       try go_wp2_with (first | ((with_reducible refine gate_callee (f := 114) rfl ?_); refine goesL_ (some 53) rfl rfl Tryd.func114 (by kernel_rfl) rfl #[.agg #[.int .i64 x297000_1, .slice Ao169 x297001_1.length co169], .agg #[.int .i64 x298000_1, .slice Ao170 x298001_1.length co170]] rfl ma_ ?_; (with_reducible refine (spec_l02Sub.calls k1 x297000_1 _ _ x297001_1 x298000_1 _ _ x298001_1 t325 t326 _ ?side1 ?side2 ?side3 ?side4 A156.out).mono ?_); (case side1 => exact cr_ HO_297001); (case side2 => exact (Kd.R_reads' HO_297001.out).2.1); (case side3 => exact cr_ HO_298001); (case side4 => exact (Kd.R_reads' HO_298001.out).2.1); rintro e w171 ⟨v327, rfl, ho0, hb⟩; refine ⟨_, rfl, ?_⟩; have HO328 := am_ (Kd.R_lower (Kd.R_new' (Kd.R_new' ho0 (Kd.R_lt (kr_ HO_297001))) (Kd.R_lt (kr_ HO_298001))) (below_size (bl_ HB))); replace HO_297001 := am_ (Kd.R_elder' (kr_ HO_297001) (Kd.R_base ho0) hb); replace HO_298001 := am_ (Kd.R_elder' (kr_ HO_298001) (Kd.R_base ho0) hb); replace BK285 := am_ (blk_below (bk_ BK285) hb); replace BK286 := am_ (blk_below (bk_ BK286) hb); replace BK287 := am_ (blk_below (bk_ BK287) hb); replace BK296 := am_ (blk_below (bk_ BK296) hb); replace BK297 := am_ (blk_below (bk_ BK297) hb); replace HB := am_ (below_step (bl_ HB) hb); (try clear hb); (try clear hb2); (try clear hk); (try clear hi); (try clear ho0); have hcz172_0 : w171.cell? ⟨gb296, 0, none⟩ = some (.int .i64 x297000_1) := bc_ BK296 0; have hcz172_1 : w171.cell? ⟨gb296, 1, none⟩ = some (.slice Ao169 x297001_1.length co169) := bc_ BK296 1; have hfz172_0 := blk_frozen BK296.out 0; have hfz172_1 := blk_frozen BK296.out 1; obtain ⟨Ao173, co173, eo173⟩ := Kd.R_slice HO328.out; subst eo173))
       have n0_ : Aside0 (Kd.R (Kd.int .i64) 2 ((w171.setCell ⟨gb296, 0, none⟩ (.int .i64 t325)).setCell ⟨gb296, 1, none⟩ (.slice Ao173 t326.length co173)) w.heap.size (fun k_ => some k_ ≠ (.slice Ao170 x298001_1.length co170 : Value).ownBlock ∧ some k_ ≠ (.slice Ao173 t326.length co173 : Value).ownBlock) (.slice Ao169 x297001_1.length co169) x297001_1) := ⟨by (with_reducible repeat (first | apply Kd.R_alloc | apply Kd.R_drewN | apply Kd.R_drew)); exact Kd.R_mono (Kd.R_far (p := ⟨gb296, 1, none⟩) (Kd.R_far (p := ⟨gb296, 0, none⟩) (Kd.R_types HO_297001.out BK296.out (by decide)) (fun _ hk => hk.2) (.int .i64 t325)) (fun _ hk => hk.2) (.slice Ao173 t326.length co173)) (fun _ hk => ⟨hk.1.1, hk.1.2⟩)⟩
       have n1_ : Aside0 (Kd.R (Kd.int .i64) 2 ((w171.setCell ⟨gb296, 0, none⟩ (.int .i64 t325)).setCell ⟨gb296, 1, none⟩ (.slice Ao173 t326.length co173)) w.heap.size (fun k_ => some k_ ≠ (.slice Ao169 x297001_1.length co169 : Value).ownBlock ∧ some k_ ≠ (.slice Ao173 t326.length co173 : Value).ownBlock) (.slice Ao170 x298001_1.length co170) x298001_1) := ⟨by (with_reducible repeat (first | apply Kd.R_alloc | apply Kd.R_drewN | apply Kd.R_drew)); exact Kd.R_mono (Kd.R_far (p := ⟨gb296, 1, none⟩) (Kd.R_far (p := ⟨gb296, 0, none⟩) (Kd.R_types HO_298001.out BK296.out (by decide)) (fun _ hk => hk.2) (.int .i64 t325)) (fun _ hk => hk.2) (.slice Ao173 t326.length co173)) (fun _ hk => ⟨hk.1.1, hk.1.2⟩)⟩
       have n2_ : Aside0 (Kd.R (Kd.int .i64) 2 ((w171.setCell ⟨gb296, 0, none⟩ (.int .i64 t325)).setCell ⟨gb296, 1, none⟩ (.slice Ao173 t326.length co173)) w.heap.size (fun k_ => some k_ ≠ (.slice Ao169 x297001_1.length co169 : Value).ownBlock ∧ some k_ ≠ (.slice Ao170 x298001_1.length co170 : Value).ownBlock) (.slice Ao173 t326.length co173) t326) := ⟨by (with_reducible repeat (first | apply Kd.R_alloc | apply Kd.R_drewN | apply Kd.R_drew)); exact Kd.R_mono (Kd.R_far (p := ⟨gb296, 1, none⟩) (Kd.R_far (p := ⟨gb296, 0, none⟩) (Kd.R_types HO328.out BK296.out (by decide)) (fun _ hk => hk.2) (.int .i64 t325)) (fun _ hk => hk.2) (.slice Ao173 t326.length co173)) (fun _ hk => ⟨hk.1.1.2, hk.1.2⟩)⟩
       have n3_ : Aside0 (((w171.setCell ⟨gb296, 0, none⟩ (.int .i64 t325)).setCell ⟨gb296, 1, none⟩ (.slice Ao173 t326.length co173)).heap[gb285]? = some (.cells #[.int .i64 a0_0, .slice A0_1 l0_1.length c0_1] 26 (0, 0))) := ⟨bk_ BK285⟩
       have n4_ : Aside0 (((w171.setCell ⟨gb296, 0, none⟩ (.int .i64 t325)).setCell ⟨gb296, 1, none⟩ (.slice Ao173 t326.length co173)).heap[gb286]? = some (.cells #[.int .i64 a1_0, .slice A1_1 l1_1.length c1_1] 26 (0, 0))) := ⟨bk_ BK286⟩
       have n5_ : Aside0 (((w171.setCell ⟨gb296, 0, none⟩ (.int .i64 t325)).setCell ⟨gb296, 1, none⟩ (.slice Ao173 t326.length co173)).heap[gb287]? = some (.cells #[.int .i64 0, .slice none 0 0] 26 (0, 0))) := ⟨bk_ BK287⟩
       have n6_ : Aside0 (((w171.setCell ⟨gb296, 0, none⟩ (.int .i64 t325)).setCell ⟨gb296, 1, none⟩ (.slice Ao173 t326.length co173)).heap[gb296]? = some (.cells #[.int .i64 t325, .slice Ao173 t326.length co173] 26 (0, 0))) := ⟨bp2_ BK296⟩
       have n7_ : Aside0 (((w171.setCell ⟨gb296, 0, none⟩ (.int .i64 t325)).setCell ⟨gb296, 1, none⟩ (.slice Ao173 t326.length co173)).heap[gb297]? = some (.cells #[.int .i64 x298000_1, .slice Ao170 x298001_1.length co170] 26 (0, 0))) := ⟨bk_ BK297⟩
       have n8_ : Aside0 (Below w.heap.size w ((w171.setCell ⟨gb296, 0, none⟩ (.int .i64 t325)).setCell ⟨gb296, 1, none⟩ (.slice Ao173 t326.length co173))) := ⟨bl_ HB⟩
       (try clear HO_297001); (try clear HO_298001); (try clear HO328); (try clear BK285); (try clear BK286); (try clear BK287); (try clear BK296); (try clear BK297); (try clear HB)
       generalize ((w171.setCell ⟨gb296, 0, none⟩ (.int .i64 t325)).setCell ⟨gb296, 1, none⟩ (.slice Ao173 t326.length co173)) = w174 at n0_ n1_ n2_ n3_ n4_ n5_ n6_ n7_ n8_ ⊢
       have HO_297001 := n0_; have HO_298001 := n1_; have HO328 := n2_; have BK285 := n3_; have BK286 := n4_; have BK287 := n5_; have BK296 := n6_; have BK297 := n7_; have HB := n8_; clear n0_ n1_ n2_ n3_ n4_ n5_ n6_ n7_ n8_; replace HO_297001 := am_ (Kd.R_drew HO_297001.out); replace HO_298001 := am_ (Kd.R_drew HO_298001.out); replace HO328 := am_ (Kd.R_drew HO328.out); replace BK285 := am_ (blk_drew BK285.out); replace BK286 := am_ (blk_drew BK286.out); replace BK287 := am_ (blk_drew BK287.out); replace BK296 := am_ (blk_drew BK296.out); replace BK297 := am_ (blk_drew BK297.out); replace HB := am_ (below_drew1 HB.out)
       refine start_ (n := 5) (S := fun w' => w'.cell? ⟨gb296, 0, none⟩ = some (.int .i64 t325) ∧ w'.cell? ⟨gb296, 1, none⟩ = some (.slice Ao173 t326.length co173)) (ds := [4]) #[false, false, false, false, false] (by kernel_rfl) rfl rfl ⟨bc_ BK296 0, bc_ BK296 1⟩ (fun hHeld => ?_)
       generalize w174.drew = w175 at HO_297001 HO_298001 HO328 BK285 BK286 BK287 BK296 BK297 HB hHeld ⊢
       refine take_ (i := 0) (N := some 54) (v := ?_) (a' := ?_) #[true, false, false, false, false] rfl rfl (by kernel_rfl) (fun _ _ _ h => h) (Or.inl ⟨by rfl, ?_⟩) hHeld ?_ ?_
       rotate_left
       ·rintro w' ⟨s0, s1⟩
        go_simp
        with_reducible rfl
       rotate_left
       ·exact nm_
       refine take_ (i := 1) (N := some 55) (v := ?_) (a' := ?_) #[true, true, false, false, false] rfl rfl (by kernel_rfl) (fun _ _ _ h => h) (Or.inl ⟨by rfl, ?_⟩) hHeld ?_ ?_
       rotate_left
       ·rintro w' ⟨s0, s1⟩
        go_simp
        with_reducible rfl
       rotate_left
       ·exact nm_
       refine one_ (i := 2) (N := some 56) #[true, true, true, false, false] rfl rfl (by kernel_rfl) (by decide) (fun K hK => ?_)
       refine goes_ Tryd.func112 (by kernel_rfl) rfl #[.agg #[.int .i64 t325, .slice Ao173 t326.length co173]] (by rfl) rfl rfl ma_ ?_
       with_reducible refine (spec_l02Twos.calls k1 t325 _ _ t326 t329 _ ?side1 ?side2 A157.out).mono ?_
       (case side1 => exact cr_ HO328)
       (case side2 => exact (Kd.R_reads' HO328.out).2.1)
       rintro e w176 ⟨rfl, hb⟩
       refine ⟨_, rfl, ?_⟩
       replace HO_297001 := am_ (Kd.R_below (kr_ HO_297001) hb); replace HO_298001 := am_ (Kd.R_below (kr_ HO_298001) hb); replace HO328 := am_ (Kd.R_below (kr_ HO328) hb); replace BK285 := am_ (blk_below (bk_ BK285) hb); replace BK286 := am_ (blk_below (bk_ BK286) hb); replace BK287 := am_ (blk_below (bk_ BK287) hb); replace BK296 := am_ (blk_below (bk_ BK296) hb); replace BK297 := am_ (blk_below (bk_ BK297) hb); replace HB := am_ (below_step (bl_ HB) hb); (try clear hb); (try clear hb2); (try clear hk); (try clear hi)
       refine hK.out _ _ ⟨bc_ BK296 0, bc_ BK296 1⟩ (fun hHeld => ?_)
       clear hK K
       refine norm_ (a' := ?_) ?_ ?_
       rotate_left
       ·show Act.put _ (some 56) _ = _
        exact nm_
       refine one_ (i := 3) (N := some 57) #[true, true, true, true, false] rfl rfl (by kernel_rfl) (by decide) (fun K hK => ?_)
       refine goes_ Tryd.func113 (by kernel_rfl) rfl #[.agg #[.int .i64 t325, .slice Ao173 t326.length co173], .int .i64 t329] (by rfl) rfl rfl ma_ ?_
       with_reducible refine (spec_l02Cut.calls k1 t325 _ _ t326 t329 t330 t331 _ ?side1 ?side2 A158.out).mono ?_
       (case side1 => exact cr_ HO328)
       (case side2 => exact (Kd.R_reads' HO328.out).2.1)
       rintro e w177 ⟨v332, rfl, ho0, hb⟩
       refine ⟨_, rfl, ?_⟩
       have HO333 := am_ (Kd.R_lower (Kd.R_new' (Kd.R_new' (Kd.R_new' ho0 (Kd.R_lt (kr_ HO_297001))) (Kd.R_lt (kr_ HO_298001))) (Kd.R_lt (kr_ HO328))) (below_size (bl_ HB))); replace HO_297001 := am_ (Kd.R_elder' (kr_ HO_297001) (Kd.R_base ho0) hb); replace HO_298001 := am_ (Kd.R_elder' (kr_ HO_298001) (Kd.R_base ho0) hb); replace HO328 := am_ (Kd.R_elder' (kr_ HO328) (Kd.R_base ho0) hb); replace BK285 := am_ (blk_below (bk_ BK285) hb); replace BK286 := am_ (blk_below (bk_ BK286) hb); replace BK287 := am_ (blk_below (bk_ BK287) hb); replace BK296 := am_ (blk_below (bk_ BK296) hb); replace BK297 := am_ (blk_below (bk_ BK297) hb); replace HB := am_ (below_step (bl_ HB) hb); (try clear hb); (try clear hb2); (try clear hk); (try clear hi); (try clear ho0)
       obtain ⟨Ao179, co179, eo179⟩ := Kd.R_slice HO333.out
       (first | subst eo179 | (injection eo179 with f1_ f2_ f3_; have f4_ := f1_.symm; have f5_ := f3_.symm; clear f1_ f2_ f3_; subst f4_; subst f5_))
       refine hK.out _ _ ⟨bc_ BK296 0, bc_ BK296 1⟩ (fun hHeld => ?_)
       clear hK K
       refine norm_ (a' := ?_) ?_ ?_
       rotate_left
       ·show Act.put _ (some 57) _ = _
        exact nm_
       refine last_ (i := 4) (N := none) #[true, true, true, true, true] rfl rfl (by kernel_rfl) (by decide) (fun K hK => ?_)
       have hs178 : w177.cell? ⟨gb296, 0, none⟩ = some (.int .i64 t325) := bc_ BK296 0
       have hfs178 := blk_frozen BK296.out 0; have hns178_0 := NB285_296.out; have hns178_1 := NB286_296.out; have hns178_2 := NB287_296.out; have hns178_4 := NB297_296.out; have hms178_0 := NB296_285.out; have hms178_1 := NB296_286.out; have hms178_2 := NB296_287.out; have hms178_4 := NB296_297.out
       have hs180 : w177.cell? ⟨gb296, 1, none⟩ = some (.slice Ao173 t326.length co173) := bc_ BK296 1
       have hfs180 := blk_frozen BK296.out 1; have hns180_0 := NB285_296.out; have hns180_1 := NB286_296.out; have hns180_2 := NB287_296.out; have hns180_4 := NB297_296.out; have hms180_0 := NB296_285.out; have hms180_1 := NB296_286.out; have hms180_2 := NB296_287.out; have hms180_4 := NB296_297.out
       refine skip_ (w1 := ?_) (by rfl) rfl ?_ ?_
       rotate_left
       ·go_simp
        rfl
       refine hK.out _ _ ?_
       clear hK K
       refine done_ (by kernel_rfl) ?_
       have hcz181_0 : w177.cell? ⟨gb296, 0, none⟩ = some (.int .i64 t325) := bc_ BK296 0
       have hcz181_1 : w177.cell? ⟨gb296, 1, none⟩ = some (.slice Ao173 t326.length co173) := bc_ BK296 1
       have hfz181_0 := blk_frozen BK296.out 0; have hfz181_1 := blk_frozen BK296.out 1
       have hcz182_0 : w177.cell? ⟨gb297, 0, none⟩ = some (.int .i64 x298000_1) := bc_ BK297 0
       have hcz182_1 : w177.cell? ⟨gb297, 1, none⟩ = some (.slice Ao170 x298001_1.length co170) := bc_ BK297 1
       have hfz182_0 := blk_frozen BK297.out 0; have hfz182_1 := blk_frozen BK297.out 1
       try go_wp2_with (first | ((with_reducible refine gate_callee (f := 107) rfl ?_); refine goesL_ (some 41) rfl rfl Tryd.func107 (by kernel_rfl) rfl #[.agg #[.int .i64 t330, .slice Ao179 t331.length co179], .agg #[.int .i64 x298000_1, .slice Ao170 x298001_1.length co170]] rfl ma_ ?_; (with_reducible refine (spec_l02Compare.calls k1 t330 _ _ t331 x298000_1 _ _ x298001_1 t334 _ ?side1 ?side2 ?side3 ?side4 A159.out).mono ?_); (case side1 => refine (Kd.R_reads' (e := 2) (base := w.heap.size) (ok := fun k_ => (((True ∧ some k_ ≠ (.slice Ao169 x297001_1.length co169 : Value).ownBlock) ∧ some k_ ≠ (.slice Ao170 x298001_1.length co170 : Value).ownBlock) ∧ some k_ ≠ (.slice Ao173 t326.length co173 : Value).ownBlock)) (n := t331.length) (c := co179) ?_).2.2; exact (rg_ HO333 BK296)); (case side2 => exact (Kd.R_reads' HO333.out).2.1); (case side3 => refine (Kd.R_reads' (e := 2) (base := w.heap.size) (ok := fun k_ => ((some k_ ≠ (.slice Ao169 x297001_1.length co169 : Value).ownBlock ∧ some k_ ≠ (.slice Ao173 t326.length co173 : Value).ownBlock) ∧ some k_ ≠ (.slice Ao179 t331.length co179 : Value).ownBlock)) (n := x298001_1.length) (c := co170) ?_).2.2; exact (rg_ HO_298001 BK296)); (case side4 => exact (Kd.R_reads' HO_298001.out).2.1); rintro e w183 ⟨rfl, hb⟩; refine ⟨_, rfl, ?_⟩; replace HO_297001 := am_ (Kd.R_below (rg_ HO_297001 BK296) hb); replace HO_298001 := am_ (Kd.R_below (rg_ HO_298001 BK296) hb); replace HO328 := am_ (Kd.R_below (rg_ HO328 BK296) hb); replace HO333 := am_ (Kd.R_below (rg_ HO333 BK296) hb); replace BK285 := am_ (blk_below (bk_ BK285) hb); replace BK286 := am_ (blk_below (bk_ BK286) hb); replace BK287 := am_ (blk_below (bk_ BK287) hb); replace BK296 := am_ (blk_below (bp2_ BK296) hb); replace BK297 := am_ (blk_below (bk_ BK297) hb); replace HB := am_ (below_step (bl_ HB) hb); (try clear hb); (try clear hb2); (try clear hk); (try clear hi)))
       go_roundg k1
       case measure => have := HK1.out; omega
       case rel => exact ⟨(t334), (t330), (t331), (x298000_1), (x298001_1), (.slice Ao179 t331.length co179), (.slice Ao170 x298001_1.length co170), (by first | rfl | (simp; done) | (simp [*]; done)), H', ⟨by have := HK1.out; omega⟩, ⟨km_ HO333 (fun _ hk => hk.1.2)⟩, ⟨km_ HO_298001 (fun _ hk => hk.2)⟩, ⟨bk_ BK285⟩, ⟨bk_ BK286⟩, ⟨bk_ BK287⟩, ⟨bk_ BK296⟩, ⟨bk_ BK297⟩, ⟨bl_ HB⟩⟩

end Go.Proofs.YtghhphndbbefjaaDoor.X
