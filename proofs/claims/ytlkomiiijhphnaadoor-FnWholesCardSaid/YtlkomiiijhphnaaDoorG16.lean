/- Functions of the program as plain Lean functions, each with a proof that its call does what that function says. Printed by a program over the kit's print; conditions stand in each contract. -/
import Derived.Test.YtlkomiiijhphnaaDoorG10
import Derived.Test.YtlkomiiijhphnaaDoorG15
namespace Go.Proofs.YtlkomiiijhphnaaDoor.X
open Go.RowKit Go.Proofs.YtlkomiiijhphnaaDoorW.PrintWords Go.Proofs.YtlkomiiijhphnaaDoorW.PrintLast Go.Proofs.YtlkomiiijhphnaaDoorW.PrintMore Go.Proofs.YtlkomiiijhphnaaDoor.Sq
attribute [local go_sem] max2_int min2_int max_two min_two max_three min_three max_four min_four   -- for this text's walks alone
set_option linter.unusedVariables false
set_option linter.unusedSimpArgs false
def spec_l02Two.f (k : Nat) (l0 : List Int) : Option (Int × List Int × Int × List Int) := (spec_l01From.f k l0).bind fun bt246 => ((spec_l02Spoil.f k bt246.1 bt246.2.1 bt246.2.2).bind fun bt250 => ((spec_l02Spoil.f k bt246.1 bt250.2.2.1 bt250.2.2.2).bind fun bt256 => ((spec_l01Next.f bt246.1 bt256.2.2.1 bt256.2.2.2 8).bind fun bt264 => (if bt264.1 = 0 then ((spec_l02Make.f k bt250.1 bt250.2.1).bind fun bt267 => (some (bt250.1, bt250.2.1, bt267.1, bt267.2))) else (if bt264.1 = 1 then ((spec_l02Draw.f k bt246.1 bt264.2.1 bt264.2.2 1).bind fun bt271 => (some (bt250.1, bt250.2.1, bt271.1, bt271.2.1))) else (if bt264.1 = 2 then (some (bt250.1, bt250.2.1, 0, ([] : List Int))) else (some (bt250.1, bt250.2.1, bt256.1, bt256.2.1))))))))
def spec_l02Two.T5 : Bool × List (List Nat × List Nat) := (true, [([], []), ([], []), ([1], [1]), ([], []), ([3], [3]), ([2, 4], [2, 4]), ([0, 5, 0], [0]), ([5, 6, 0, 1, 2, 3, 4, 5, 6], [5])])
def spec_l02Two.B5 : List Nat := [0, 0, 2, 0, 8, 30, 63, 127]
theorem spec_l02Two.tab5 : rtab .any (opsOf Tryd.f37 5) = spec_l02Two.T5 := by kernel_rfl
theorem spec_l02Two.bits5 : waitsOk spec_l02Two.T5.2 spec_l02Two.B5 = true := by kernel_rfl
set_option maxHeartbeats 8000000 in
set_option maxRecDepth 100000 in
theorem spec_l02Two.calls (k : Nat) (A0 : Option Addr) (c0 : Nat) (l0 : List Int) (r1 : Int) (r2 : List Int) (r3 : Int) (r4 : List Int) (w : World) (hr0 : Kd.C (Kd.int .u8) w A0 l0.length l0) (hc0 : l0.length ≤ c0) (h : spec_l02Two.f k l0 = some (r1, r2, r3, r4)) :
  Calls Tryd.prog 37 #[.slice A0 l0.length c0] w fun e w' => ∃ v1_ v3_ : Value, e = .returned (.tuple #[.agg #[.int .i64 r1, v1_], .agg #[.int .i64 r3, v3_]]) ∧ Kd.R (Kd.int .i64) 2 w' w.heap.size (fun k_ => some k_ ≠ (v3_ : Value).ownBlock) v1_ r2 ∧ Kd.R (Kd.int .i64) 2 w' w.heap.size (fun k_ => some k_ ≠ (v1_ : Value).ownBlock) v3_ r4 ∧ Below w.heap.size w w' := by
 have hu26 := Tryd.underlying26; have HR0 := am_ hr0; have HC0 := am_ hc0; clear hr0 hc0; have HB := am_ (Below.refl w.heap.size w)
 have H : ((spec_l01From.f k l0).bind fun bt246 => ((spec_l02Spoil.f k bt246.1 bt246.2.1 bt246.2.2).bind fun bt250 => ((spec_l02Spoil.f k bt246.1 bt250.2.2.1 bt250.2.2.2).bind fun bt256 => ((spec_l01Next.f bt246.1 bt256.2.2.1 bt256.2.2.2 8).bind fun bt264 => (if bt264.1 = 0 then ((spec_l02Make.f k bt250.1 bt250.2.1).bind fun bt267 => (some (bt250.1, bt250.2.1, bt267.1, bt267.2))) else (if bt264.1 = 1 then ((spec_l02Draw.f k bt246.1 bt264.2.1 bt264.2.2 1).bind fun bt271 => (some (bt250.1, bt250.2.1, bt271.1, bt271.2.1))) else (if bt264.1 = 2 then (some (bt250.1, bt250.2.1, 0, ([] : List Int))) else (some (bt250.1, bt250.2.1, bt256.1, bt256.2.1))))))))) = some (r1, r2, r3, r4) := h
 clear h
 replace H := Option.bind_eq_some_iff.mp H
 obtain ⟨⟨t246, t247, t248⟩, A20, H⟩ := H
 try dsimp only at H
 have A2 := am_ A20; clear A20
 replace H := Option.bind_eq_some_iff.mp H
 obtain ⟨⟨t250, t251, t254, t255⟩, A30, H⟩ := H
 try dsimp only at H
 have A3 := am_ A30; clear A30
 replace H := Option.bind_eq_some_iff.mp H
 obtain ⟨⟨t256, t257, t260, t261⟩, A40, H⟩ := H
 try dsimp only at H
 have A4 := am_ A40; clear A40
 replace H := Option.bind_eq_some_iff.mp H
 obtain ⟨⟨t264, t265, t266⟩, A50, H⟩ := H
 try dsimp only at H
 have A5 := am_ A50; clear A50
 have HASIDE := am_ H; clear H
 go_enter Tryd.func37, Tryd.ntmps37
 go_upto_region 4 with (first | ((with_reducible refine gate_dst (N := 2) rfl ?_); refine bx_ 2 #[.int .i64 0, .slice none 0 0] 26 ?_; intro gb244 hg w8 hbox hb; obtain ⟨BK244, GW244, GE244⟩ := nb_ hbox hg HB; replace HB := bs_ HB hb; clear hb hbox hg) | ((with_reducible refine gate_dst (N := 3) rfl ?_); refine bx_ 3 #[.int .i64 0, .slice none 0 0] 26 ?_; intro gb245 hg w9 hbox hb; obtain ⟨BK245, GW245, GE245⟩ := nb_ hbox hg HB; obtain ⟨NB244_245, NB245_244⟩ := nn_ hg BK244; replace BK244 := bb_ BK244 hb; replace HB := bs_ HB hb; clear hb hbox hg) | ((with_reducible refine gate_callee (f := 57) rfl ?_); refine goesL_ (some 8) rfl rfl Tryd.func57 (by kernel_rfl) rfl #[.slice A0 l0.length c0] rfl ma_ ?_; (with_reducible refine (spec_l01From.calls k _ _ l0 t246 t247 t248 w _ ?side1 ?side2 ?side3 A2.out).mono ?_); (case side1 => exact bl_ HB); (case side2 => exact HR0.out); (case side3 => exact HC0.out); rintro e w10 ⟨g249, rfl, hi, hb, hb2⟩; refine ⟨_, rfl, ?_⟩; have HI249 := am_ (hi); have NB249_244 := am_ (IsS91.ne_blk hi (blk_below (bk_ BK244) hb2) (by decide)); have NB244_249 := am_ (Ne.symm (IsS91.ne_blk hi (blk_below (bk_ BK244) hb2) (by decide))); have NB249_245 := am_ (IsS91.ne_blk hi (blk_below (bk_ BK245) hb2) (by decide)); have NB245_249 := am_ (Ne.symm (IsS91.ne_blk hi (blk_below (bk_ BK245) hb2) (by decide))); replace BK244 := am_ (blk_below (bk_ BK244) hb2); replace BK245 := am_ (blk_below (bk_ BK245) hb2); replace HB := am_ (hb); (try clear hb); (try clear hb2); (try clear hi)) | ((with_reducible refine gate_callee (f := 64) rfl ?_); refine goesL_ (some 10) rfl rfl Tryd.func64 (by kernel_rfl) rfl #[.pointer (some ⟨g249, 0, none⟩)] rfl ma_ ?_; (with_reducible refine (spec_l02Spoil.calls k g249 t246 t247 t248 t250 t251 t254 t255 w _ ?side1 ?side2 A3.out).mono ?_); (case side1 => exact is_ HI249); (case side2 => exact bi_ HB); rintro e w11 ⟨v252, rfl, ho0, hi, hb, hk⟩; refine ⟨_, rfl, ?_⟩; have HO253 := am_ (Kd.R_lower ho0 (below_size (bi_ HB))); replace HI249 := am_ (hi); replace BK244 := am_ (kb_ hk (bk_ BK244) NB244_249); replace BK245 := am_ (kb_ hk (bk_ BK245) NB245_249); replace HB := am_ (hb); (try clear hb); (try clear hk); (try clear hi); (try clear ho0)) | ((with_reducible refine gate_callee (f := 64) rfl ?_); refine goesL_ (some 12) rfl rfl Tryd.func64 (by kernel_rfl) rfl #[.pointer (some ⟨g249, 0, none⟩)] rfl ma_ ?_; (with_reducible refine (spec_l02Spoil.calls k g249 t246 t254 t255 t256 t257 t260 t261 w _ ?side1 ?side2 A4.out).mono ?_); (case side1 => exact is_ HI249); (case side2 => exact bi_ HB); rintro e w12 ⟨v258, rfl, ho0, hi, hb, hk⟩; refine ⟨_, rfl, ?_⟩; have HO259 := am_ (Kd.R_lower (Kd.R_new' ho0 (Kd.R_lt (kr_ HO253))) (below_size (bi_ HB))); replace HO253 := am_ (Kd.R_mono (Kd.R_told (Kd.R_oldK (IsS91.apart (show IsS91 w _ g249 t246 t254 t255 from is_ HI249) (kr_ HO253) (by decide)) hk) (Kd.R_base ho0)) (fun _ h_ => h_.1)); replace HI249 := am_ (hi); replace BK244 := am_ (kb_ hk (bk_ BK244) NB244_249); replace BK245 := am_ (kb_ hk (bk_ BK245) NB245_249); replace HB := am_ (hb); (try clear hb); (try clear hk); (try clear hi); (try clear ho0)) | ((with_reducible refine gate_dst (N := 5) rfl ?_); refine bx_ 5 #[.int .i64 0, .slice none 0 0] 26 ?_; intro gb262 hg w13 hbox hb; have n0_ := am_ (Kd.R_below (kr_ HO253) hb); have n1_ := am_ (Kd.R_below (kr_ HO259) hb); have n2_ := am_ (blk_below (bk_ BK244) hb); have n3_ := am_ (blk_below (bk_ BK245) hb); have n4_ := am_ (IsS91.below (is_ HI249) hb); have n5_ := am_ (below_step (bi_ HB) hb); have n6_ := am_ (hbox); have n7_ := am_ ((by rw [hg]; exact (below_size (bi_ HB)) : w.heap.size ≤ gb262)); have n8_ := am_ ((by rw [hg]; exact (below_size (bi_ HB)) : w.heap.size ≤ gb262)); have n9_ := am_ (nl_ hg BK244); have n10_ := am_ (ng_ hg BK244); have n11_ := am_ (nl_ hg BK245); have n12_ := am_ (ng_ hg BK245); have n13_ := am_ ((by rw [hg]; exact Nat.ne_of_lt (IsS91.lt (show IsS91 w _ g249 t246 t260 t261 from is_ HI249)) : g249 ≠ gb262)); have n14_ := am_ ((by rw [hg]; exact Nat.ne_of_gt (IsS91.lt (show IsS91 w _ g249 t246 t260 t261 from is_ HI249)) : gb262 ≠ g249)); clear HO253; clear HO259; clear BK244; clear BK245; clear HI249; clear HB; have HO253 := n0_; have HO259 := n1_; have BK244 := n2_; have BK245 := n3_; have HI249 := n4_; have HB := n5_; have BK262 := n6_; have GW262 := n7_; have GE262 := n8_; have NB244_262 := n9_; have NB262_244 := n10_; have NB245_262 := n11_; have NB262_245 := n12_; have NB249_262 := n13_; have NB262_249 := n14_; clear n0_ n1_ n2_ n3_ n4_ n5_ n6_ n7_ n8_ n9_ n10_ n11_ n12_ n13_ n14_; clear hb hbox hg) | ((with_reducible refine gate_dst (N := 6) rfl ?_); refine bx_ 6 #[.int .i64 0, .slice none 0 0] 26 ?_; intro gb263 hg w14 hbox hb; have n0_ := am_ (Kd.R_below (kr_ HO253) hb); have n1_ := am_ (Kd.R_below (kr_ HO259) hb); have n2_ := am_ (blk_below (bk_ BK244) hb); have n3_ := am_ (blk_below (bk_ BK245) hb); have n4_ := am_ (IsS91.below (is_ HI249) hb); have n5_ := am_ (blk_below (bk_ BK262) hb); have n6_ := am_ (below_step (bi_ HB) hb); have n7_ := am_ (hbox); have n8_ := am_ ((by rw [hg]; exact (below_size (bi_ HB)) : w.heap.size ≤ gb263)); have n9_ := am_ ((by rw [hg]; exact (below_size (bi_ HB)) : w.heap.size ≤ gb263)); have n10_ := am_ (nl_ hg BK244); have n11_ := am_ (ng_ hg BK244); have n12_ := am_ (nl_ hg BK245); have n13_ := am_ (ng_ hg BK245); have n14_ := am_ (nl_ hg BK262); have n15_ := am_ (ng_ hg BK262); have n16_ := am_ ((by rw [hg]; exact Nat.ne_of_lt (IsS91.lt (show IsS91 w _ g249 t246 t260 t261 from is_ HI249)) : g249 ≠ gb263)); have n17_ := am_ ((by rw [hg]; exact Nat.ne_of_gt (IsS91.lt (show IsS91 w _ g249 t246 t260 t261 from is_ HI249)) : gb263 ≠ g249)); clear HO253; clear HO259; clear BK244; clear BK245; clear HI249; clear BK262; clear HB; have HO253 := n0_; have HO259 := n1_; have BK244 := n2_; have BK245 := n3_; have HI249 := n4_; have BK262 := n5_; have HB := n6_; have BK263 := n7_; have GW263 := n8_; have GE263 := n9_; have NB244_263 := n10_; have NB263_244 := n11_; have NB245_263 := n12_; have NB263_245 := n13_; have NB262_263 := n14_; have NB263_262 := n15_; have NB249_263 := n16_; have NB263_249 := n17_; clear n0_ n1_ n2_ n3_ n4_ n5_ n6_ n7_ n8_ n9_ n10_ n11_ n12_ n13_ n14_ n15_ n16_ n17_; clear hb hbox hg; have hnb15 := NB262_244.out; have hnc15 := NB244_262.out; have hnb16 := NB262_245.out; have hnc16 := NB245_262.out; have hnb17 := NB262_263.out; have hnc17 := NB263_262.out; have hnb18 := NB262_249.out; have hnc18 := NB249_262.out; obtain ⟨hcz19_0, hcz19_1, hfz19_0, hfz19_1⟩ := ck2_ BK262; obtain ⟨Ao20, co20, eo20⟩ := Kd.R_slice HO253.out; subst eo20; have hnb21 := NB263_244.out; have hnc21 := NB244_263.out; have hnb22 := NB263_245.out; have hnc22 := NB245_263.out; have hnb23 := NB263_249.out; have hnc23 := NB249_263.out; obtain ⟨hcz24_0, hcz24_1, hfz24_0, hfz24_1⟩ := ck2_ BK263; obtain ⟨Ao25, co25, eo25⟩ := Kd.R_slice HO259.out; subst eo25) | ((with_reducible refine gate_callee (f := 59) rfl ?_); refine goesL_ (some 14) rfl rfl Tryd.func59 (by kernel_rfl) rfl #[.pointer (some ⟨g249, 0, none⟩), .int .i64 8] rfl ma_ ?_; (with_reducible refine (spec_l01Next.calls g249 t246 t260 t261 8 t264 t265 t266 w _ ?side1 ?side2 A5.out).mono ?_); (case side1 => exact is_ HI249); (case side2 => exact bi_ HB); rintro e w26 ⟨rfl, hi, hb, hk⟩; refine ⟨_, rfl, ?_⟩; replace HO253 := am_ (Kd.R_mono (Kd.R_keep (IsS91.apart (show IsS91 w _ g249 t246 t260 t261 from is_ HI249) (by (with_reducible repeat (first | apply Kd.R_alloc | apply Kd.R_drewN | apply Kd.R_drew)); exact (Kd.R_mono (Kd.R_mono (Kd.R_far (p := ⟨gb263, 1, none⟩) (Kd.R_far (p := ⟨gb263, 0, none⟩) (Kd.R_far (p := ⟨gb262, 1, none⟩) (Kd.R_far (p := ⟨gb262, 0, none⟩) (Kd.R_types (Kd.R_types HO253.out BK262.out (by decide)) BK263.out (by decide)) (fun _ hk => hk.1.2) (.int .i64 t250)) (fun _ hk => hk.1.2) (.slice Ao20 t251.length co20)) (fun _ hk => hk.2) (.int .i64 t256)) (fun _ hk => hk.2) (.slice Ao25 t257.length co25)) (fun _ h_ => h_.1)) (fun _ h_ => h_.1))) (by decide)) hk (fun _ h => h.2)) (fun _ h => h.1)); replace HO259 := am_ (Kd.R_mono (Kd.R_keep (IsS91.apart (show IsS91 w _ g249 t246 t260 t261 from is_ HI249) (by (with_reducible repeat (first | apply Kd.R_alloc | apply Kd.R_drewN | apply Kd.R_drew)); exact (Kd.R_mono (Kd.R_mono (Kd.R_far (p := ⟨gb263, 1, none⟩) (Kd.R_far (p := ⟨gb263, 0, none⟩) (Kd.R_far (p := ⟨gb262, 1, none⟩) (Kd.R_far (p := ⟨gb262, 0, none⟩) (Kd.R_types (Kd.R_types HO259.out BK262.out (by decide)) BK263.out (by decide)) (fun _ hk => hk.1.2) (.int .i64 t250)) (fun _ hk => hk.1.2) (.slice Ao20 t251.length co20)) (fun _ hk => hk.2) (.int .i64 t256)) (fun _ hk => hk.2) (.slice Ao25 t257.length co25)) (fun _ h_ => h_.1)) (fun _ h_ => h_.1))) (by decide)) hk (fun _ h => h.2)) (fun _ h => h.1)); replace HI249 := am_ (hi); replace BK244 := am_ (kb_ hk (bk_ BK244) NB244_249); replace BK245 := am_ (kb_ hk (bk_ BK245) NB245_249); replace BK262 := am_ (KeepBut.blk hk (g' := gb262) (o := .cells #[.int .i64 t250, .slice Ao20 t251.length co20] 26 (0, 0)) (by (with_reducible repeat (first | refine blk_drewN ?_ _ | refine blk_drew ?_ | refine blk_alloc ?_ _)); refine blk_far ?_ NB262_263.out _; (with_reducible repeat (first | refine blk_drewN ?_ _ | refine blk_drew ?_ | refine blk_alloc ?_ _)); refine blk_far ?_ NB262_263.out _; (with_reducible repeat (first | refine blk_drewN ?_ _ | refine blk_drew ?_ | refine blk_alloc ?_ _)); refine blk_put (cs := #[.int .i64 t250, .slice none 0 0]) ?_ 1 _ rfl; (with_reducible repeat (first | refine blk_drewN ?_ _ | refine blk_drew ?_ | refine blk_alloc ?_ _)); refine blk_put (cs := #[.int .i64 0, .slice none 0 0]) ?_ 0 _ rfl; (with_reducible repeat (first | refine blk_drewN ?_ _ | refine blk_drew ?_ | refine blk_alloc ?_ _)); exact BK262.out) NB262_249.out (by simp)); replace BK263 := am_ (KeepBut.blk hk (g' := gb263) (o := .cells #[.int .i64 t256, .slice Ao25 t257.length co25] 26 (0, 0)) (by (with_reducible repeat (first | refine blk_drewN ?_ _ | refine blk_drew ?_ | refine blk_alloc ?_ _)); refine blk_put (cs := #[.int .i64 t256, .slice none 0 0]) ?_ 1 _ rfl; (with_reducible repeat (first | refine blk_drewN ?_ _ | refine blk_drew ?_ | refine blk_alloc ?_ _)); refine blk_put (cs := #[.int .i64 0, .slice none 0 0]) ?_ 0 _ rfl; (with_reducible repeat (first | refine blk_drewN ?_ _ | refine blk_drew ?_ | refine blk_alloc ?_ _)); refine blk_far ?_ NB263_262.out _; (with_reducible repeat (first | refine blk_drewN ?_ _ | refine blk_drew ?_ | refine blk_alloc ?_ _)); refine blk_far ?_ NB263_262.out _; (with_reducible repeat (first | refine blk_drewN ?_ _ | refine blk_drew ?_ | refine blk_alloc ?_ _)); exact BK263.out) NB263_249.out (by simp)); replace HB := am_ (hb); (try clear hb); (try clear hk); (try clear hi)))
 have H := HASIDE.out; clear HASIDE
 by_cases c6 : t264 = 0
 ·rw [if_pos c6] at H
  have c6b0 : (t264 == 0) = true := beq_iff_eq.mpr c6
  have c6b1 : (t264 != 0) = false := bne_eq_false_iff_eq.mpr c6
  clear c6
  replace H := Option.bind_eq_some_iff.mp H
  obtain ⟨⟨t267, t268⟩, A70, H⟩ := H
  try dsimp only at H
  have A7 := am_ A70; clear A70
  simp only [Option.some.injEq, Prod.mk.injEq] at H
  obtain ⟨rfl, rfl, rfl, rfl⟩ := H
  try go_wp2
  replace HO253 := am_ (Kd.R_drew HO253.out); replace HO259 := am_ (Kd.R_drew HO259.out); replace BK244 := am_ (blk_drew BK244.out); replace BK245 := am_ (blk_drew BK245.out); replace BK262 := am_ (blk_drew BK262.out); replace BK263 := am_ (blk_drew BK263.out); replace HI249 := am_ (IsS91.drew HI249.out); replace HB := am_ (below_drew1 HB.out)
  refine start_ (n := 8) (S := fun w' => w'.cell? ⟨gb262, 0, none⟩ = some (.int .i64 t250) ∧ w'.cell? ⟨gb262, 1, none⟩ = some (.slice Ao20 t251.length co20)) (ds := []) #[false, false, false, false, false, false, false, false] (by kernel_rfl) rfl rfl ⟨bc_ BK262 0, bc_ BK262 1⟩ (fun hHeld => ?_); refine with_tabW spec_l02Two.tab5 spec_l02Two.bits5 (fun HT_ HW_ => ?_)
  generalize w26.drew = w27 at HO253 HO259 BK244 BK245 BK262 BK263 HI249 HB hHeld ⊢
  refine pu_ #[false, true, false, false, false, false, false, false] 1 18 (any_of HT_.out (by kernel_rfl)) ?_
  refine pu_ #[false, true, false, true, false, false, false, false] 3 20 (any_of HT_.out (by kernel_rfl)) ?_
  refine tk_ #[true, true, false, true, false, false, false, false] 0 17 (take_ofW HT_.out HW_.out (by kernel_rfl)) hHeld ?_
  refine tk_ #[true, true, true, true, false, false, false, false] 2 19 (take_ofW HT_.out HW_.out (by kernel_rfl)) hHeld ?_
  refine tk_ #[true, true, true, true, true, false, false, false] 4 21 (take_ofW HT_.out HW_.out (by kernel_rfl)) hHeld ?_
  refine one_ (i := 5) (N := some 22) #[true, true, true, true, true, true, false, false] rfl rfl (one_of HT_.out (by kernel_rfl)) (by decide) (fun K hK => ?_)
  refine goes_ Tryd.func81 (by kernel_rfl) rfl #[.int .i64 t250, .slice Ao20 t251.length co20] (by rfl) rfl rfl ma_ ?_
  with_reducible refine (spec_l02Make.calls k t250 _ _ t251 t267 t268 _ ?side1 ?side2 A7.out).mono ?_
  (case side1 => exact cr_ HO253)
  (case side2 => exact (Kd.R_reads' HO253.out).2.1)
  rintro e w28 ⟨v269, rfl, ho0, hb⟩
  refine ⟨_, rfl, ?_⟩
  have n0_ := am_ (Kd.R_elder' (kr_ HO253) (Kd.R_base ho0) hb); have n1_ := am_ (Kd.R_elder' (kr_ HO259) (Kd.R_base ho0) hb)
  have n2_ := am_ (Kd.R_lower (Kd.R_new' (Kd.R_new' ho0 (Kd.R_lt (kr_ HO253))) (Kd.R_lt (kr_ HO259))) (below_size (bi_ HB)))
  have n3_ := am_ (blk_below (bk_ BK244) hb); have n4_ := am_ (blk_below (bk_ BK245) hb)
  have n5_ := am_ (IsS91.below (is_ HI249) hb)
  have n6_ := am_ (blk_below (bk_ BK262) hb); have n7_ := am_ (blk_below (bk_ BK263) hb)
  have n8_ := am_ (below_step (bi_ HB) hb)
  clear HO253 HO259 BK244 BK245 HI249 BK262 BK263 HB; have HO253 := n0_; have HO259 := n1_; have HO270 := n2_; have BK244 := n3_; have BK245 := n4_; have HI249 := n5_; have BK262 := n6_; have BK263 := n7_; have HB := n8_; clear n0_ n1_ n2_ n3_ n4_ n5_ n6_ n7_ n8_; (try clear hb); (try clear hb2); (try clear hk); (try clear hi); (try clear ho0)
  obtain ⟨Ao32, co32, eo32⟩ := Kd.R_slice HO270.out
  (first | subst eo32 | (injection eo32 with f1_ f2_ f3_; have f4_ := f1_.symm; have f5_ := f3_.symm; clear f1_ f2_ f3_; subst f4_; subst f5_))
  refine hK.out _ _ ⟨bc_ BK262 0, bc_ BK262 1⟩ (fun hHeld => ?_)
  clear hK K
  refine nr_ ?_
  refine one_ (i := 6) (N := none) #[true, true, true, true, true, true, true, false] rfl rfl (one_of HT_.out (by kernel_rfl)) (by decide) (fun K hK => ?_)
  have hs29 : w28.cell? ⟨gb244, 0, none⟩ = some (.int .i64 0) := bc_ BK244 0
  have hfs29 := blk_frozen BK244.out 0; have hns29_1 := NB245_244.out; have hns29_2 := NB262_244.out; have hns29_3 := NB263_244.out; have hms29_1 := NB244_245.out; have hms29_2 := NB244_262.out; have hms29_3 := NB244_263.out
  have hs30 : w28.cell? ⟨gb244, 1, none⟩ = some (.slice none 0 0) := bc_ BK244 1
  have hfs30 := blk_frozen BK244.out 1; have hns30_1 := NB245_244.out; have hns30_2 := NB262_244.out; have hns30_3 := NB263_244.out; have hms30_1 := NB244_245.out; have hms30_2 := NB244_262.out; have hms30_3 := NB244_263.out
  refine skip_ (w1 := ?_) (by rfl) rfl ?_ ?_
  rotate_left
  ·go_simp
   rfl
  refine hK.out _ _ ⟨((cell_far (p := ⟨gb244, _, none⟩) NB262_244.out _).trans (((cell_far (p := ⟨gb244, _, none⟩) NB262_244.out _).trans (hHeld.1)))), ((cell_far (p := ⟨gb244, _, none⟩) NB262_244.out _).trans (((cell_far (p := ⟨gb244, _, none⟩) NB262_244.out _).trans (hHeld.2))))⟩ (fun hHeld => ?_)
  clear hK K
  refine one_ (i := 7) (N := none) #[true, true, true, true, true, true, true, true] rfl rfl (one_of HT_.out (by kernel_rfl)) (by decide) (fun K hK => ?_)
  have hs31 : w28.cell? ⟨gb245, 0, none⟩ = some (.int .i64 0) := bc_ BK245 0
  have hfs31 := blk_frozen BK245.out 0; have hns31_0 := NB244_245.out; have hns31_2 := NB262_245.out; have hns31_3 := NB263_245.out; have hms31_0 := NB245_244.out; have hms31_2 := NB245_262.out; have hms31_3 := NB245_263.out
  have hs33 : w28.cell? ⟨gb245, 1, none⟩ = some (.slice none 0 0) := bc_ BK245 1
  have hfs33 := blk_frozen BK245.out 1; have hns33_0 := NB244_245.out; have hns33_2 := NB262_245.out; have hns33_3 := NB263_245.out; have hms33_0 := NB245_244.out; have hms33_2 := NB245_262.out; have hms33_3 := NB245_263.out
  refine skip_ (w1 := ?_) (by rfl) rfl ?_ ?_
  rotate_left
  ·go_simp
   rfl
  refine hK.out _ _ ⟨((cell_far (p := ⟨gb245, _, none⟩) NB262_245.out _).trans (((cell_far (p := ⟨gb245, _, none⟩) NB262_245.out _).trans (hHeld.1)))), ((cell_far (p := ⟨gb245, _, none⟩) NB262_245.out _).trans (((cell_far (p := ⟨gb245, _, none⟩) NB262_245.out _).trans (hHeld.2))))⟩ (fun hHeld => ?_)
  clear hK K
  refine done_ (done_of HT_.out (by kernel_rfl)) ?_
  try go_wp2
  refine bodyPost_ret (results_cc rfl _ _ gb244 gb245 26 26 #[.int .i64 t250, .slice Ao20 t251.length co20] #[.int .i64 t267, .slice Ao32 t268.length co32] (0, 0) (0, 0) _ _ rfl (by (with_reducible repeat (first | refine blk_drewN ?_ _ | refine blk_drew ?_ | refine blk_alloc ?_ _)); refine blk_far ?_ NB244_245.out _; (with_reducible repeat (first | refine blk_drewN ?_ _ | refine blk_drew ?_ | refine blk_alloc ?_ _)); refine blk_far ?_ NB244_245.out _; (with_reducible repeat (first | refine blk_drewN ?_ _ | refine blk_drew ?_ | refine blk_alloc ?_ _)); refine blk_put (cs := #[.int .i64 t250, .slice none 0 0]) ?_ 1 _ rfl; (with_reducible repeat (first | refine blk_drewN ?_ _ | refine blk_drew ?_ | refine blk_alloc ?_ _)); refine blk_put (cs := #[.int .i64 0, .slice none 0 0]) ?_ 0 _ rfl; (with_reducible repeat (first | refine blk_drewN ?_ _ | refine blk_drew ?_ | refine blk_alloc ?_ _)); exact BK244.out) Tryd.underlying26 rfl (by kernel_rfl) rfl (by (with_reducible repeat (first | refine blk_drewN ?_ _ | refine blk_drew ?_ | refine blk_alloc ?_ _)); refine blk_put (cs := #[.int .i64 t267, .slice none 0 0]) ?_ 1 _ rfl; (with_reducible repeat (first | refine blk_drewN ?_ _ | refine blk_drew ?_ | refine blk_alloc ?_ _)); refine blk_put (cs := #[.int .i64 0, .slice none 0 0]) ?_ 0 _ rfl; (with_reducible repeat (first | refine blk_drewN ?_ _ | refine blk_drew ?_ | refine blk_alloc ?_ _)); refine blk_far ?_ NB245_244.out _; (with_reducible repeat (first | refine blk_drewN ?_ _ | refine blk_drew ?_ | refine blk_alloc ?_ _)); refine blk_far ?_ NB245_244.out _; (with_reducible repeat (first | refine blk_drewN ?_ _ | refine blk_drew ?_ | refine blk_alloc ?_ _)); exact BK245.out) Tryd.underlying26 rfl (by kernel_rfl)) rfl ?_
  exact ⟨_, _, by first | rfl | (simp [errW_none, errW_some] <;> rfl) | (simp [*, errW_none, errW_some] <;> rfl), by (with_reducible repeat (first | apply Kd.R_alloc | apply Kd.R_drewN | apply Kd.R_drew)); exact Kd.R_mono (Kd.R_far (p := ⟨gb245, 1, none⟩) (Kd.R_far (p := ⟨gb245, 0, none⟩) (Kd.R_far (p := ⟨gb244, 1, none⟩) (Kd.R_far (p := ⟨gb244, 0, none⟩) (Kd.R_types (Kd.R_types HO253.out BK244.out (by decide)) BK245.out (by decide)) (fun _ hk => hk.1.2) (.int .i64 t250)) (fun _ hk => hk.1.2) (.slice Ao20 t251.length co20)) (fun _ hk => hk.2) (.int .i64 t267)) (fun _ hk => hk.2) (.slice Ao32 t268.length co32)) (fun _ hk => hk.1.1.2), by (with_reducible repeat (first | apply Kd.R_alloc | apply Kd.R_drewN | apply Kd.R_drew)); exact Kd.R_mono (Kd.R_far (p := ⟨gb245, 1, none⟩) (Kd.R_far (p := ⟨gb245, 0, none⟩) (Kd.R_far (p := ⟨gb244, 1, none⟩) (Kd.R_far (p := ⟨gb244, 0, none⟩) (Kd.R_types (Kd.R_types HO270.out BK244.out (by decide)) BK245.out (by decide)) (fun _ hk => hk.1.2) (.int .i64 t250)) (fun _ hk => hk.1.2) (.slice Ao20 t251.length co20)) (fun _ hk => hk.2) (.int .i64 t267)) (fun _ hk => hk.2) (.slice Ao32 t268.length co32)) (fun _ hk => hk.1.1.1.2), bi_ HB⟩
 ·rw [if_neg c6] at H
  have c6b0 : (t264 == 0) = false := beq_eq_false_iff_ne.mpr c6
  have c6b1 : (t264 != 0) = true := bne_iff_ne.mpr c6
  by_cases c34 : t264 = 1
  ·rw [if_pos c34] at H
   have c34b0 : (t264 == 1) = true := beq_iff_eq.mpr c34
   have c34b1 : (t264 != 1) = false := bne_eq_false_iff_eq.mpr c34
   clear c34
   replace H := Option.bind_eq_some_iff.mp H
   obtain ⟨⟨t271, t272, t275, t276⟩, A350, H⟩ := H
   try dsimp only at H
   have A35 := am_ A350; clear A350
   simp only [Option.some.injEq, Prod.mk.injEq] at H
   obtain ⟨rfl, rfl, rfl, rfl⟩ := H
   try go_wp2
   replace HO253 := am_ (Kd.R_drew HO253.out); replace HO259 := am_ (Kd.R_drew HO259.out); replace BK244 := am_ (blk_drew BK244.out); replace BK245 := am_ (blk_drew BK245.out); replace BK262 := am_ (blk_drew BK262.out); replace BK263 := am_ (blk_drew BK263.out); replace HI249 := am_ (IsS91.drew HI249.out); replace HB := am_ (below_drew1 HB.out)
   refine start_ (n := 5) (S := fun w' => w'.cell? ⟨gb262, 0, none⟩ = some (.int .i64 t250) ∧ w'.cell? ⟨gb262, 1, none⟩ = some (.slice Ao20 t251.length co20)) (ds := []) #[false, false, false, false, false] (by kernel_rfl) rfl rfl ⟨bc_ BK262 0, bc_ BK262 1⟩ (fun hHeld => ?_)
   generalize w26.drew = w55 at HO253 HO259 BK244 BK245 BK262 BK263 HI249 HB hHeld ⊢
   refine pu_ #[false, true, false, false, false] 1 26 (by kernel_rfl) ?_
   refine tk_ #[true, true, false, false, false] 0 25 (by kernel_rfl) hHeld ?_
   refine one_ (i := 2) (N := some 27) #[true, true, true, false, false] rfl rfl (by kernel_rfl) (by decide) (fun K hK => ?_)
   refine goes_ Tryd.func69 (by kernel_rfl) rfl #[.pointer (some ⟨g249, 0, none⟩), .int .i64 1] (by rfl) rfl rfl ma_ ?_
   with_reducible refine (spec_l02Draw.calls k g249 t246 t265 t266 1 t271 t272 t275 t276 w _ ?side1 ?side2 A35.out).mono ?_
   (case side1 => exact is_ HI249)
   (case side2 => exact bi_ HB)
   rintro e w56 ⟨v273, rfl, ho0, hi, hb, hk⟩
   refine ⟨_, rfl, ?_⟩
   have n0_ := am_ (kb_ hk (bk_ BK244) NB244_249)
   have n1_ := am_ (kb_ hk (bk_ BK245) NB245_249)
   have n2_ := am_ (Kd.R_mono (Kd.R_told (Kd.R_oldK (IsS91.apart (show IsS91 w _ g249 t246 t265 t266 from is_ HI249) (kr_ HO253) (by decide)) hk) (Kd.R_base ho0)) (fun _ h_ => h_.1))
   have n3_ := am_ (Kd.R_mono (Kd.R_told (Kd.R_oldK (IsS91.apart (show IsS91 w _ g249 t246 t265 t266 from is_ HI249) (kr_ HO259) (by decide)) hk) (Kd.R_base ho0)) (fun _ h_ => h_.1))
   have n4_ := am_ (kb_ hk (bk_ BK262) NB262_249)
   have n5_ := am_ (kb_ hk (bk_ BK263) NB263_249)
   have n6_ := am_ (Kd.R_lower (Kd.R_new' (Kd.R_new' ho0 (Kd.R_lt (kr_ HO253))) (Kd.R_lt (kr_ HO259))) (below_size (bi_ HB)))
   have n7_ := am_ (hb); have n8_ := am_ (hi); clear BK244 BK245 HO253 HO259 BK262 BK263 HB HI249; have BK244 := n0_; have BK245 := n1_; have HO253 := n2_; have HO259 := n3_; have BK262 := n4_; have BK263 := n5_; have HO274 := n6_; have HB := n7_; have HI249 := n8_; clear n0_ n1_ n2_ n3_ n4_ n5_ n6_ n7_ n8_; (try clear hb); (try clear hb2); (try clear hk); (try clear hi); (try clear ho0)
   obtain ⟨Ao60, co60, eo60⟩ := Kd.R_slice HO274.out
   (first | subst eo60 | (injection eo60 with f1_ f2_ f3_; have f4_ := f1_.symm; have f5_ := f3_.symm; clear f1_ f2_ f3_; subst f4_; subst f5_))
   refine hK.out _ _ ⟨bc_ BK262 0, bc_ BK262 1⟩ (fun hHeld => ?_)
   clear hK K
   refine nr_ ?_
   refine one_ (i := 3) (N := none) #[true, true, true, true, false] rfl rfl (by kernel_rfl) (by decide) (fun K hK => ?_)
   have hs57 : w56.cell? ⟨gb244, 0, none⟩ = some (.int .i64 0) := bc_ BK244 0
   have hfs57 := blk_frozen BK244.out 0; have hns57_1 := NB245_244.out; have hns57_2 := NB262_244.out; have hns57_3 := NB263_244.out; have hms57_1 := NB244_245.out; have hms57_2 := NB244_262.out; have hms57_3 := NB244_263.out
   have hs58 : w56.cell? ⟨gb244, 1, none⟩ = some (.slice none 0 0) := bc_ BK244 1
   have hfs58 := blk_frozen BK244.out 1; have hns58_1 := NB245_244.out; have hns58_2 := NB262_244.out; have hns58_3 := NB263_244.out; have hms58_1 := NB244_245.out; have hms58_2 := NB244_262.out; have hms58_3 := NB244_263.out
   refine skip_ (w1 := ?_) (by rfl) rfl ?_ ?_
   rotate_left
   ·go_simp
    rfl
   refine hK.out _ _ ⟨((cell_far (p := ⟨gb244, _, none⟩) NB262_244.out _).trans (((cell_far (p := ⟨gb244, _, none⟩) NB262_244.out _).trans (hHeld.1)))), ((cell_far (p := ⟨gb244, _, none⟩) NB262_244.out _).trans (((cell_far (p := ⟨gb244, _, none⟩) NB262_244.out _).trans (hHeld.2))))⟩ (fun hHeld => ?_)
   clear hK K
   refine one_ (i := 4) (N := none) #[true, true, true, true, true] rfl rfl (by kernel_rfl) (by decide) (fun K hK => ?_)
   have hs59 : w56.cell? ⟨gb245, 0, none⟩ = some (.int .i64 0) := bc_ BK245 0
   have hfs59 := blk_frozen BK245.out 0; have hns59_0 := NB244_245.out; have hns59_2 := NB262_245.out; have hns59_3 := NB263_245.out; have hms59_0 := NB245_244.out; have hms59_2 := NB245_262.out; have hms59_3 := NB245_263.out
   have hs61 : w56.cell? ⟨gb245, 1, none⟩ = some (.slice none 0 0) := bc_ BK245 1
   have hfs61 := blk_frozen BK245.out 1; have hns61_0 := NB244_245.out; have hns61_2 := NB262_245.out; have hns61_3 := NB263_245.out; have hms61_0 := NB245_244.out; have hms61_2 := NB245_262.out; have hms61_3 := NB245_263.out
   refine skip_ (w1 := ?_) (by rfl) rfl ?_ ?_
   rotate_left
   ·go_simp
    rfl
   refine hK.out _ _ ⟨((cell_far (p := ⟨gb245, _, none⟩) NB262_245.out _).trans (((cell_far (p := ⟨gb245, _, none⟩) NB262_245.out _).trans (hHeld.1)))), ((cell_far (p := ⟨gb245, _, none⟩) NB262_245.out _).trans (((cell_far (p := ⟨gb245, _, none⟩) NB262_245.out _).trans (hHeld.2))))⟩ (fun hHeld => ?_)
   clear hK K
   refine done_ (by kernel_rfl) ?_
   try go_wp2
   refine bodyPost_ret (results_cc rfl _ _ gb244 gb245 26 26 #[.int .i64 t250, .slice Ao20 t251.length co20] #[.int .i64 t271, .slice Ao60 t272.length co60] (0, 0) (0, 0) _ _ rfl (by (with_reducible repeat (first | refine blk_drewN ?_ _ | refine blk_drew ?_ | refine blk_alloc ?_ _)); refine blk_far ?_ NB244_245.out _; (with_reducible repeat (first | refine blk_drewN ?_ _ | refine blk_drew ?_ | refine blk_alloc ?_ _)); refine blk_far ?_ NB244_245.out _; (with_reducible repeat (first | refine blk_drewN ?_ _ | refine blk_drew ?_ | refine blk_alloc ?_ _)); refine blk_put (cs := #[.int .i64 t250, .slice none 0 0]) ?_ 1 _ rfl; (with_reducible repeat (first | refine blk_drewN ?_ _ | refine blk_drew ?_ | refine blk_alloc ?_ _)); refine blk_put (cs := #[.int .i64 0, .slice none 0 0]) ?_ 0 _ rfl; (with_reducible repeat (first | refine blk_drewN ?_ _ | refine blk_drew ?_ | refine blk_alloc ?_ _)); exact BK244.out) Tryd.underlying26 rfl (by kernel_rfl) rfl (by (with_reducible repeat (first | refine blk_drewN ?_ _ | refine blk_drew ?_ | refine blk_alloc ?_ _)); refine blk_put (cs := #[.int .i64 t271, .slice none 0 0]) ?_ 1 _ rfl; (with_reducible repeat (first | refine blk_drewN ?_ _ | refine blk_drew ?_ | refine blk_alloc ?_ _)); refine blk_put (cs := #[.int .i64 0, .slice none 0 0]) ?_ 0 _ rfl; (with_reducible repeat (first | refine blk_drewN ?_ _ | refine blk_drew ?_ | refine blk_alloc ?_ _)); refine blk_far ?_ NB245_244.out _; (with_reducible repeat (first | refine blk_drewN ?_ _ | refine blk_drew ?_ | refine blk_alloc ?_ _)); refine blk_far ?_ NB245_244.out _; (with_reducible repeat (first | refine blk_drewN ?_ _ | refine blk_drew ?_ | refine blk_alloc ?_ _)); exact BK245.out) Tryd.underlying26 rfl (by kernel_rfl)) rfl ?_
   exact ⟨_, _, by first | rfl | (simp [errW_none, errW_some] <;> rfl) | (simp [*, errW_none, errW_some] <;> rfl), by (with_reducible repeat (first | apply Kd.R_alloc | apply Kd.R_drewN | apply Kd.R_drew)); exact Kd.R_mono (Kd.R_far (p := ⟨gb245, 1, none⟩) (Kd.R_far (p := ⟨gb245, 0, none⟩) (Kd.R_far (p := ⟨gb244, 1, none⟩) (Kd.R_far (p := ⟨gb244, 0, none⟩) (Kd.R_types (Kd.R_types HO253.out BK244.out (by decide)) BK245.out (by decide)) (fun _ hk => hk.1.2) (.int .i64 t250)) (fun _ hk => hk.1.2) (.slice Ao20 t251.length co20)) (fun _ hk => hk.2) (.int .i64 t271)) (fun _ hk => hk.2) (.slice Ao60 t272.length co60)) (fun _ hk => hk.1.1.2), by (with_reducible repeat (first | apply Kd.R_alloc | apply Kd.R_drewN | apply Kd.R_drew)); exact Kd.R_mono (Kd.R_far (p := ⟨gb245, 1, none⟩) (Kd.R_far (p := ⟨gb245, 0, none⟩) (Kd.R_far (p := ⟨gb244, 1, none⟩) (Kd.R_far (p := ⟨gb244, 0, none⟩) (Kd.R_types (Kd.R_types HO274.out BK244.out (by decide)) BK245.out (by decide)) (fun _ hk => hk.1.2) (.int .i64 t250)) (fun _ hk => hk.1.2) (.slice Ao20 t251.length co20)) (fun _ hk => hk.2) (.int .i64 t271)) (fun _ hk => hk.2) (.slice Ao60 t272.length co60)) (fun _ hk => hk.1.1.1.2), bi_ HB⟩
  ·rw [if_neg c34] at H
   have c34b0 : (t264 == 1) = false := beq_eq_false_iff_ne.mpr c34
   have c34b1 : (t264 != 1) = true := bne_iff_ne.mpr c34
   by_cases c62 : t264 = 2
   ·rw [if_pos c62] at H
    have c62b0 : (t264 == 2) = true := beq_iff_eq.mpr c62
    have c62b1 : (t264 != 2) = false := bne_eq_false_iff_eq.mpr c62
    clear c62
    simp only [Option.some.injEq, Prod.mk.injEq] at H
    obtain ⟨rfl, rfl, rfl, rfl⟩ := H
    obtain ⟨hcz82_0, hcz82_1, hfz82_0, hfz82_1⟩ := ck2_ BK262; have hnb83 := NB244_245.out; have hnc83 := NB245_244.out; have hnb84 := NB244_249.out; have hnc84 := NB249_244.out; obtain ⟨hcz85_0, hcz85_1, hfz85_0, hfz85_1⟩ := ck2_ BK244; have hnb86 := NB245_249.out; have hnc86 := NB249_245.out; obtain ⟨hcz87_0, hcz87_1, hfz87_0, hfz87_1⟩ := ck2_ BK245
    go_wp2
    refine bodyPost_ret (results_cc rfl _ _ gb244 gb245 26 26 #[.int .i64 t250, .slice Ao20 t251.length co20] #[.int .i64 0, .slice none 0 0] (0, 0) (0, 0) _ _ rfl (by (with_reducible repeat (first | refine blk_drewN ?_ _ | refine blk_drew ?_ | refine blk_alloc ?_ _)); refine blk_far ?_ NB244_245.out _; (with_reducible repeat (first | refine blk_drewN ?_ _ | refine blk_drew ?_ | refine blk_alloc ?_ _)); refine blk_far ?_ NB244_245.out _; (with_reducible repeat (first | refine blk_drewN ?_ _ | refine blk_drew ?_ | refine blk_alloc ?_ _)); refine blk_put (cs := #[.int .i64 t250, .slice none 0 0]) ?_ 1 _ rfl; (with_reducible repeat (first | refine blk_drewN ?_ _ | refine blk_drew ?_ | refine blk_alloc ?_ _)); refine blk_put (cs := #[.int .i64 0, .slice none 0 0]) ?_ 0 _ rfl; (with_reducible repeat (first | refine blk_drewN ?_ _ | refine blk_drew ?_ | refine blk_alloc ?_ _)); exact BK244.out) Tryd.underlying26 rfl (by kernel_rfl) rfl (by (with_reducible repeat (first | refine blk_drewN ?_ _ | refine blk_drew ?_ | refine blk_alloc ?_ _)); refine blk_put (cs := #[.int .i64 0, .slice none 0 0]) ?_ 1 _ rfl; (with_reducible repeat (first | refine blk_drewN ?_ _ | refine blk_drew ?_ | refine blk_alloc ?_ _)); refine blk_put (cs := #[.int .i64 0, .slice none 0 0]) ?_ 0 _ rfl; (with_reducible repeat (first | refine blk_drewN ?_ _ | refine blk_drew ?_ | refine blk_alloc ?_ _)); refine blk_far ?_ NB245_244.out _; (with_reducible repeat (first | refine blk_drewN ?_ _ | refine blk_drew ?_ | refine blk_alloc ?_ _)); refine blk_far ?_ NB245_244.out _; (with_reducible repeat (first | refine blk_drewN ?_ _ | refine blk_drew ?_ | refine blk_alloc ?_ _)); exact BK245.out) Tryd.underlying26 rfl (by kernel_rfl)) rfl ?_
    exact ⟨_, _, by first | rfl | (simp [errW_none, errW_some] <;> rfl) | (simp [*, errW_none, errW_some] <;> rfl), by (with_reducible repeat (first | apply Kd.R_alloc | apply Kd.R_drewN | apply Kd.R_drew)); exact Kd.R_mono (Kd.R_far (p := ⟨gb245, 1, none⟩) (Kd.R_far (p := ⟨gb245, 0, none⟩) (Kd.R_far (p := ⟨gb244, 1, none⟩) (Kd.R_far (p := ⟨gb244, 0, none⟩) (Kd.R_types (Kd.R_types HO253.out BK244.out (by decide)) BK245.out (by decide)) (fun _ hk => hk.1.2) (.int .i64 t250)) (fun _ hk => hk.1.2) (.slice Ao20 t251.length co20)) (fun _ hk => hk.2) (.int .i64 0)) (fun _ hk => hk.2) (.slice none 0 0)) (fun _ hk => (by simp [Value.ownBlock])), by first | exact Kd.R_nil _ _ _ _ _ | exact Kd.N_nil _ _ _ _ _ | exact Kd.V_nil _ _ _ _ _ | exact Kd.Q_nil _ _ _ _ _ | exact Kd.S_nil _ _ _ _ _, bi_ HB⟩
   ·rw [if_neg c62] at H
    have c62b0 : (t264 == 2) = false := beq_eq_false_iff_ne.mpr c62
    have c62b1 : (t264 != 2) = true := bne_iff_ne.mpr c62
    simp only [Option.some.injEq, Prod.mk.injEq] at H
    obtain ⟨rfl, rfl, rfl, rfl⟩ := H
    try go_wp2
    replace HO253 := am_ (Kd.R_drew HO253.out); replace HO259 := am_ (Kd.R_drew HO259.out); replace BK244 := am_ (blk_drew BK244.out); replace BK245 := am_ (blk_drew BK245.out); replace BK262 := am_ (blk_drew BK262.out); replace BK263 := am_ (blk_drew BK263.out); replace HI249 := am_ (IsS91.drew HI249.out); replace HB := am_ (below_drew1 HB.out)
    refine start_ (n := 4) (S := fun w' => w'.cell? ⟨gb262, 0, none⟩ = some (.int .i64 t250) ∧ w'.cell? ⟨gb262, 1, none⟩ = some (.slice Ao20 t251.length co20) ∧ w'.cell? ⟨gb263, 0, none⟩ = some (.int .i64 t256) ∧ w'.cell? ⟨gb263, 1, none⟩ = some (.slice Ao25 t257.length co25)) (ds := []) #[false, false, false, false] (by kernel_rfl) rfl rfl ⟨bc_ BK262 0, bc_ BK262 1, bc_ BK263 0, bc_ BK263 1⟩ (fun hHeld => ?_)
    generalize w26.drew = w107 at HO253 HO259 BK244 BK245 BK262 BK263 HI249 HB hHeld ⊢
    refine tk_ #[true, false, false, false] 0 32 (by kernel_rfl) hHeld ?_
    refine tk_ #[true, true, false, false] 1 33 (by kernel_rfl) hHeld ?_
    refine one_ (i := 2) (N := none) #[true, true, true, false] rfl rfl (by kernel_rfl) (by decide) (fun K hK => ?_)
    have hs108 : w107.cell? ⟨gb244, 0, none⟩ = some (.int .i64 0) := bc_ BK244 0
    have hfs108 := blk_frozen BK244.out 0; have hns108_1 := NB245_244.out; have hns108_2 := NB262_244.out; have hns108_3 := NB263_244.out; have hms108_1 := NB244_245.out; have hms108_2 := NB244_262.out; have hms108_3 := NB244_263.out
    have hs109 : w107.cell? ⟨gb244, 1, none⟩ = some (.slice none 0 0) := bc_ BK244 1
    have hfs109 := blk_frozen BK244.out 1; have hns109_1 := NB245_244.out; have hns109_2 := NB262_244.out; have hns109_3 := NB263_244.out; have hms109_1 := NB244_245.out; have hms109_2 := NB244_262.out; have hms109_3 := NB244_263.out
    refine skip_ (w1 := ?_) (by rfl) rfl ?_ ?_
    rotate_left
    ·go_simp
     rfl
    refine hK.out _ _ ⟨((cell_far (p := ⟨gb244, _, none⟩) NB262_244.out _).trans (((cell_far (p := ⟨gb244, _, none⟩) NB262_244.out _).trans (hHeld.1)))), ((cell_far (p := ⟨gb244, _, none⟩) NB262_244.out _).trans (((cell_far (p := ⟨gb244, _, none⟩) NB262_244.out _).trans (hHeld.2.1)))), ((cell_far (p := ⟨gb244, _, none⟩) NB263_244.out _).trans (((cell_far (p := ⟨gb244, _, none⟩) NB263_244.out _).trans (hHeld.2.2.1)))), ((cell_far (p := ⟨gb244, _, none⟩) NB263_244.out _).trans (((cell_far (p := ⟨gb244, _, none⟩) NB263_244.out _).trans (hHeld.2.2.2))))⟩ (fun hHeld => ?_)
    clear hK K
    refine one_ (i := 3) (N := none) #[true, true, true, true] rfl rfl (by kernel_rfl) (by decide) (fun K hK => ?_)
    have hs110 : w107.cell? ⟨gb245, 0, none⟩ = some (.int .i64 0) := bc_ BK245 0
    have hfs110 := blk_frozen BK245.out 0; have hns110_0 := NB244_245.out; have hns110_2 := NB262_245.out; have hns110_3 := NB263_245.out; have hms110_0 := NB245_244.out; have hms110_2 := NB245_262.out; have hms110_3 := NB245_263.out
    have hs111 : w107.cell? ⟨gb245, 1, none⟩ = some (.slice none 0 0) := bc_ BK245 1
    have hfs111 := blk_frozen BK245.out 1; have hns111_0 := NB244_245.out; have hns111_2 := NB262_245.out; have hns111_3 := NB263_245.out; have hms111_0 := NB245_244.out; have hms111_2 := NB245_262.out; have hms111_3 := NB245_263.out
    refine skip_ (w1 := ?_) (by rfl) rfl ?_ ?_
    rotate_left
    ·go_simp
     rfl
    refine hK.out _ _ ⟨((cell_far (p := ⟨gb245, _, none⟩) NB262_245.out _).trans (((cell_far (p := ⟨gb245, _, none⟩) NB262_245.out _).trans (hHeld.1)))), ((cell_far (p := ⟨gb245, _, none⟩) NB262_245.out _).trans (((cell_far (p := ⟨gb245, _, none⟩) NB262_245.out _).trans (hHeld.2.1)))), ((cell_far (p := ⟨gb245, _, none⟩) NB263_245.out _).trans (((cell_far (p := ⟨gb245, _, none⟩) NB263_245.out _).trans (hHeld.2.2.1)))), ((cell_far (p := ⟨gb245, _, none⟩) NB263_245.out _).trans (((cell_far (p := ⟨gb245, _, none⟩) NB263_245.out _).trans (hHeld.2.2.2))))⟩ (fun hHeld => ?_)
    clear hK K
    refine done_ (by kernel_rfl) ?_
    try go_wp2
    refine bodyPost_ret (results_cc rfl _ _ gb244 gb245 26 26 #[.int .i64 t250, .slice Ao20 t251.length co20] #[.int .i64 t256, .slice Ao25 t257.length co25] (0, 0) (0, 0) _ _ rfl (by (with_reducible repeat (first | refine blk_drewN ?_ _ | refine blk_drew ?_ | refine blk_alloc ?_ _)); refine blk_far ?_ NB244_245.out _; (with_reducible repeat (first | refine blk_drewN ?_ _ | refine blk_drew ?_ | refine blk_alloc ?_ _)); refine blk_far ?_ NB244_245.out _; (with_reducible repeat (first | refine blk_drewN ?_ _ | refine blk_drew ?_ | refine blk_alloc ?_ _)); refine blk_put (cs := #[.int .i64 t250, .slice none 0 0]) ?_ 1 _ rfl; (with_reducible repeat (first | refine blk_drewN ?_ _ | refine blk_drew ?_ | refine blk_alloc ?_ _)); refine blk_put (cs := #[.int .i64 0, .slice none 0 0]) ?_ 0 _ rfl; (with_reducible repeat (first | refine blk_drewN ?_ _ | refine blk_drew ?_ | refine blk_alloc ?_ _)); exact BK244.out) Tryd.underlying26 rfl (by kernel_rfl) rfl (by (with_reducible repeat (first | refine blk_drewN ?_ _ | refine blk_drew ?_ | refine blk_alloc ?_ _)); refine blk_put (cs := #[.int .i64 t256, .slice none 0 0]) ?_ 1 _ rfl; (with_reducible repeat (first | refine blk_drewN ?_ _ | refine blk_drew ?_ | refine blk_alloc ?_ _)); refine blk_put (cs := #[.int .i64 0, .slice none 0 0]) ?_ 0 _ rfl; (with_reducible repeat (first | refine blk_drewN ?_ _ | refine blk_drew ?_ | refine blk_alloc ?_ _)); refine blk_far ?_ NB245_244.out _; (with_reducible repeat (first | refine blk_drewN ?_ _ | refine blk_drew ?_ | refine blk_alloc ?_ _)); refine blk_far ?_ NB245_244.out _; (with_reducible repeat (first | refine blk_drewN ?_ _ | refine blk_drew ?_ | refine blk_alloc ?_ _)); exact BK245.out) Tryd.underlying26 rfl (by kernel_rfl)) rfl ?_
    exact ⟨_, _, by first | rfl | (simp [errW_none, errW_some] <;> rfl) | (simp [*, errW_none, errW_some] <;> rfl), by (with_reducible repeat (first | apply Kd.R_alloc | apply Kd.R_drewN | apply Kd.R_drew)); exact Kd.R_mono (Kd.R_far (p := ⟨gb245, 1, none⟩) (Kd.R_far (p := ⟨gb245, 0, none⟩) (Kd.R_far (p := ⟨gb244, 1, none⟩) (Kd.R_far (p := ⟨gb244, 0, none⟩) (Kd.R_types (Kd.R_types HO253.out BK244.out (by decide)) BK245.out (by decide)) (fun _ hk => hk.1.2) (.int .i64 t250)) (fun _ hk => hk.1.2) (.slice Ao20 t251.length co20)) (fun _ hk => hk.2) (.int .i64 t256)) (fun _ hk => hk.2) (.slice Ao25 t257.length co25)) (fun _ hk => hk.1.1.2), by (with_reducible repeat (first | apply Kd.R_alloc | apply Kd.R_drewN | apply Kd.R_drew)); exact Kd.R_mono (Kd.R_far (p := ⟨gb245, 1, none⟩) (Kd.R_far (p := ⟨gb245, 0, none⟩) (Kd.R_far (p := ⟨gb244, 1, none⟩) (Kd.R_far (p := ⟨gb244, 0, none⟩) (Kd.R_types (Kd.R_types HO259.out BK244.out (by decide)) BK245.out (by decide)) (fun _ hk => hk.1.2) (.int .i64 t250)) (fun _ hk => hk.1.2) (.slice Ao20 t251.length co20)) (fun _ hk => hk.2) (.int .i64 t256)) (fun _ hk => hk.2) (.slice Ao25 t257.length co25)) (fun _ hk => hk.1.1.2), bi_ HB⟩
def spec_DrawDivideWholes.f (k : Nat) (l0 : List Int) : Option (Int × List Int × Int × List Int) := (spec_l02Two.f k l0).bind fun bt279 => (some (bt279.1, bt279.2.1, bt279.2.2.1, bt279.2.2.2))
set_option maxHeartbeats 8000000 in
set_option maxRecDepth 100000 in
theorem spec_DrawDivideWholes.calls (k : Nat) (A0 : Option Addr) (c0 : Nat) (l0 : List Int) (r1 : Int) (r2 : List Int) (r3 : Int) (r4 : List Int) (w : World) (hr0 : Kd.C (Kd.int .u8) w A0 l0.length l0) (hc0 : l0.length ≤ c0) (h : spec_DrawDivideWholes.f k l0 = some (r1, r2, r3, r4)) :
  Calls Tryd.prog 6 #[.slice A0 l0.length c0] w fun e w' => ∃ v1_ v3_ : Value, e = .returned (.tuple #[.agg #[.int .i64 r1, v1_], .agg #[.int .i64 r3, v3_]]) ∧ Kd.R (Kd.int .i64) 2 w' w.heap.size (fun k_ => some k_ ≠ (v3_ : Value).ownBlock) v1_ r2 ∧ Kd.R (Kd.int .i64) 2 w' w.heap.size (fun k_ => some k_ ≠ (v1_ : Value).ownBlock) v3_ r4 ∧ Below w.heap.size w w' := by
 have hu26 := Tryd.underlying26; have HR0 := am_ hr0; have HC0 := am_ hc0; clear hr0 hc0; have HB := am_ (Below.refl w.heap.size w)
 have H : ((spec_l02Two.f k l0).bind fun bt279 => (some (bt279.1, bt279.2.1, bt279.2.2.1, bt279.2.2.2))) = some (r1, r2, r3, r4) := h
 clear h
 replace H := Option.bind_eq_some_iff.mp H
 obtain ⟨⟨t279, t280, t283, t284⟩, A20, H⟩ := H
 try dsimp only at H
 have A2 := am_ A20; clear A20
 simp only [Option.some.injEq, Prod.mk.injEq] at H
 obtain ⟨rfl, rfl, rfl, rfl⟩ := H
 go_enter Tryd.func6, Tryd.ntmps6
 try go_wp2_with (first | ((with_reducible refine gate_dst (N := 2) rfl ?_); refine bx_ 2 #[.int .i64 0, .slice none 0 0] 26 ?_; intro gb277 hg w3 hbox hb; obtain ⟨BK277, GW277, GE277⟩ := nb_ hbox hg HB; replace HB := bs_ HB hb; clear hb hbox hg) | ((with_reducible refine gate_dst (N := 3) rfl ?_); refine bx_ 3 #[.int .i64 0, .slice none 0 0] 26 ?_; intro gb278 hg w4 hbox hb; obtain ⟨BK278, GW278, GE278⟩ := nb_ hbox hg HB; obtain ⟨NB277_278, NB278_277⟩ := nn_ hg BK277; replace BK277 := bb_ BK277 hb; replace HB := bs_ HB hb; clear hb hbox hg) | ((with_reducible refine gate_callee (f := 37) rfl ?_); refine goesL_ (some 8) rfl rfl Tryd.func37 (by kernel_rfl) rfl #[.slice A0 l0.length c0] rfl ma_ ?_; (with_reducible refine (spec_l02Two.calls k _ _ l0 t279 t280 t283 t284 _ ?side1 ?side2 A2.out).mono ?_); (case side1 => exact cb_ HR0 HB); (case side2 => exact HC0.out); rintro e w5 ⟨v281, v285, rfl, ho0, ho1, hb⟩; refine ⟨_, rfl, ?_⟩; have HO282 := am_ (Kd.R_lower ho0 (below_size (bl_ HB))); have HO286 := am_ (Kd.R_lower ho1 (below_size (bl_ HB))); replace BK277 := bb_ BK277 hb; replace BK278 := bb_ BK278 hb; replace HB := bs_ HB hb; (try clear hb); (try clear ho0); (try clear ho1)) | ((with_reducible refine gate_dst (N := 4) rfl ?_); refine bx_ 4 #[.int .i64 0, .slice none 0 0] 26 ?_; intro gb287 hg w6 hbox hb; obtain ⟨BK287, GW287, GE287⟩ := nb_ hbox hg HB; obtain ⟨NB277_287, NB287_277⟩ := nn_ hg BK277; obtain ⟨NB278_287, NB287_278⟩ := nn_ hg BK278; replace HO282 := am_ (Kd.R_below (kr_ HO282) hb); replace HO286 := am_ (Kd.R_below (kr_ HO286) hb); replace BK277 := bb_ BK277 hb; replace BK278 := bb_ BK278 hb; replace HB := bs_ HB hb; clear hb hbox hg) | ((with_reducible refine gate_dst (N := 5) rfl ?_); refine bx_ 5 #[.int .i64 0, .slice none 0 0] 26 ?_; intro gb288 hg w7 hbox hb; obtain ⟨BK288, GW288, GE288⟩ := nb_ hbox hg HB; obtain ⟨NB277_288, NB288_277⟩ := nn_ hg BK277; obtain ⟨NB278_288, NB288_278⟩ := nn_ hg BK278; obtain ⟨NB287_288, NB288_287⟩ := nn_ hg BK287; replace HO282 := am_ (Kd.R_below (kr_ HO282) hb); replace HO286 := am_ (Kd.R_below (kr_ HO286) hb); replace BK277 := bb_ BK277 hb; replace BK278 := bb_ BK278 hb; replace BK287 := bb_ BK287 hb; replace HB := bs_ HB hb; clear hb hbox hg; have hnb8 := NB287_277.out; have hnc8 := NB277_287.out; have hnb9 := NB287_278.out; have hnc9 := NB278_287.out; have hnb10 := NB287_288.out; have hnc10 := NB288_287.out; obtain ⟨hcz11_0, hcz11_1, hfz11_0, hfz11_1⟩ := ck2_ BK287; obtain ⟨Ao12, co12, eo12⟩ := Kd.R_slice HO282.out; subst eo12; have hnb13 := NB288_277.out; have hnc13 := NB277_288.out; have hnb14 := NB288_278.out; have hnc14 := NB278_288.out; obtain ⟨hcz15_0, hcz15_1, hfz15_0, hfz15_1⟩ := ck2_ BK288; obtain ⟨Ao16, co16, eo16⟩ := Kd.R_slice HO286.out; subst eo16))
 have n0_ : Aside0 (Kd.R (Kd.int .i64) 2 ((((w7.setCell ⟨gb287, 0, none⟩ (.int .i64 t279)).setCell ⟨gb287, 1, none⟩ (.slice Ao12 t280.length co12)).setCell ⟨gb288, 0, none⟩ (.int .i64 t283)).setCell ⟨gb288, 1, none⟩ (.slice Ao16 t284.length co16)) w.heap.size (fun k_ => some k_ ≠ (.slice Ao16 t284.length co16 : Value).ownBlock) (.slice Ao12 t280.length co12) t280) := ⟨by (with_reducible repeat (first | apply Kd.R_alloc | apply Kd.R_drewN | apply Kd.R_drew)); exact Kd.R_mono (Kd.R_far (p := ⟨gb288, 1, none⟩) (Kd.R_far (p := ⟨gb288, 0, none⟩) (Kd.R_far (p := ⟨gb287, 1, none⟩) (Kd.R_far (p := ⟨gb287, 0, none⟩) (Kd.R_types (Kd.R_types HO282.out BK287.out (by decide)) BK288.out (by decide)) (fun _ hk => hk.1.2) (.int .i64 t279)) (fun _ hk => hk.1.2) (.slice Ao12 t280.length co12)) (fun _ hk => hk.2) (.int .i64 t283)) (fun _ hk => hk.2) (.slice Ao16 t284.length co16)) (fun _ hk => hk.1.1)⟩
 have n1_ : Aside0 (Kd.R (Kd.int .i64) 2 ((((w7.setCell ⟨gb287, 0, none⟩ (.int .i64 t279)).setCell ⟨gb287, 1, none⟩ (.slice Ao12 t280.length co12)).setCell ⟨gb288, 0, none⟩ (.int .i64 t283)).setCell ⟨gb288, 1, none⟩ (.slice Ao16 t284.length co16)) w.heap.size (fun k_ => some k_ ≠ (.slice Ao12 t280.length co12 : Value).ownBlock) (.slice Ao16 t284.length co16) t284) := ⟨by (with_reducible repeat (first | apply Kd.R_alloc | apply Kd.R_drewN | apply Kd.R_drew)); exact Kd.R_mono (Kd.R_far (p := ⟨gb288, 1, none⟩) (Kd.R_far (p := ⟨gb288, 0, none⟩) (Kd.R_far (p := ⟨gb287, 1, none⟩) (Kd.R_far (p := ⟨gb287, 0, none⟩) (Kd.R_types (Kd.R_types HO286.out BK287.out (by decide)) BK288.out (by decide)) (fun _ hk => hk.1.2) (.int .i64 t279)) (fun _ hk => hk.1.2) (.slice Ao12 t280.length co12)) (fun _ hk => hk.2) (.int .i64 t283)) (fun _ hk => hk.2) (.slice Ao16 t284.length co16)) (fun _ hk => hk.1.1)⟩
 have n2_ : Aside0 (((((w7.setCell ⟨gb287, 0, none⟩ (.int .i64 t279)).setCell ⟨gb287, 1, none⟩ (.slice Ao12 t280.length co12)).setCell ⟨gb288, 0, none⟩ (.int .i64 t283)).setCell ⟨gb288, 1, none⟩ (.slice Ao16 t284.length co16)).heap[gb277]? = some (.cells #[.int .i64 0, .slice none 0 0] 26 (0, 0))) := ⟨bk_ BK277⟩
 have n3_ : Aside0 (((((w7.setCell ⟨gb287, 0, none⟩ (.int .i64 t279)).setCell ⟨gb287, 1, none⟩ (.slice Ao12 t280.length co12)).setCell ⟨gb288, 0, none⟩ (.int .i64 t283)).setCell ⟨gb288, 1, none⟩ (.slice Ao16 t284.length co16)).heap[gb278]? = some (.cells #[.int .i64 0, .slice none 0 0] 26 (0, 0))) := ⟨bk_ BK278⟩
 have n4_ : Aside0 (((((w7.setCell ⟨gb287, 0, none⟩ (.int .i64 t279)).setCell ⟨gb287, 1, none⟩ (.slice Ao12 t280.length co12)).setCell ⟨gb288, 0, none⟩ (.int .i64 t283)).setCell ⟨gb288, 1, none⟩ (.slice Ao16 t284.length co16)).heap[gb287]? = some (.cells #[.int .i64 t279, .slice Ao12 t280.length co12] 26 (0, 0))) := ⟨by (with_reducible repeat (first | refine blk_drewN ?_ _ | refine blk_drew ?_ | refine blk_alloc ?_ _)); refine blk_far ?_ NB287_288.out _; (with_reducible repeat (first | refine blk_drewN ?_ _ | refine blk_drew ?_ | refine blk_alloc ?_ _)); refine blk_far ?_ NB287_288.out _; (with_reducible repeat (first | refine blk_drewN ?_ _ | refine blk_drew ?_ | refine blk_alloc ?_ _)); refine blk_put (cs := #[.int .i64 t279, .slice none 0 0]) ?_ 1 _ rfl; (with_reducible repeat (first | refine blk_drewN ?_ _ | refine blk_drew ?_ | refine blk_alloc ?_ _)); refine blk_put (cs := #[.int .i64 0, .slice none 0 0]) ?_ 0 _ rfl; (with_reducible repeat (first | refine blk_drewN ?_ _ | refine blk_drew ?_ | refine blk_alloc ?_ _)); exact BK287.out⟩
 have n5_ : Aside0 (((((w7.setCell ⟨gb287, 0, none⟩ (.int .i64 t279)).setCell ⟨gb287, 1, none⟩ (.slice Ao12 t280.length co12)).setCell ⟨gb288, 0, none⟩ (.int .i64 t283)).setCell ⟨gb288, 1, none⟩ (.slice Ao16 t284.length co16)).heap[gb288]? = some (.cells #[.int .i64 t283, .slice Ao16 t284.length co16] 26 (0, 0))) := ⟨by (with_reducible repeat (first | refine blk_drewN ?_ _ | refine blk_drew ?_ | refine blk_alloc ?_ _)); refine blk_put (cs := #[.int .i64 t283, .slice none 0 0]) ?_ 1 _ rfl; (with_reducible repeat (first | refine blk_drewN ?_ _ | refine blk_drew ?_ | refine blk_alloc ?_ _)); refine blk_put (cs := #[.int .i64 0, .slice none 0 0]) ?_ 0 _ rfl; (with_reducible repeat (first | refine blk_drewN ?_ _ | refine blk_drew ?_ | refine blk_alloc ?_ _)); refine blk_far ?_ NB288_287.out _; (with_reducible repeat (first | refine blk_drewN ?_ _ | refine blk_drew ?_ | refine blk_alloc ?_ _)); refine blk_far ?_ NB288_287.out _; (with_reducible repeat (first | refine blk_drewN ?_ _ | refine blk_drew ?_ | refine blk_alloc ?_ _)); exact BK288.out⟩
 have n6_ : Aside0 (Below w.heap.size w ((((w7.setCell ⟨gb287, 0, none⟩ (.int .i64 t279)).setCell ⟨gb287, 1, none⟩ (.slice Ao12 t280.length co12)).setCell ⟨gb288, 0, none⟩ (.int .i64 t283)).setCell ⟨gb288, 1, none⟩ (.slice Ao16 t284.length co16))) := ⟨bl_ HB⟩
 (try clear HO282); (try clear HO286); (try clear BK277); (try clear BK278); (try clear BK287); (try clear BK288); (try clear HB)
 generalize ((((w7.setCell ⟨gb287, 0, none⟩ (.int .i64 t279)).setCell ⟨gb287, 1, none⟩ (.slice Ao12 t280.length co12)).setCell ⟨gb288, 0, none⟩ (.int .i64 t283)).setCell ⟨gb288, 1, none⟩ (.slice Ao16 t284.length co16)) = w17 at n0_ n1_ n2_ n3_ n4_ n5_ n6_ ⊢
 have HO282 := n0_; have HO286 := n1_; have BK277 := n2_; have BK278 := n3_; have BK287 := n4_; have BK288 := n5_; have HB := n6_; clear n0_ n1_ n2_ n3_ n4_ n5_ n6_; replace HO282 := am_ (Kd.R_drew HO282.out); replace HO286 := am_ (Kd.R_drew HO286.out); replace BK277 := am_ (blk_drew BK277.out); replace BK278 := am_ (blk_drew BK278.out); replace BK287 := am_ (blk_drew BK287.out); replace BK288 := am_ (blk_drew BK288.out); replace HB := am_ (below_drew1 HB.out)
 refine start_ (n := 4) (S := fun w' => w'.cell? ⟨gb287, 0, none⟩ = some (.int .i64 t279) ∧ w'.cell? ⟨gb287, 1, none⟩ = some (.slice Ao12 t280.length co12) ∧ w'.cell? ⟨gb288, 0, none⟩ = some (.int .i64 t283) ∧ w'.cell? ⟨gb288, 1, none⟩ = some (.slice Ao16 t284.length co16)) (ds := []) #[false, false, false, false] (by kernel_rfl) rfl rfl ⟨bc_ BK287 0, bc_ BK287 1, bc_ BK288 0, bc_ BK288 1⟩ (fun hHeld => ?_)
 generalize w17.drew = w18 at HO282 HO286 BK277 BK278 BK287 BK288 HB hHeld ⊢
 refine tk_ #[true, false, false, false] 0 11 (by kernel_rfl) hHeld ?_
 refine tk_ #[true, true, false, false] 1 12 (by kernel_rfl) hHeld ?_
 refine one_ (i := 2) (N := none) #[true, true, true, false] rfl rfl (by kernel_rfl) (by decide) (fun K hK => ?_)
 have hs19 : w18.cell? ⟨gb277, 0, none⟩ = some (.int .i64 0) := bc_ BK277 0
 have hfs19 := blk_frozen BK277.out 0; have hns19_1 := NB278_277.out; have hns19_2 := NB287_277.out; have hns19_3 := NB288_277.out; have hms19_1 := NB277_278.out; have hms19_2 := NB277_287.out; have hms19_3 := NB277_288.out
 have hs20 : w18.cell? ⟨gb277, 1, none⟩ = some (.slice none 0 0) := bc_ BK277 1
 have hfs20 := blk_frozen BK277.out 1; have hns20_1 := NB278_277.out; have hns20_2 := NB287_277.out; have hns20_3 := NB288_277.out; have hms20_1 := NB277_278.out; have hms20_2 := NB277_287.out; have hms20_3 := NB277_288.out
 refine skip_ (w1 := ?_) (by rfl) rfl ?_ ?_
 rotate_left
 ·go_simp
  rfl
 refine hK.out _ _ ⟨((cell_far (p := ⟨gb277, _, none⟩) NB287_277.out _).trans (((cell_far (p := ⟨gb277, _, none⟩) NB287_277.out _).trans (hHeld.1)))), ((cell_far (p := ⟨gb277, _, none⟩) NB287_277.out _).trans (((cell_far (p := ⟨gb277, _, none⟩) NB287_277.out _).trans (hHeld.2.1)))), ((cell_far (p := ⟨gb277, _, none⟩) NB288_277.out _).trans (((cell_far (p := ⟨gb277, _, none⟩) NB288_277.out _).trans (hHeld.2.2.1)))), ((cell_far (p := ⟨gb277, _, none⟩) NB288_277.out _).trans (((cell_far (p := ⟨gb277, _, none⟩) NB288_277.out _).trans (hHeld.2.2.2))))⟩ (fun hHeld => ?_)
 clear hK K
 refine one_ (i := 3) (N := none) #[true, true, true, true] rfl rfl (by kernel_rfl) (by decide) (fun K hK => ?_)
 have hs21 : w18.cell? ⟨gb278, 0, none⟩ = some (.int .i64 0) := bc_ BK278 0
 have hfs21 := blk_frozen BK278.out 0; have hns21_0 := NB277_278.out; have hns21_2 := NB287_278.out; have hns21_3 := NB288_278.out; have hms21_0 := NB278_277.out; have hms21_2 := NB278_287.out; have hms21_3 := NB278_288.out
 have hs22 : w18.cell? ⟨gb278, 1, none⟩ = some (.slice none 0 0) := bc_ BK278 1
 have hfs22 := blk_frozen BK278.out 1; have hns22_0 := NB277_278.out; have hns22_2 := NB287_278.out; have hns22_3 := NB288_278.out; have hms22_0 := NB278_277.out; have hms22_2 := NB278_287.out; have hms22_3 := NB278_288.out
 refine skip_ (w1 := ?_) (by rfl) rfl ?_ ?_
 rotate_left
 ·go_simp
  rfl
 refine hK.out _ _ ⟨((cell_far (p := ⟨gb278, _, none⟩) NB287_278.out _).trans (((cell_far (p := ⟨gb278, _, none⟩) NB287_278.out _).trans (hHeld.1)))), ((cell_far (p := ⟨gb278, _, none⟩) NB287_278.out _).trans (((cell_far (p := ⟨gb278, _, none⟩) NB287_278.out _).trans (hHeld.2.1)))), ((cell_far (p := ⟨gb278, _, none⟩) NB288_278.out _).trans (((cell_far (p := ⟨gb278, _, none⟩) NB288_278.out _).trans (hHeld.2.2.1)))), ((cell_far (p := ⟨gb278, _, none⟩) NB288_278.out _).trans (((cell_far (p := ⟨gb278, _, none⟩) NB288_278.out _).trans (hHeld.2.2.2))))⟩ (fun hHeld => ?_)
 clear hK K
 refine done_ (by kernel_rfl) ?_
 try go_wp2
 refine bodyPost_ret (results_cc rfl _ _ gb277 gb278 26 26 #[.int .i64 t279, .slice Ao12 t280.length co12] #[.int .i64 t283, .slice Ao16 t284.length co16] (0, 0) (0, 0) _ _ rfl (by (with_reducible repeat (first | refine blk_drewN ?_ _ | refine blk_drew ?_ | refine blk_alloc ?_ _)); refine blk_far ?_ NB277_278.out _; (with_reducible repeat (first | refine blk_drewN ?_ _ | refine blk_drew ?_ | refine blk_alloc ?_ _)); refine blk_far ?_ NB277_278.out _; (with_reducible repeat (first | refine blk_drewN ?_ _ | refine blk_drew ?_ | refine blk_alloc ?_ _)); refine blk_put (cs := #[.int .i64 t279, .slice none 0 0]) ?_ 1 _ rfl; (with_reducible repeat (first | refine blk_drewN ?_ _ | refine blk_drew ?_ | refine blk_alloc ?_ _)); refine blk_put (cs := #[.int .i64 0, .slice none 0 0]) ?_ 0 _ rfl; (with_reducible repeat (first | refine blk_drewN ?_ _ | refine blk_drew ?_ | refine blk_alloc ?_ _)); exact BK277.out) Tryd.underlying26 rfl (by kernel_rfl) rfl (by (with_reducible repeat (first | refine blk_drewN ?_ _ | refine blk_drew ?_ | refine blk_alloc ?_ _)); refine blk_put (cs := #[.int .i64 t283, .slice none 0 0]) ?_ 1 _ rfl; (with_reducible repeat (first | refine blk_drewN ?_ _ | refine blk_drew ?_ | refine blk_alloc ?_ _)); refine blk_put (cs := #[.int .i64 0, .slice none 0 0]) ?_ 0 _ rfl; (with_reducible repeat (first | refine blk_drewN ?_ _ | refine blk_drew ?_ | refine blk_alloc ?_ _)); refine blk_far ?_ NB278_277.out _; (with_reducible repeat (first | refine blk_drewN ?_ _ | refine blk_drew ?_ | refine blk_alloc ?_ _)); refine blk_far ?_ NB278_277.out _; (with_reducible repeat (first | refine blk_drewN ?_ _ | refine blk_drew ?_ | refine blk_alloc ?_ _)); exact BK278.out) Tryd.underlying26 rfl (by kernel_rfl)) rfl ?_
 exact ⟨_, _, by first | rfl | (simp [errW_none, errW_some] <;> rfl) | (simp [*, errW_none, errW_some] <;> rfl), by (with_reducible repeat (first | apply Kd.R_alloc | apply Kd.R_drewN | apply Kd.R_drew)); exact Kd.R_mono (Kd.R_far (p := ⟨gb278, 1, none⟩) (Kd.R_far (p := ⟨gb278, 0, none⟩) (Kd.R_far (p := ⟨gb277, 1, none⟩) (Kd.R_far (p := ⟨gb277, 0, none⟩) (Kd.R_types (Kd.R_types HO282.out BK277.out (by decide)) BK278.out (by decide)) (fun _ hk => hk.1.2) (.int .i64 t279)) (fun _ hk => hk.1.2) (.slice Ao12 t280.length co12)) (fun _ hk => hk.2) (.int .i64 t283)) (fun _ hk => hk.2) (.slice Ao16 t284.length co16)) (fun _ hk => hk.1.1), by (with_reducible repeat (first | apply Kd.R_alloc | apply Kd.R_drewN | apply Kd.R_drew)); exact Kd.R_mono (Kd.R_far (p := ⟨gb278, 1, none⟩) (Kd.R_far (p := ⟨gb278, 0, none⟩) (Kd.R_far (p := ⟨gb277, 1, none⟩) (Kd.R_far (p := ⟨gb277, 0, none⟩) (Kd.R_types (Kd.R_types HO286.out BK277.out (by decide)) BK278.out (by decide)) (fun _ hk => hk.1.2) (.int .i64 t279)) (fun _ hk => hk.1.2) (.slice Ao12 t280.length co12)) (fun _ hk => hk.2) (.int .i64 t283)) (fun _ hk => hk.2) (.slice Ao16 t284.length co16)) (fun _ hk => hk.1.1), bl_ HB⟩
def spec_l01In.f (a0 : Int) (a1 : Int) (a2 : Int) : Option (Bool) := if a0 ≥ a1 then (some (decide (a0 ≤ a2))) else (some false)
set_option maxHeartbeats 8000000 in
set_option maxRecDepth 100000 in
theorem spec_l01In.calls (a0 : Int) (a1 : Int) (a2 : Int) (r : Bool) (w : World) (h : spec_l01In.f a0 a1 a2 = some r) :
  Calls Tryd.prog 75 #[.int .i64 a0, .int .i64 a1, .int .i64 a2] w fun e w' => e = .returned (.bool r) ∧ Drawn0 w w' := by
 have H : (if a0 ≥ a1 then (some (decide (a0 ≤ a2))) else (some false)) = some r := h
 clear h
 by_cases c4 : a0 ≥ a1
 ·rw [if_pos c4] at H
  have c4b0 : decide (a1 ≤ a0) = true := decide_eq_true c4
  clear c4; obtain rfl := Option.some.inj H
  go_enter Tryd.func75, Tryd.ntmps75
  go_wp2
  go_ret
  exact ⟨by first | rfl | (simp; done) | (simp [*]; done), by repeat (first | exact Drawn0.refl _ | apply Drawn0.step)⟩
 ·rw [if_neg c4] at H
  have c4b0 : decide (a1 ≤ a0) = false := decide_eq_false c4
  clear c4; obtain rfl := Option.some.inj H
  go_enter Tryd.func75, Tryd.ntmps75
  go_wp2
  go_ret
  exact ⟨by first | rfl | (simp; done) | (simp [*]; done), by repeat (first | exact Drawn0.refl _ | apply Drawn0.step)⟩
def spec_l02Is.l0 : Nat → Int → Int → Int → List Int → Option (Bool)
  | 0, _, _, _, _ => none
  | k + 1, x3, x4, x290000, x290001 => if x4 < x3 then (if 0 ≤ x4 then (if x4 < (x290001.length : Int) then ((spec_l01In.f (rd x290001 x4) 0 16777215).bind fun t291 => (if t291 = true then (spec_l02Is.l0 k x3 (wrap64 (x4 + 1)) x290000 x290001) else (some false))) else (none)) else (none)) else (if x3 = 0 then (some (x290000 == 0)) else (if x3 ≤ 200 then (if 0 ≤ (wrap64 (x3 - 1)) then (if (wrap64 (x3 - 1)) < (x290001.length : Int) then (if (rd x290001 (wrap64 (x3 - 1))) = 0 then (some false) else (if x290000 = 1 then (some true) else (some (x290000 == (-1))))) else (none)) else (none)) else (some false)))
def spec_l02Is.f (k : Nat) (a0_0 : Int) (l0_1 : List Int) : Option (Bool) := spec_l02Is.l0 k (l0_1.length : Int) 0 a0_0 l0_1
set_option maxHeartbeats 8000000 in
set_option maxRecDepth 100000 in
theorem spec_l02Is.calls (k : Nat) (a0_0 : Int) (A0_1 : Option Addr) (c0_1 : Nat) (l0_1 : List Int) (r : Bool) (w : World) (hr0_1 : Kd.C (Kd.int .i64) w A0_1 l0_1.length l0_1) (hc0_1 : l0_1.length ≤ c0_1) (h : spec_l02Is.f k a0_0 l0_1 = some r) :
  Calls Tryd.prog 45 #[.agg #[.int .i64 a0_0, .slice A0_1 l0_1.length c0_1]] w fun e w' => e = .returned (.bool r) ∧ Below w.heap.size w w' := by
 have hu26 := Tryd.underlying26; have HR0_1 := am_ hr0_1; have HC0_1 := am_ hc0_1; clear hr0_1 hc0_1; have HB := am_ (Below.refl w.heap.size w)
 have H : (spec_l02Is.l0 k (l0_1.length : Int) 0 a0_0 l0_1) = some r := h
 clear h
 have H' := am_ H
 clear H
 go_enter Tryd.func45, Tryd.ntmps45
 go_wp2_with (first | ((with_reducible refine gate_dst (N := 1) rfl ?_); refine bx_ 1 #[.int .i64 a0_0, .slice A0_1 l0_1.length c0_1] 26 ?_; intro gb289 hg w2 hbox hb; obtain ⟨BK289, GW289, GE289⟩ := nb_ hbox hg HB; replace HB := bs_ HB hb; clear hb hbox hg; obtain ⟨hcz3_0, hcz3_1, hfz3_0, hfz3_1⟩ := ck2_ BK289))
 go_loopg [4] k (fun kq v4 w' => ∃ (x4_1 : Int), v4 = .int .i64 x4_1 ∧ Aside0 (spec_l02Is.l0 kq (l0_1.length : Int) x4_1 a0_0 l0_1 = some r) ∧ Aside0 (kq ≤ k) ∧ Aside0 (w'.heap[gb289]? = some (.cells #[.int .i64 a0_0, (.slice A0_1 l0_1.length c0_1)] 26 (0, 0))) ∧ Aside0 (Below w.heap.size w w'))
 case atStart => exact ⟨(0), (by first | rfl | (simp; done) | (simp [*]; done)), H', ⟨Nat.le_refl _⟩, ⟨bk_ BK289⟩, ⟨bl_ HB⟩⟩
 case round =>
  clear H'; try clear p2; try clear hcz3_0; try clear hcz3_1; try clear hfz3_0; try clear hfz3_1
  obtain ⟨x4_1, rfl, HA, HK1, BK289, HB⟩ := hrel
  cases gk with
  | zero => exact absurd HA.out (by simp [spec_l02Is.l0])
  | succ k1 =>
   have H := HA.out; clear HA
   simp only [spec_l02Is.l0] at H
   by_cases c4 : x4_1 < (l0_1.length : Int)
   ·rw [if_pos c4] at H
    have c4b0 : decide (x4_1 < (l0_1.length : Int)) = true := decide_eq_true c4
    clear c4
    by_cases c5 : 0 ≤ x4_1
    ·rw [if_pos c5] at H
     have c5b0 : decide (0 ≤ x4_1) = true := decide_eq_true c5
     clear c5
     by_cases c6 : x4_1 < (l0_1.length : Int)
     ·rw [if_pos c6] at H
      have c6b0 : decide (x4_1 < (l0_1.length : Int)) = true := decide_eq_true c6
      clear c6
      replace H := Option.bind_eq_some_iff.mp H
      obtain ⟨t291, A70, H⟩ := H
      try dsimp only at H
      have A7 := am_ A70; clear A70
      by_cases c8 : t291 = true
      ·subst c8
       rw [if_pos rfl] at H
       have H' := am_ H
       clear H
       obtain ⟨hcz9_0, hcz9_1, hfz9_0, hfz9_1⟩ := ck2_ BK289
       have p290 : 0 ≤ (x4_1 : Int) := of_decide_eq_true (by first | (with_reducible assumption) | assumption)
       have q290 : x4_1 < (l0_1.length : Int) := of_decide_eq_true (by first | (with_reducible assumption) | assumption)
       obtain ⟨ad290, e290, hx290_0⟩ := Kd.at_int HR0_1.out x4_1 p290 q290
       cases e290
       replace hx290_0 := (HB.out.cell (World.block_lt_of_cell? w _ hx290_0)).trans hx290_0
       replace p290 := eq_true p290
       replace q290 := eq_true q290
       go_wp2_with (first | ((with_reducible refine gate_callee (f := 75) rfl ?_); refine goesL_ (some 18) rfl rfl Tryd.func75 (by kernel_rfl) rfl #[.int .i64 (rd l0_1 x4_1), .int .i64 0, .int .i64 16777215] rfl ma_ ?_; (with_reducible refine (spec_l01In.calls (rd l0_1 x4_1) 0 16777215 true _ A7.out).mono ?_); rintro e w' ⟨rfl, ⟨nd, rfl⟩⟩; refine ⟨_, rfl, ?_⟩))
       go_roundg k1
       case measure => have := HK1.out; omega
       case rel => exact ⟨(wrap64 (x4_1 + 1)), (by first | rfl | (simp; done) | (simp [*]; done)), H', ⟨by have := HK1.out; omega⟩, ⟨bk_ BK289⟩, ⟨bl_ HB⟩⟩
      ·replace c8 := Bool.eq_false_iff.mpr c8
       subst c8
       rw [if_neg (show ¬ (false = true) by decide)] at H; obtain rfl := Option.some.inj H
       obtain ⟨hcz10_0, hcz10_1, hfz10_0, hfz10_1⟩ := ck2_ BK289
       have p290 : 0 ≤ (x4_1 : Int) := of_decide_eq_true (by first | (with_reducible assumption) | assumption)
       have q290 : x4_1 < (l0_1.length : Int) := of_decide_eq_true (by first | (with_reducible assumption) | assumption)
       obtain ⟨ad290, e290, hx290_0⟩ := Kd.at_int HR0_1.out x4_1 p290 q290
       cases e290
       replace hx290_0 := (HB.out.cell (World.block_lt_of_cell? w _ hx290_0)).trans hx290_0
       replace p290 := eq_true p290
       replace q290 := eq_true q290
       go_wp2_with (first | ((with_reducible refine gate_callee (f := 75) rfl ?_); refine goesL_ (some 18) rfl rfl Tryd.func75 (by kernel_rfl) rfl #[.int .i64 (rd l0_1 x4_1), .int .i64 0, .int .i64 16777215] rfl ma_ ?_; (with_reducible refine (spec_l01In.calls (rd l0_1 x4_1) 0 16777215 false _ A7.out).mono ?_); rintro e w' ⟨rfl, ⟨nd, rfl⟩⟩; refine ⟨_, rfl, ?_⟩))
       go_ret
       exact ⟨by first | rfl | (simp [errW_none, errW_some] <;> rfl) | (simp [*, errW_none, errW_some] <;> rfl), bl_ HB⟩
     ·rw [if_neg c6] at H
      exact absurd H (by simp)
    ·rw [if_neg c5] at H
     exact absurd H (by simp)
   ·rw [if_neg c4] at H
    have c4b0 : decide (x4_1 < (l0_1.length : Int)) = false := decide_eq_false c4
    clear c4
    by_cases c11 : (l0_1.length : Int) = 0
    ·rw [if_pos c11] at H
     have c11b0 : ((l0_1.length : Int) == 0) = true := beq_iff_eq.mpr c11
     have c11b1 : ((l0_1.length : Int) != 0) = false := bne_eq_false_iff_eq.mpr c11
     clear c11; obtain rfl := Option.some.inj H
     obtain ⟨hcz12_0, hcz12_1, hfz12_0, hfz12_1⟩ := ck2_ BK289
     go_wp2
     go_ret
     exact ⟨by first | rfl | (simp [errW_none, errW_some] <;> rfl) | (simp [*, errW_none, errW_some] <;> rfl), bl_ HB⟩
    ·rw [if_neg c11] at H
     have c11b0 : ((l0_1.length : Int) == 0) = false := beq_eq_false_iff_ne.mpr c11
     have c11b1 : ((l0_1.length : Int) != 0) = true := bne_iff_ne.mpr c11
     have c11b2 : ¬ (l0_1 = []) := fun h_ => c11 (by rw [h_]; rfl)
     by_cases c13 : (l0_1.length : Int) ≤ 200
     ·rw [if_pos c13] at H
      have c13b0 : decide ((l0_1.length : Int) ≤ 200) = true := decide_eq_true c13
      have c13b1 : decide (l0_1.length ≤ 200) = true := decide_eq_true (by omega)
      clear c13
      obtain ⟨ji14, hji14⟩ : ∃ j_ : Int, (wrap64 ((l0_1.length : Int) - 1)) = j_ := ⟨_, rfl⟩
      replace H : (if 0 ≤ (ji14) then (if (ji14) < (l0_1.length : Int) then (if (rd l0_1 (ji14)) = 0 then (some false) else (if a0_0 = 1 then (some true) else (some (a0_0 == (-1))))) else (none)) else (none)) = some r := by first | (rw [hji14] at H; exact H) | (simp only [hji14] at H ⊢; exact H)
      have hji14w : (IntKind.i64.wrap ((l0_1.length : Int) - 1)) = ji14 := (i64_w _).trans hji14
      by_cases c15 : 0 ≤ (ji14)
      ·rw [if_pos c15] at H
       have c15b0 : decide (0 ≤ (ji14)) = true := decide_eq_true c15
       clear c15
       by_cases c16 : (ji14) < (l0_1.length : Int)
       ·rw [if_pos c16] at H
        have c16b0 : decide ((ji14) < (l0_1.length : Int)) = true := decide_eq_true c16
        clear c16
        by_cases c17 : (rd l0_1 (ji14)) = 0
        ·rw [if_pos c17] at H
         have c17b0 : ((rd l0_1 (ji14)) == 0) = true := beq_iff_eq.mpr c17
         have c17b1 : ((rd l0_1 (ji14)) != 0) = false := bne_eq_false_iff_eq.mpr c17
         clear c17; obtain rfl := Option.some.inj H
         obtain ⟨hcz18_0, hcz18_1, hfz18_0, hfz18_1⟩ := ck2_ BK289
         have p292 : 0 ≤ ((ji14) : Int) := of_decide_eq_true (by first | (with_reducible assumption) | assumption)
         have q292 : (ji14) < (l0_1.length : Int) := of_decide_eq_true (by first | (with_reducible assumption) | assumption)
         obtain ⟨ad292, e292, hx292_0⟩ := Kd.at_int HR0_1.out (ji14) p292 q292
         cases e292
         replace hx292_0 := (HB.out.cell (World.block_lt_of_cell? w _ hx292_0)).trans hx292_0
         replace p292 := eq_true p292
         replace q292 := eq_true q292
         go_wp2
         go_ret
         exact ⟨by first | rfl | (simp [errW_none, errW_some] <;> rfl) | (simp only [← hji14]; first | rfl | (simp [errW_none, errW_some] <;> rfl)) | (simp [*, errW_none, errW_some] <;> rfl), bl_ HB⟩
        ·rw [if_neg c17] at H
         have c17b0 : ((rd l0_1 (ji14)) == 0) = false := beq_eq_false_iff_ne.mpr c17
         have c17b1 : ((rd l0_1 (ji14)) != 0) = true := bne_iff_ne.mpr c17
         by_cases c19 : a0_0 = 1
         ·rw [if_pos c19] at H
          have c19b0 : (a0_0 == 1) = true := beq_iff_eq.mpr c19
          have c19b1 : (a0_0 != 1) = false := bne_eq_false_iff_eq.mpr c19
          clear c19; obtain rfl := Option.some.inj H
          obtain ⟨hcz20_0, hcz20_1, hfz20_0, hfz20_1⟩ := ck2_ BK289
          have p292 : 0 ≤ ((ji14) : Int) := of_decide_eq_true (by first | (with_reducible assumption) | assumption)
          have q292 : (ji14) < (l0_1.length : Int) := of_decide_eq_true (by first | (with_reducible assumption) | assumption)
          obtain ⟨ad292, e292, hx292_0⟩ := Kd.at_int HR0_1.out (ji14) p292 q292
          cases e292
          replace hx292_0 := (HB.out.cell (World.block_lt_of_cell? w _ hx292_0)).trans hx292_0
          replace p292 := eq_true p292
          replace q292 := eq_true q292
          go_wp2
          go_ret
          exact ⟨by first | rfl | (simp [errW_none, errW_some] <;> rfl) | (simp only [← hji14]; first | rfl | (simp [errW_none, errW_some] <;> rfl)) | (simp [*, errW_none, errW_some] <;> rfl), bl_ HB⟩
         ·rw [if_neg c19] at H
          have c19b0 : (a0_0 == 1) = false := beq_eq_false_iff_ne.mpr c19
          have c19b1 : (a0_0 != 1) = true := bne_iff_ne.mpr c19
          obtain rfl := Option.some.inj H
          obtain ⟨hcz21_0, hcz21_1, hfz21_0, hfz21_1⟩ := ck2_ BK289
          have p292 : 0 ≤ ((ji14) : Int) := of_decide_eq_true (by first | (with_reducible assumption) | assumption)
          have q292 : (ji14) < (l0_1.length : Int) := of_decide_eq_true (by first | (with_reducible assumption) | assumption)
          obtain ⟨ad292, e292, hx292_0⟩ := Kd.at_int HR0_1.out (ji14) p292 q292
          cases e292
          replace hx292_0 := (HB.out.cell (World.block_lt_of_cell? w _ hx292_0)).trans hx292_0
          replace p292 := eq_true p292
          replace q292 := eq_true q292
          go_wp2
          go_ret
          exact ⟨by first | rfl | (simp [errW_none, errW_some] <;> rfl) | (simp only [← hji14]; first | rfl | (simp [errW_none, errW_some] <;> rfl)) | (simp [*, errW_none, errW_some] <;> rfl), bl_ HB⟩
       ·rw [if_neg c16] at H
        exact absurd H (by simp)
      ·rw [if_neg c15] at H
       exact absurd H (by simp)
     ·rw [if_neg c13] at H
      have c13b0 : decide ((l0_1.length : Int) ≤ 200) = false := decide_eq_false c13
      have c13b1 : decide (l0_1.length ≤ 200) = false := decide_eq_false (by omega)
      clear c13; obtain rfl := Option.some.inj H
      go_wp2
      go_ret
      exact ⟨by first | rfl | (simp [errW_none, errW_some] <;> rfl) | (simp [*, errW_none, errW_some] <;> rfl), bl_ HB⟩
def spec_l02Both.f (k : Nat) (a0_0 : Int) (l0_1 : List Int) (a1_0 : Int) (l1_1 : List Int) : Option (Int) := (spec_l02Is.f k a0_0 l0_1).bind fun t295 => (if t295 = true then ((spec_l02Is.f k a1_0 l1_1).bind fun t296 => (if t296 = true then (some 0) else (some 1))) else (some 1))
set_option maxHeartbeats 8000000 in
set_option maxRecDepth 100000 in
theorem spec_l02Both.calls (k : Nat) (a0_0 : Int) (A0_1 : Option Addr) (c0_1 : Nat) (l0_1 : List Int) (a1_0 : Int) (A1_1 : Option Addr) (c1_1 : Nat) (l1_1 : List Int) (r : Int) (w : World) (hr0_1 : Kd.C (Kd.int .i64) w A0_1 l0_1.length l0_1) (hc0_1 : l0_1.length ≤ c0_1) (hr1_1 : Kd.C (Kd.int .i64) w A1_1 l1_1.length l1_1) (hc1_1 : l1_1.length ≤ c1_1) (h : spec_l02Both.f k a0_0 l0_1 a1_0 l1_1 = some r) :
  Calls Tryd.prog 41 #[.agg #[.int .i64 a0_0, .slice A0_1 l0_1.length c0_1], .agg #[.int .i64 a1_0, .slice A1_1 l1_1.length c1_1]] w fun e w' => e = .returned (.int .i64 r) ∧ Below w.heap.size w w' := by
 have hu26 := Tryd.underlying26; have HR0_1 := am_ hr0_1; have HC0_1 := am_ hc0_1; clear hr0_1 hc0_1; have HR1_1 := am_ hr1_1; have HC1_1 := am_ hc1_1; clear hr1_1 hc1_1; have HB := am_ (Below.refl w.heap.size w)
 have H : ((spec_l02Is.f k a0_0 l0_1).bind fun t295 => (if t295 = true then ((spec_l02Is.f k a1_0 l1_1).bind fun t296 => (if t296 = true then (some 0) else (some 1))) else (some 1))) = some r := h
 clear h
 replace H := Option.bind_eq_some_iff.mp H
 obtain ⟨t295, A30, H⟩ := H
 try dsimp only at H
 have A3 := am_ A30; clear A30
 by_cases c4 : t295 = true
 ·subst c4
  rw [if_pos rfl] at H
  replace H := Option.bind_eq_some_iff.mp H
  obtain ⟨t296, A50, H⟩ := H
  try dsimp only at H
  have A5 := am_ A50; clear A50
  by_cases c6 : t296 = true
  ·subst c6
   rw [if_pos rfl] at H; obtain rfl := Option.some.inj H
   go_enter Tryd.func41, Tryd.ntmps41
   go_wp2_with (first | ((with_reducible refine gate_dst (N := 2) rfl ?_); refine bx_ 2 #[.int .i64 a0_0, .slice A0_1 l0_1.length c0_1] 26 ?_; intro gb293 hg w7 hbox hb; obtain ⟨BK293, GW293, GE293⟩ := nb_ hbox hg HB; replace HB := bs_ HB hb; clear hb hbox hg) | ((with_reducible refine gate_dst (N := 3) rfl ?_); refine bx_ 3 #[.int .i64 a1_0, .slice A1_1 l1_1.length c1_1] 26 ?_; intro gb294 hg w8 hbox hb; obtain ⟨BK294, GW294, GE294⟩ := nb_ hbox hg HB; obtain ⟨NB293_294, NB294_293⟩ := nn_ hg BK293; replace BK293 := bb_ BK293 hb; replace HB := bs_ HB hb; clear hb hbox hg; have hnb9 := NB293_294.out; have hnc9 := NB294_293.out; obtain ⟨hcz10_0, hcz10_1, hfz10_0, hfz10_1⟩ := ck2_ BK293) | ((with_reducible refine gate_callee (f := 45) rfl ?_); refine goesL_ (some 6) rfl rfl Tryd.func45 (by kernel_rfl) rfl #[.agg #[.int .i64 a0_0, .slice A0_1 l0_1.length c0_1]] rfl ma_ ?_; (with_reducible refine (spec_l02Is.calls k a0_0 _ _ l0_1 true _ ?side1 ?side2 A3.out).mono ?_); (case side1 => exact cb_ HR0_1 HB); (case side2 => exact HC0_1.out); rintro e w11 ⟨rfl, hb⟩; refine ⟨_, rfl, ?_⟩; replace BK293 := bb_ BK293 hb; replace BK294 := bb_ BK294 hb; replace HB := bs_ HB hb; (try clear hb); obtain ⟨hcz12_0, hcz12_1, hfz12_0, hfz12_1⟩ := ck2_ BK294) | (go_at_call 45; (with_reducible refine (spec_l02Is.calls k a1_0 _ _ l1_1 true _ ?side1 ?side2 A5.out).mono ?_); (case side1 => exact cb_ HR1_1 HB); (case side2 => exact HC1_1.out); rintro e w13 ⟨rfl, hb⟩; replace BK293 := bb_ BK293 hb; replace BK294 := bb_ BK294 hb; replace HB := bs_ HB hb; (try clear hb)))
   go_ret
   exact ⟨by first | rfl | (simp [errW_none, errW_some] <;> rfl) | (simp [*, errW_none, errW_some] <;> rfl), bl_ HB⟩
  ·replace c6 := Bool.eq_false_iff.mpr c6
   subst c6
   rw [if_neg (show ¬ (false = true) by decide)] at H; obtain rfl := Option.some.inj H
   go_enter Tryd.func41, Tryd.ntmps41
   go_wp2_with (first | ((with_reducible refine gate_dst (N := 2) rfl ?_); refine bx_ 2 #[.int .i64 a0_0, .slice A0_1 l0_1.length c0_1] 26 ?_; intro gb293 hg w14 hbox hb; obtain ⟨BK293, GW293, GE293⟩ := nb_ hbox hg HB; replace HB := bs_ HB hb; clear hb hbox hg) | ((with_reducible refine gate_dst (N := 3) rfl ?_); refine bx_ 3 #[.int .i64 a1_0, .slice A1_1 l1_1.length c1_1] 26 ?_; intro gb294 hg w15 hbox hb; obtain ⟨BK294, GW294, GE294⟩ := nb_ hbox hg HB; obtain ⟨NB293_294, NB294_293⟩ := nn_ hg BK293; replace BK293 := bb_ BK293 hb; replace HB := bs_ HB hb; clear hb hbox hg; have hnb16 := NB293_294.out; have hnc16 := NB294_293.out; obtain ⟨hcz17_0, hcz17_1, hfz17_0, hfz17_1⟩ := ck2_ BK293) | ((with_reducible refine gate_callee (f := 45) rfl ?_); refine goesL_ (some 6) rfl rfl Tryd.func45 (by kernel_rfl) rfl #[.agg #[.int .i64 a0_0, .slice A0_1 l0_1.length c0_1]] rfl ma_ ?_; (with_reducible refine (spec_l02Is.calls k a0_0 _ _ l0_1 true _ ?side1 ?side2 A3.out).mono ?_); (case side1 => exact cb_ HR0_1 HB); (case side2 => exact HC0_1.out); rintro e w18 ⟨rfl, hb⟩; refine ⟨_, rfl, ?_⟩; replace BK293 := bb_ BK293 hb; replace BK294 := bb_ BK294 hb; replace HB := bs_ HB hb; (try clear hb); obtain ⟨hcz19_0, hcz19_1, hfz19_0, hfz19_1⟩ := ck2_ BK294) | (go_at_call 45; (with_reducible refine (spec_l02Is.calls k a1_0 _ _ l1_1 false _ ?side1 ?side2 A5.out).mono ?_); (case side1 => exact cb_ HR1_1 HB); (case side2 => exact HC1_1.out); rintro e w20 ⟨rfl, hb⟩; replace BK293 := bb_ BK293 hb; replace BK294 := bb_ BK294 hb; replace HB := bs_ HB hb; (try clear hb)))
   go_ret
   exact ⟨by first | rfl | (simp [errW_none, errW_some] <;> rfl) | (simp [*, errW_none, errW_some] <;> rfl), bl_ HB⟩
 ·replace c4 := Bool.eq_false_iff.mpr c4
  subst c4
  rw [if_neg (show ¬ (false = true) by decide)] at H; obtain rfl := Option.some.inj H
  go_enter Tryd.func41, Tryd.ntmps41
  go_wp2_with (first | ((with_reducible refine gate_dst (N := 2) rfl ?_); refine bx_ 2 #[.int .i64 a0_0, .slice A0_1 l0_1.length c0_1] 26 ?_; intro gb293 hg w21 hbox hb; obtain ⟨BK293, GW293, GE293⟩ := nb_ hbox hg HB; replace HB := bs_ HB hb; clear hb hbox hg) | ((with_reducible refine gate_dst (N := 3) rfl ?_); refine bx_ 3 #[.int .i64 a1_0, .slice A1_1 l1_1.length c1_1] 26 ?_; intro gb294 hg w22 hbox hb; obtain ⟨BK294, GW294, GE294⟩ := nb_ hbox hg HB; obtain ⟨NB293_294, NB294_293⟩ := nn_ hg BK293; replace BK293 := bb_ BK293 hb; replace HB := bs_ HB hb; clear hb hbox hg; have hnb23 := NB293_294.out; have hnc23 := NB294_293.out; obtain ⟨hcz24_0, hcz24_1, hfz24_0, hfz24_1⟩ := ck2_ BK293) | ((with_reducible refine gate_callee (f := 45) rfl ?_); refine goesL_ (some 6) rfl rfl Tryd.func45 (by kernel_rfl) rfl #[.agg #[.int .i64 a0_0, .slice A0_1 l0_1.length c0_1]] rfl ma_ ?_; (with_reducible refine (spec_l02Is.calls k a0_0 _ _ l0_1 false _ ?side1 ?side2 A3.out).mono ?_); (case side1 => exact cb_ HR0_1 HB); (case side2 => exact HC0_1.out); rintro e w25 ⟨rfl, hb⟩; refine ⟨_, rfl, ?_⟩; replace BK293 := bb_ BK293 hb; replace BK294 := bb_ BK294 hb; replace HB := bs_ HB hb; (try clear hb)))
  go_ret
  exact ⟨by first | rfl | (simp [errW_none, errW_some] <;> rfl) | (simp [*, errW_none, errW_some] <;> rfl), bl_ HB⟩
end Go.Proofs.YtlkomiiijhphnaaDoor.X
namespace Go.Proofs.YtlkomiiijhphnaaDoor.X
open Go.RowKit Go.Proofs.YtlkomiiijhphnaaDoorW.PrintWords Go.Proofs.YtlkomiiijhphnaaDoorW.PrintLast Go.Proofs.YtlkomiiijhphnaaDoorW.PrintMore
attribute [local go_sem] max2_int min2_int max_two min_two max_three min_three max_four min_four   -- for this text's walks alone
set_option linter.unusedVariables false
set_option linter.unusedSimpArgs false
def spec_l02Length.l0 : Nat → Int → Int → Option (Int)
 | 0, _, _ => none
 | k + 1, x4, x5 => if x5 > 0 then (spec_l02Length.l0 k (wrap64 (x4 + 1)) (wrap64 (Int.tdiv x5 2))) else (some x4)
def spec_l02Length.f (k : Nat) (a0_0 : Int) (l0_1 : List Int) : Option (Int) := if (l0_1.length : Int) = 0 then (some 0) else (if 0 ≤ (wrap64 ((l0_1.length : Int) - 1)) then (if (wrap64 ((l0_1.length : Int) - 1)) < (l0_1.length : Int) then (spec_l02Length.l0 k (wrap64 ((wrap64 ((l0_1.length : Int) - 1)) * 24)) (rd l0_1 (wrap64 ((l0_1.length : Int) - 1)))) else (none)) else (none))
set_option maxHeartbeats 8000000 in
set_option maxRecDepth 100000 in
theorem spec_l02Length.calls (k : Nat) (a0_0 : Int) (A0_1 : Option Addr) (c0_1 : Nat) (l0_1 : List Int) (r : Int) (w : World) (hr0_1 : Kd.C (Kd.int .i64) w A0_1 l0_1.length l0_1) (hc0_1 : l0_1.length ≤ c0_1) (h : spec_l02Length.f k a0_0 l0_1 = some r) :
  Calls Tryd.prog 88 #[.agg #[.int .i64 a0_0, .slice A0_1 l0_1.length c0_1]] w fun e w' => e = .returned (.int .i64 r) ∧ Below w.heap.size w w' := by
 have hu26 := Tryd.underlying26
 have HR0_1 := Aside0.mk hr0_1
 have HC0_1 := Aside0.mk hc0_1
 clear hr0_1 hc0_1
 have HB := Aside0.mk (Below.refl w.heap.size w)
 have H : (if (l0_1.length : Int) = 0 then (some 0) else (if 0 ≤ (wrap64 ((l0_1.length : Int) - 1)) then (if (wrap64 ((l0_1.length : Int) - 1)) < (l0_1.length : Int) then (spec_l02Length.l0 k (wrap64 ((wrap64 ((l0_1.length : Int) - 1)) * 24)) (rd l0_1 (wrap64 ((l0_1.length : Int) - 1)))) else (none)) else (none))) = some r := h
 clear h
 by_cases c2 : (l0_1.length : Int) = 0
 ·rw [if_pos c2] at H
  have c2b0 : ((l0_1.length : Int) == 0) = true := beq_iff_eq.mpr c2
  have c2b1 : ((l0_1.length : Int) != 0) = false := bne_eq_false_iff_eq.mpr c2
  clear c2
  obtain rfl := Option.some.inj H
  go_enter Tryd.func88, Tryd.ntmps88
  go_wp2_with (first | ((with_reducible refine gate_dst (N := 1) rfl ?_); refine box_event ?hg (N := 1) ?hd (cs := #[.int .i64 a0_0, .slice A0_1 l0_1.length c0_1]) (t := 26) ?hr ?_; (case hd => rfl); (case hg => rfl); (case hr => first | (go_simp; done) | (go_simp; rfl)); intro gb297 hg w3 hbox hb; have n0_ := Aside0.mk (below_step (by repeat (first | (with_reducible first | exact HB.out | apply below_alloc | apply pw_below_drewN | apply below_drew1) | exact HB.out)) hb); have n1_ := Aside0.mk (hbox); have n2_ := Aside0.mk ((by rw [hg]; exact (below_size (by repeat (first | (with_reducible first | exact HB.out | apply below_alloc | apply pw_below_drewN | apply below_drew1) | exact HB.out))) : w.heap.size ≤ gb297)); have n3_ := Aside0.mk ((by rw [hg]; exact (below_size (by repeat (first | (with_reducible first | exact HB.out | apply below_alloc | apply pw_below_drewN | apply below_drew1) | exact HB.out))) : w.heap.size ≤ gb297)); clear HB; have HB := n0_; have BK297 := n1_; have GW297 := n2_; have GE297 := n3_; clear n0_ n1_ n2_ n3_; clear hb hbox hg; have hcz4_0 : w3.cell? ⟨gb297, 0, none⟩ = some (.int .i64 a0_0) := (blk_cell BK297.out 0).trans rfl; have hcz4_1 : w3.cell? ⟨gb297, 1, none⟩ = some (.slice A0_1 l0_1.length c0_1) := (blk_cell BK297.out 1).trans rfl; have hfz4_0 := blk_frozen BK297.out 0; have hfz4_1 := blk_frozen BK297.out 1))
  go_ret
  exact ⟨by first | rfl | (simp [errW_none, errW_some] <;> rfl) | (simp [*, errW_none, errW_some] <;> rfl), by repeat (first | (with_reducible first | exact HB.out | apply below_alloc | apply pw_below_drewN | apply below_drew1 | refine below_set ?_ GE297.out) | exact HB.out)⟩
 ·rw [if_neg c2] at H
  have c2b0 : ((l0_1.length : Int) == 0) = false := beq_eq_false_iff_ne.mpr c2
  have c2b1 : ((l0_1.length : Int) != 0) = true := bne_iff_ne.mpr c2
  have c2b2 : ¬ (l0_1 = []) := fun h_ => c2 (by rw [h_]; rfl)
  obtain ⟨ji5, hji5⟩ : ∃ j_ : Int, (wrap64 ((l0_1.length : Int) - 1)) = j_ := ⟨_, rfl⟩
  replace H : (if 0 ≤ (ji5) then (if (ji5) < (l0_1.length : Int) then (spec_l02Length.l0 k (wrap64 ((ji5) * 24)) (rd l0_1 (ji5))) else (none)) else (none)) = some r := by first | (rw [hji5] at H; exact H) | (simp only [hji5] at H ⊢; exact H)
  have hji5w : (IntKind.i64.wrap ((l0_1.length : Int) - 1)) = ji5 := (i64_w _).trans hji5
  by_cases c6 : 0 ≤ (ji5)
  ·rw [if_pos c6] at H
   have c6b0 : decide (0 ≤ (ji5)) = true := decide_eq_true c6
   clear c6
   by_cases c7 : (ji5) < (l0_1.length : Int)
   ·rw [if_pos c7] at H
    have c7b0 : decide ((ji5) < (l0_1.length : Int)) = true := decide_eq_true c7
    clear c7
    have H' := Aside0.mk H
    clear H
    go_enter Tryd.func88, Tryd.ntmps88
    go_wp2_with (first | ((with_reducible refine gate_dst (N := 1) rfl ?_); refine box_event ?hg (N := 1) ?hd (cs := #[.int .i64 a0_0, .slice A0_1 l0_1.length c0_1]) (t := 26) ?hr ?_; (case hd => rfl); (case hg => rfl); (case hr => first | (go_simp; done) | (go_simp; rfl)); intro gb297 hg w8 hbox hb; have n0_ := Aside0.mk (below_step (by repeat (first | (with_reducible first | exact HB.out | apply below_alloc | apply pw_below_drewN | apply below_drew1) | exact HB.out)) hb); have n1_ := Aside0.mk (hbox); have n2_ := Aside0.mk ((by rw [hg]; exact (below_size (by repeat (first | (with_reducible first | exact HB.out | apply below_alloc | apply pw_below_drewN | apply below_drew1) | exact HB.out))) : w.heap.size ≤ gb297)); have n3_ := Aside0.mk ((by rw [hg]; exact (below_size (by repeat (first | (with_reducible first | exact HB.out | apply below_alloc | apply pw_below_drewN | apply below_drew1) | exact HB.out))) : w.heap.size ≤ gb297)); clear HB; have HB := n0_; have BK297 := n1_; have GW297 := n2_; have GE297 := n3_; clear n0_ n1_ n2_ n3_; clear hb hbox hg; have hcz9_0 : w8.cell? ⟨gb297, 0, none⟩ = some (.int .i64 a0_0) := (blk_cell BK297.out 0).trans rfl; have hcz9_1 : w8.cell? ⟨gb297, 1, none⟩ = some (.slice A0_1 l0_1.length c0_1) := (blk_cell BK297.out 1).trans rfl; have hfz9_0 := blk_frozen BK297.out 0; have hfz9_1 := blk_frozen BK297.out 1; have p298 : 0 ≤ ((ji5) : Int) := of_decide_eq_true (by first | (with_reducible assumption) | assumption); have q298 : (ji5) < (l0_1.length : Int) := of_decide_eq_true (by first | (with_reducible assumption) | assumption); obtain ⟨ad298, e298, hx298_0⟩ := Kd.at_int HR0_1.out (ji5) p298 q298; cases e298; replace hx298_0 := (HB.out.cell (World.block_lt_of_cell? w _ hx298_0)).trans hx298_0; replace p298 := eq_true p298; replace q298 := eq_true q298))
    go_loopg [4, 5] k (fun kq v4 v5 w' => ∃ (x4_1 : Int) (x5_1 : Int), v4 = .int .i64 x4_1 ∧ v5 = .int .i64 x5_1 ∧ Aside0 (spec_l02Length.l0 kq x4_1 x5_1 = some r) ∧ Aside0 (kq ≤ k) ∧ Aside0 (w'.heap[gb297]? = some (.cells #[.int .i64 a0_0, (.slice (some ad298) l0_1.length c0_1)] 26 (0, 0))) ∧ Aside0 (Below w.heap.size w w'))
    case atStart => exact ⟨(wrap64 ((ji5) * 24)), (rd l0_1 (ji5)), (by first | rfl | (simp; done) | (simp only [← hji5] <;> (first | rfl | simp)) | (simp [*]; done)), (by first | rfl | (simp; done) | (simp only [← hji5] <;> (first | rfl | simp)) | (simp [*]; done)), H', ⟨Nat.le_refl _⟩, ⟨by (with_reducible repeat (first | refine blk_drewN ?_ _ | refine blk_drew ?_ | refine blk_alloc ?_ _)); exact BK297.out⟩, ⟨by repeat (first | (with_reducible first | exact HB.out | apply below_alloc | apply pw_below_drewN | apply below_drew1 | refine below_set ?_ GE297.out) | exact HB.out)⟩⟩
    case round =>
     clear H'
     try clear c2
     try clear c2b0
     try clear c2b1
     try clear c2b2
     try clear p2
     try clear q2
     try clear hx2
     try clear c6
     try clear c6b0
     try clear p6
     try clear c7
     try clear c7b0
     try clear c8
     try clear hcz4_0
     try clear hcz4_1
     try clear hcz9_0
     try clear hcz9_1
     try clear hfz4_0
     try clear hfz4_1
     try clear hfz9_0
     try clear hfz9_1
     try clear hx298_0
     try clear p298
     try clear q298
     obtain ⟨x4_1, x5_1, rfl, rfl, HA, HK1, BK297, HB⟩ := hrel
     cases gk with
     | zero => exact absurd HA.out (by simp [spec_l02Length.l0])
     | succ k1 =>
      have H := HA.out
      clear HA
      simp only [spec_l02Length.l0] at H
      by_cases c10 : x5_1 > 0
      ·rw [if_pos c10] at H
       have c10b0 : decide (0 < x5_1) = true := decide_eq_true c10
       clear c10
       have H' := Aside0.mk H
       clear H
       go_wp2
       go_roundg k1
       case measure => have := HK1.out; omega
       case rel => exact ⟨(wrap64 (x4_1 + 1)), (wrap64 (Int.tdiv x5_1 2)), (by first | rfl | (simp; done) | (simp [*]; done)), (by first | rfl | (simp; done) | (simp [*]; done)), H', ⟨by have := HK1.out; omega⟩, ⟨by (with_reducible repeat (first | refine blk_drewN ?_ _ | refine blk_drew ?_ | refine blk_alloc ?_ _)); exact BK297.out⟩, ⟨by repeat (first | (with_reducible first | exact HB.out | apply below_alloc | apply pw_below_drewN | apply below_drew1 | refine below_set ?_ GE297.out) | exact HB.out)⟩⟩
      ·rw [if_neg c10] at H
       have c10b0 : decide (0 < x5_1) = false := decide_eq_false c10
       clear c10
       obtain rfl := Option.some.inj H
       go_wp2
       go_ret
       exact ⟨by first | rfl | (simp [errW_none, errW_some] <;> rfl) | (simp only [← hji5]; first | rfl | (simp [errW_none, errW_some] <;> rfl)) | (simp [*, errW_none, errW_some] <;> rfl), by repeat (first | (with_reducible first | exact HB.out | apply below_alloc | apply pw_below_drewN | apply below_drew1 | refine below_set ?_ GE297.out) | exact HB.out)⟩
   ·rw [if_neg c7] at H
    exact absurd H (by simp)
  ·rw [if_neg c6] at H
   exact absurd H (by simp)
def spec_l02Bit.f (a0_0 : Int) (l0_1 : List Int) (a1 : Int) : Option (Int) := if (wrap64 (Int.tdiv a1 24)) ≥ (l0_1.length : Int) then (some 0) else (if 0 ≤ (wrap64 (Int.tdiv a1 24)) then (if (wrap64 (Int.tdiv a1 24)) < (l0_1.length : Int) then (if 0 ≤ (IntKind.u64.wrap (Int.tmod a1 24)) then (some (Go.bits .and .i64 (shr .i64 (rd l0_1 (wrap64 (Int.tdiv a1 24))) (IntKind.u64.wrap (Int.tmod a1 24))) 1)) else (none)) else (none)) else (none))
set_option maxHeartbeats 8000000 in
set_option maxRecDepth 100000 in
theorem spec_l02Bit.calls (a0_0 : Int) (A0_1 : Option Addr) (c0_1 : Nat) (l0_1 : List Int) (a1 : Int) (r : Int) (w : World) (hr0_1 : Kd.C (Kd.int .i64) w A0_1 l0_1.length l0_1) (hc0_1 : l0_1.length ≤ c0_1) (h : spec_l02Bit.f a0_0 l0_1 a1 = some r) :
  Calls Tryd.prog 89 #[.agg #[.int .i64 a0_0, .slice A0_1 l0_1.length c0_1], .int .i64 a1] w fun e w' => e = .returned (.int .i64 r) ∧ Below w.heap.size w w' := by
 have hu26 := Tryd.underlying26
 have HR0_1 := Aside0.mk hr0_1
 have HC0_1 := Aside0.mk hc0_1
 clear hr0_1 hc0_1
 have HB := Aside0.mk (Below.refl w.heap.size w)
 have H : (if (wrap64 (Int.tdiv a1 24)) ≥ (l0_1.length : Int) then (some 0) else (if 0 ≤ (wrap64 (Int.tdiv a1 24)) then (if (wrap64 (Int.tdiv a1 24)) < (l0_1.length : Int) then (if 0 ≤ (IntKind.u64.wrap (Int.tmod a1 24)) then (some (Go.bits .and .i64 (shr .i64 (rd l0_1 (wrap64 (Int.tdiv a1 24))) (IntKind.u64.wrap (Int.tmod a1 24))) 1)) else (none)) else (none)) else (none))) = some r := h
 clear h
 by_cases c3 : (wrap64 (Int.tdiv a1 24)) ≥ (l0_1.length : Int)
 ·rw [if_pos c3] at H
  have c3b0 : decide ((l0_1.length : Int) ≤ (wrap64 (Int.tdiv a1 24))) = true := decide_eq_true c3
  clear c3
  obtain rfl := Option.some.inj H
  go_enter Tryd.func89, Tryd.ntmps89
  go_wp2_with (first | ((with_reducible refine gate_dst (N := 2) rfl ?_); refine box_event ?hg (N := 2) ?hd (cs := #[.int .i64 a0_0, .slice A0_1 l0_1.length c0_1]) (t := 26) ?hr ?_; (case hd => rfl); (case hg => rfl); (case hr => first | (go_simp; done) | (go_simp; rfl)); intro gb299 hg w4 hbox hb; have n0_ := Aside0.mk (below_step (by repeat (first | (with_reducible first | exact HB.out | apply below_alloc | apply pw_below_drewN | apply below_drew1) | exact HB.out)) hb); have n1_ := Aside0.mk (hbox); have n2_ := Aside0.mk ((by rw [hg]; exact (below_size (by repeat (first | (with_reducible first | exact HB.out | apply below_alloc | apply pw_below_drewN | apply below_drew1) | exact HB.out))) : w.heap.size ≤ gb299)); have n3_ := Aside0.mk ((by rw [hg]; exact (below_size (by repeat (first | (with_reducible first | exact HB.out | apply below_alloc | apply pw_below_drewN | apply below_drew1) | exact HB.out))) : w.heap.size ≤ gb299)); clear HB; have HB := n0_; have BK299 := n1_; have GW299 := n2_; have GE299 := n3_; clear n0_ n1_ n2_ n3_; clear hb hbox hg; have hcz5_0 : w4.cell? ⟨gb299, 0, none⟩ = some (.int .i64 a0_0) := (blk_cell BK299.out 0).trans rfl; have hcz5_1 : w4.cell? ⟨gb299, 1, none⟩ = some (.slice A0_1 l0_1.length c0_1) := (blk_cell BK299.out 1).trans rfl; have hfz5_0 := blk_frozen BK299.out 0; have hfz5_1 := blk_frozen BK299.out 1))
  go_ret
  exact ⟨by first | rfl | (simp [errW_none, errW_some] <;> rfl) | (simp [*, errW_none, errW_some] <;> rfl), by repeat (first | (with_reducible first | exact HB.out | apply below_alloc | apply pw_below_drewN | apply below_drew1 | refine below_set ?_ GE299.out) | exact HB.out)⟩
 ·rw [if_neg c3] at H
  have c3b0 : decide ((l0_1.length : Int) ≤ (wrap64 (Int.tdiv a1 24))) = false := decide_eq_false c3
  clear c3
  obtain ⟨ji6, hji6⟩ : ∃ j_ : Int, (wrap64 (Int.tdiv a1 24)) = j_ := ⟨_, rfl⟩
  replace H : (if 0 ≤ (ji6) then (if (ji6) < (l0_1.length : Int) then (if 0 ≤ (IntKind.u64.wrap (Int.tmod a1 24)) then (some (Go.bits .and .i64 (shr .i64 (rd l0_1 (ji6)) (IntKind.u64.wrap (Int.tmod a1 24))) 1)) else (none)) else (none)) else (none)) = some r := by first | (rw [hji6] at H; exact H) | (simp only [hji6] at H ⊢; exact H)
  (try rw [hji6] at c3b0)
  have hji6w : (IntKind.i64.wrap (Int.tdiv a1 24)) = ji6 := (i64_w _).trans hji6
  by_cases c7 : 0 ≤ (ji6)
  ·rw [if_pos c7] at H
   have c7b0 : decide (0 ≤ (ji6)) = true := decide_eq_true c7
   clear c7
   by_cases c8 : (ji6) < (l0_1.length : Int)
   ·rw [if_pos c8] at H
    have c8b0 : decide ((ji6) < (l0_1.length : Int)) = true := decide_eq_true c8
    clear c8
    obtain ⟨ji9, hji9⟩ : ∃ j_ : Int, (IntKind.u64.wrap (Int.tmod a1 24)) = j_ := ⟨_, rfl⟩
    replace H : (if 0 ≤ (ji9) then (some (Go.bits .and .i64 (shr .i64 (rd l0_1 (ji6)) (ji9)) 1)) else (none)) = some r := by first | (rw [hji9] at H; exact H) | (simp only [hji9] at H ⊢; exact H)
    by_cases c10 : 0 ≤ (ji9)
    ·rw [if_pos c10] at H
     have c10b0 := eq_true c10
     have c10b1 : decide (0 ≤ (ji9)) = true := decide_eq_true c10
     clear c10
     obtain ⟨ji11, hji11⟩ : ∃ j_ : Int, (shr .i64 (rd l0_1 (ji6)) (ji9)) = j_ := ⟨_, rfl⟩
     replace H : (some (Go.bits .and .i64 (ji11) 1)) = some r := by first | (rw [hji11] at H; exact H) | (simp only [hji11] at H ⊢; exact H)
     have hji11_ : ((rd l0_1 (ji6)) / 2 ^ min (ji9).toNat 64) = ji11 := hji11
     have hji11z : (ji9) ≤ 64 → ((rd l0_1 (ji6)) / 2 ^ (ji9).toNat) = ji11 := shr_small hji11
     obtain rfl := Option.some.inj H
     go_enter Tryd.func89, Tryd.ntmps89
     go_wp2_with (first | ((with_reducible refine gate_dst (N := 2) rfl ?_); refine box_event ?hg (N := 2) ?hd (cs := #[.int .i64 a0_0, .slice A0_1 l0_1.length c0_1]) (t := 26) ?hr ?_; (case hd => rfl); (case hg => rfl); (case hr => first | (go_simp; done) | (go_simp; rfl)); intro gb299 hg w12 hbox hb; have n0_ := Aside0.mk (below_step (by repeat (first | (with_reducible first | exact HB.out | apply below_alloc | apply pw_below_drewN | apply below_drew1) | exact HB.out)) hb); have n1_ := Aside0.mk (hbox); have n2_ := Aside0.mk ((by rw [hg]; exact (below_size (by repeat (first | (with_reducible first | exact HB.out | apply below_alloc | apply pw_below_drewN | apply below_drew1) | exact HB.out))) : w.heap.size ≤ gb299)); have n3_ := Aside0.mk ((by rw [hg]; exact (below_size (by repeat (first | (with_reducible first | exact HB.out | apply below_alloc | apply pw_below_drewN | apply below_drew1) | exact HB.out))) : w.heap.size ≤ gb299)); clear HB; have HB := n0_; have BK299 := n1_; have GW299 := n2_; have GE299 := n3_; clear n0_ n1_ n2_ n3_; clear hb hbox hg; have hcz13_0 : w12.cell? ⟨gb299, 0, none⟩ = some (.int .i64 a0_0) := (blk_cell BK299.out 0).trans rfl; have hcz13_1 : w12.cell? ⟨gb299, 1, none⟩ = some (.slice A0_1 l0_1.length c0_1) := (blk_cell BK299.out 1).trans rfl; have hfz13_0 := blk_frozen BK299.out 0; have hfz13_1 := blk_frozen BK299.out 1; have p300 : 0 ≤ ((ji6) : Int) := of_decide_eq_true (by first | (with_reducible assumption) | assumption); have q300 : (ji6) < (l0_1.length : Int) := of_decide_eq_true (by first | (with_reducible assumption) | assumption); obtain ⟨ad300, e300, hx300_0⟩ := Kd.at_int HR0_1.out (ji6) p300 q300; cases e300; replace hx300_0 := (HB.out.cell (World.block_lt_of_cell? w _ hx300_0)).trans hx300_0; replace p300 := eq_true p300; replace q300 := eq_true q300))
     go_ret
     exact ⟨by first | rfl | (simp [errW_none, errW_some] <;> rfl) | (simp only [← hji6, ← hji9, ← hji11]; first | rfl | (simp [errW_none, errW_some] <;> rfl)) | (simp [*, errW_none, errW_some] <;> rfl), by repeat (first | (with_reducible first | exact HB.out | apply below_alloc | apply pw_below_drewN | apply below_drew1 | refine below_set ?_ GE299.out) | exact HB.out)⟩
    ·rw [if_neg c10] at H
     exact absurd H (by simp)
   ·rw [if_neg c8] at H
    exact absurd H (by simp)
  ·rw [if_neg c7] at H
   exact absurd H (by simp)
end Go.Proofs.YtlkomiiijhphnaaDoor.X
