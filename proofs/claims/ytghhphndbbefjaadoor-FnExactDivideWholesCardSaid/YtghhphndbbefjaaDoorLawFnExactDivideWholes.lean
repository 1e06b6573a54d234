/- The law FnExactDivideWholes returns true for every input, and its arguments read afterwards as before. The frame after the kit's template; no conditions of ours. -/
import Derived.Test.YtghhphndbbefjaaDoorTabRow
import Derived.Test.YtghhphndbbefjaaDoorRows
import Derived.Test.YtghhphndbbefjaaDoorPurDivideWholes
import Derived.Test.YtghhphndbbefjaaDoorOpenW
import Derived.WalkKit
import Derived.ProofKit
import Derived.OpenShut
import Derived.ShutString
import Derived.ChangeOld
import Derived.Below
import Derived.SizedLaws
import Derived.Test.YtghhphndbbefjaaDoorWSized
import Derived.Test.YtghhphndbbefjaaDoorFacts
import Derived.Handy
import Derived.Lay
import Derived.SevenTiedAt
import Derived.Test.YtghhphndbbefjaaDoorTie
import Derived.Test.YtghhphndbbefjaaDoorCards
namespace Go.Proofs.YtghhphndbbefjaaDoor.fnExactDivideWholes
open Go.ChangeShapes Go.WideShapes Go.ChangeAt Go.RowKit Go.Joins
open Go.ChangeMaps (open_string shut_string)
set_option linter.unusedVariables false
set_option linter.unusedSimpArgs false
theorem own : ownKnob Tryd.prog.godebug = none := by kernel_rfl
theorem laidOut : laidOutB Tryd.prog = true := by kernel_rfl
set_option maxRecDepth 100000 in
theorem lifted (os : Os) (started : os.Started) (H : Type) (enc : TypeId × Value → H) :
  ReturnsInHanded {} Tryd.checked os 3 .any (fun w args => (Rows.fnExactDivideWholesSpec.pre enc Tryd.prog Tryd.f3 [] false w args ∧ laidMetH Tryd.prog Rows.fnExactDivideWholesRow.laid w) ∧ sizedMet enc Tryd.prog Tryd.f3 (OpenSpec.ofChange Rows.fnExactDivideWholesSpec) false w args)
   (Rows.fnExactDivideWholesSpec.post enc Tryd.prog Tryd.f3 false true false false) := by
 refine returnsInHanded_of_change_and (C := Tryd.checked) (X := fun w _ => laidMetH Tryd.prog Rows.fnExactDivideWholesRow.laid w) (fun _ _ _ hh h => h.of_heap hh) own started (by kernel_rfl) Tryd.func3
  (ChangeSpec.witness_shaped (enc := enc) (C := Tryd.checked) (os := os) (X := fun w _ => laidMetH Tryd.prog Rows.fnExactDivideWholesRow.laid w) false (World.laidAll Tryd.prog os Rows.fnExactDivideWholesRow.laid) #[.agg #[.int .i64 0, .slice none 0 0], .agg #[.int .i64 0, .slice none 0 0]] 8 (World.laidAll_os _ _ _)
   (World.shaped_of_ZipB (by kernel_rfl) (by kernel_rfl)) (by kernel_rfl) (by kernel_rfl) (by kernel_rfl)
   (by rw [MakeChecks.laidMetH_plain _ _ _ (by kernel_rfl)]; exact laidMet_laidAll _ (by kernel_rfl) (by kernel_rfl))) ?_
 intro W base args ds gs before hval0 hW hcnd hsz0 hL0 _
 have hsz : (DataW.weightsEach Tryd.prog (Tryd.f3.params.toList ++ Rows.fnExactDivideWholesSpec.plain.varTypes Tryd.prog) (ds ++ gs)).all (· ≤ reachBytes) = true := hsz0
 have hval : ∀ (j : Nat) t v, Tryd.f3.params[j]? = some t → args[j]? = some v → Value.okWide Tryd.prog W .any base t v := hval0
 have hW' := hW
 obtain ⟨p, q, hA0, hV, rfl, hfz, hnd⟩ := hW
 have hA : DataW.TrodAll enc Tryd.prog W 0 (fun _ => true) true Tryd.f3.params.toList args.toList ds p := hA0
 rw [Tryd.params3] at hA hval hsz
 obtain ⟨v0, vs0, d0, ds0, p0, q0, hargs, rfl, rfl, h0, r0⟩ := trodAll_cons hA
 obtain ⟨v1, vs1, d1, ds1, p1, q1, rfl, rfl, rfl, h1, r1⟩ := trodAll_cons r0
 obtain ⟨rfl, rfl, rfl⟩ := trodAll_nil r1
 obtain rfl : args = #[v0, v1] := by cases args; simp_all
 obtain ⟨rfl, rfl⟩ := trodVars_none hV
 have k0 := h0
 have lt0 : ∀ x ∈ p0, x.block < W.heap.size := by obtain ⟨m, hm⟩ := k0; exact DataW.trod_lt m _ _ _ hm
 obtain ⟨s0, a0, c0, l0, rfl, ws0, hr0, hm0, hw0, hc0⟩ := OpenW.open_whole Tryd.underlying24 (by kernel_rfl) (by kernel_rfl) rfl rfl Tryd.underlying2 Tryd.underlying22 (by kernel_rfl) (hval 0 24 v0 rfl rfl) h0
 have k1 := h1
 have lt1 : ∀ x ∈ p1, x.block < W.heap.size := by obtain ⟨m, hm⟩ := k1; exact DataW.trod_lt m _ _ _ hm
 obtain ⟨s1, a1, c1, l1, rfl, ws1, hr1, hm1, hw1, hc1⟩ := OpenW.open_whole Tryd.underlying24 (by kernel_rfl) (by kernel_rfl) rfl rfl Tryd.underlying2 Tryd.underlying22 (by kernel_rfl) (hval 1 24 v1 rfl rfl) h1
 clear hA0 hval0 hsz0 hsz
 refine (Pur.callsDivideWholes s0 a0 c0 l0 s1 a1 c1 l1 W hr0 hc0 hm0 hr1 hc1 hm1 (TabRow.tab_of_laid hL0)).mono ?_
 rintro e W' ⟨rfl, bel⟩
 exact ⟨_, rfl, _, _, _, [], _, [], hW', trodAll_mk1 (shut_bool Tryd.underlying4 _), (trodAll_cons_mk (Below.trod laidOut (by kernel_rfl) (of_decide_eq_true (by kernel_rfl)) k0 bel lt0) (trodAll_cons_mk (Below.trod laidOut (by kernel_rfl) (of_decide_eq_true (by kernel_rfl)) k1 bel lt1) trodAll_mk0)), rfl, bel.frame _, fun h => by cases h⟩
theorem closed : joinedFacts Tryd.prog 3 Tryd.f3 Rows.fnExactDivideWholesSpec Rows.fnExactDivideWholesRow = true := by
 unfold joinedFacts
 repeat' (with_reducible refine band ?_ ?_)
 all_goals (first | (with_reducible exact fEnter) | (with_reducible exact fStops) | (with_reducible exact fKnobs) | (with_reducible exact fLaid) | (with_reducible exact fMaps) | (with_reducible refine fFinalAt _ ?_) | (with_reducible refine fMakeAt _ ?_) | skip)
 all_goals (as_aux_lemma => kernel_rfl)
theorem over : Rows.fnExactDivideWholesRow.holds Tryd.pinned (OpenSpec.ofChange Rows.fnExactDivideWholesSpec) :=
 OpenClaim.holds_of_wide 3 Tryd.f3 rfl rfl rfl rfl rfl rfl rfl ⟨rfl, rfl, rfl, rfl, rfl⟩ rfl rfl rfl rfl rfl (by kernel_rfl) Tryd.func3 closed
  (of_decide_eq_true (by kernel_rfl)) (by unfold Func.isWrapper; first | (rw [if_pos (by decide +kernel)]; kernel_rfl) | (rw [if_neg (by decide +kernel)]; exact ⟨rfl, rfl⟩))
  (fun os started H enc _ => lifted os started H enc)
theorem proved : Rows.FnExactDivideWholesCardSaid :=
 Claim7.holds_tied_plain_at .later [] [.data] true (true, "08db31d8f4d0bf7577462619926b9b8c4a7a6135107f6b2f048b7a011aaec2e4") false
  over (fun _ h => by cases h) (by as_aux_lemma => kernel_rfl) (fun _ h => by cases h) fnExactDivideWholes_row_tie rfl ⟨rfl, rfl⟩ fMain rfl
  (fun f fn hf hfn => by
   obtain rfl : f = 3 := Option.some.inj ((show Tryd.prog.funcNamed "loop.example/g01156/laws.FnExactDivideWholes" = some 3 by kernel_rfl).symm.trans hf) |>.symm
   obtain rfl : fn = Tryd.f3 := (Option.some.inj (Tryd.func3.symm.trans hfn)).symm
   refine ⟨fLooks, fun j t ht => ?_⟩
   rw [Tryd.params3] at ht
   have hm : t ∈ [24] := by simpa using Array.mem_of_getElem? ht
   simp only [List.mem_cons, List.not_mem_nil, or_false] at hm
   rcases hm with rfl
   all_goals (show Tryd.prog.wantsStandIn _ = false; kernel_rfl))
  (by as_aux_lemma => kernel_rfl)
#print axioms proved
end Go.Proofs.YtghhphndbbefjaaDoor.fnExactDivideWholes
