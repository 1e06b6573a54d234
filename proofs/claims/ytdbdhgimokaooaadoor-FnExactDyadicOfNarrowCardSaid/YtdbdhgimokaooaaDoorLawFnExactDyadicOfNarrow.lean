/- The law FnExactDyadicOfNarrow returns true for every input, and its arguments read afterwards as before. The frame after the kit's template; no conditions of ours. -/
import Derived.Test.YtdbdhgimokaooaaDoorTabRow
import Derived.Laws.Cover2
import Derived.Test.YtdbdhgimokaooaaDoorRows
import Derived.Test.YtdbdhgimokaooaaDoorG33
import Derived.Test.YtdbdhgimokaooaaDoorOpenW
import Derived.WalkKit
import Derived.ProofKit
import Derived.OpenShut
import Derived.ShutString
import Derived.ChangeOld
import Derived.Below
import Derived.SizedLaws
import Derived.Test.YtdbdhgimokaooaaDoorWSized
import Derived.Test.YtdbdhgimokaooaaDoorFacts
import Derived.Handy
import Derived.Lay
import Derived.SevenTiedAt
import Derived.Test.YtdbdhgimokaooaaDoorTie
import Derived.Test.YtdbdhgimokaooaaDoorCards
namespace Go.Proofs.YtdbdhgimokaooaaDoor.fnExactDyadicOfNarrow
open Go.ChangeShapes Go.WideShapes Go.ChangeAt Go.RowKit Go.Joins
open Go.ChangeMaps (open_string shut_string)
set_option linter.unusedVariables false
set_option linter.unusedSimpArgs false
theorem own : ownKnob Tryd.prog.godebug = none := by kernel_rfl
theorem laidOut : laidOutB Tryd.prog = true := by kernel_rfl
set_option maxRecDepth 100000 in
theorem lifted (os : Os) (started : os.Started) (H : Type) (enc : TypeId × Value → H) :
  ReturnsInHanded {} Tryd.checked os 7 .any (fun w args => (Rows.fnExactDyadicOfNarrowSpec.pre enc Tryd.prog Tryd.f7 [] false w args ∧ laidMetH Tryd.prog Rows.fnExactDyadicOfNarrowRow.laid w) ∧ sizedMet enc Tryd.prog Tryd.f7 (OpenSpec.ofChange Rows.fnExactDyadicOfNarrowSpec) false w args)
   (Rows.fnExactDyadicOfNarrowSpec.post enc Tryd.prog Tryd.f7 false true false false) := by
 refine returnsInHanded_of_change_and (C := Tryd.checked) (X := fun w _ => laidMetH Tryd.prog Rows.fnExactDyadicOfNarrowRow.laid w) (fun _ _ _ hh h => h.of_heap hh) own started (by kernel_rfl) Tryd.func7
  (ChangeSpec.witness_shaped (enc := enc) (C := Tryd.checked) (os := os) (X := fun w _ => laidMetH Tryd.prog Rows.fnExactDyadicOfNarrowRow.laid w) false (World.laidAll Tryd.prog os Rows.fnExactDyadicOfNarrowRow.laid) #[.float .f32 0] 8 (World.laidAll_os _ _ _)
   (World.shaped_of_ZipB (by kernel_rfl) (by kernel_rfl)) (by kernel_rfl) (by kernel_rfl) (by kernel_rfl)
   (by rw [MakeChecks.laidMetH_plain _ _ _ (by kernel_rfl)]; exact laidMet_laidAll _ (by kernel_rfl) (by kernel_rfl))) ?_
 intro W base args ds gs before hval0 hW hcnd hsz0 hL0 _
 have hsz : (DataW.weightsEach Tryd.prog (Tryd.f7.params.toList ++ Rows.fnExactDyadicOfNarrowSpec.plain.varTypes Tryd.prog) (ds ++ gs)).all (· ≤ reachBytes) = true := hsz0
 have hval : ∀ (j : Nat) t v, Tryd.f7.params[j]? = some t → args[j]? = some v → Value.okWide Tryd.prog W .any base t v := hval0
 have hW' := hW
 obtain ⟨p, q, hA0, hV, rfl, hfz, hnd⟩ := hW
 have hA : DataW.TrodAll enc Tryd.prog W 0 (fun _ => true) true Tryd.f7.params.toList args.toList ds p := hA0
 rw [Tryd.params7] at hA hval hsz
 obtain ⟨v0, vs0, d0, ds0, p0, q0, hargs, rfl, rfl, h0, r0⟩ := trodAll_cons hA
 obtain ⟨rfl, rfl, rfl⟩ := trodAll_nil r0
 obtain rfl : args = #[v0] := by cases args; simp_all
 obtain ⟨rfl, rfl⟩ := trodVars_none hV
 obtain ⟨a0, rfl, rfl, rfl, y0⟩ := open_float Tryd.underlying48 (hval 0 48 v0 rfl rfl) h0
 have w0 : a0 < 2 ^ 32 := by simpa [Lit.wf] using y0
 clear hA0 hval0 hsz0 hsz
 refine (Pur.callsDyadicOfNarrow a0 W w0 (TabRow.tab_of_laid hL0)).mono ?_
 rintro e W' ⟨rfl, bel⟩
 exact ⟨_, rfl, _, _, _, [], _, [], hW', trodAll_mk1 (shut_bool Tryd.underlying4 _), (trodAll_cons_mk (shut_float Tryd.underlying48 y0) trodAll_mk0), rfl, bel.frame _, fun h => by cases h⟩
theorem closed : joinedFacts Tryd.prog 7 Tryd.f7 Rows.fnExactDyadicOfNarrowSpec Rows.fnExactDyadicOfNarrowRow = true := by
 unfold joinedFacts
 repeat' (with_reducible refine band ?_ ?_)
 all_goals (first | (with_reducible exact fEnter) | (with_reducible exact fStops) | (with_reducible exact fKnobs) | (with_reducible exact fLaid) | (with_reducible exact fMaps) | (with_reducible refine fFinalAt _ ?_) | (with_reducible refine fMakeAt _ ?_) | skip)
 all_goals (as_aux_lemma => kernel_rfl)
theorem over : Rows.fnExactDyadicOfNarrowRow.holds Tryd.pinned (OpenSpec.ofChange Rows.fnExactDyadicOfNarrowSpec) :=
 OpenClaim.holds_of_wide 7 Tryd.f7 rfl rfl rfl rfl rfl rfl rfl ⟨rfl, rfl, rfl, rfl, rfl⟩ rfl rfl rfl rfl rfl (by kernel_rfl) Tryd.func7 closed
  (of_decide_eq_true (by kernel_rfl)) (by unfold Func.isWrapper; first | (rw [if_pos (by decide +kernel)]; kernel_rfl) | (rw [if_neg (by decide +kernel)]; exact ⟨rfl, rfl⟩))
  (fun os started H enc _ => lifted os started H enc)
theorem proved : Rows.FnExactDyadicOfNarrowCardSaid :=
 Claim7.holds_tied_plain_at .later [] [.data] true (true, "9a5faad9309fdec6fe40f14603cb8bad08ad7a2a12b39a8a2051d6d496d86628") false
  over (fun _ h => by cases h) (by as_aux_lemma => kernel_rfl) (fun _ h => by cases h) fnExactDyadicOfNarrow_row_tie rfl ⟨rfl, rfl⟩ fMain rfl
  (fun f fn hf hfn => by
   obtain rfl : f = 7 := Option.some.inj ((show Tryd.prog.funcNamed "loop.example/g01156/laws.FnExactDyadicOfNarrow" = some 7 by kernel_rfl).symm.trans hf) |>.symm
   obtain rfl : fn = Tryd.f7 := (Option.some.inj (Tryd.func7.symm.trans hfn)).symm
   refine ⟨fLooks, fun j t ht => ?_⟩
   rw [Tryd.params7] at ht
   have hm : t ∈ [48] := by simpa using Array.mem_of_getElem? ht
   simp only [List.mem_cons, List.not_mem_nil, or_false] at hm
   rcases hm with rfl
   all_goals (show Tryd.prog.wantsStandIn _ = false; kernel_rfl))
  (by as_aux_lemma => kernel_rfl)
#print axioms proved
end Go.Proofs.YtdbdhgimokaooaaDoor.fnExactDyadicOfNarrow
