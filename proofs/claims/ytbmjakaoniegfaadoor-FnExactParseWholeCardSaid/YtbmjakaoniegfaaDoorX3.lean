/- Functions of the program as plain Lean functions, each with a proof that its call does what that function says. Printed by a program over the kit's print; conditions stand in each contract. -/
import Derived.Test.YtbmjakaoniegfaaDoorSq
import Derived.Test.YtbmjakaoniegfaaDoorBnd8
import Derived.Test.YtbmjakaoniegfaaDoorX0
import Derived.Test.YtbmjakaoniegfaaDoorX1
import Derived.Test.YtbmjakaoniegfaaDoorX2
namespace Go.Proofs.YtbmjakaoniegfaaDoor.X
open Go.RowKit Go.Proofs.YtbmjakaoniegfaaDoorW.PrintWords Go.Proofs.YtbmjakaoniegfaaDoorW.PrintLast Go.Proofs.YtbmjakaoniegfaaDoorW.PrintMore Go.Proofs.YtbmjakaoniegfaaDoor.Sq
attribute [local go_sem] max2_int min2_int max_two min_two max_three min_three max_four min_four   -- for this text's walks alone
set_option linter.unusedVariables false
set_option linter.unusedSimpArgs false

/-! ### spec_l01In: function 88 -/
def spec_l01In.f (a0 : Int) (a1 : Int) (a2 : Int) : Option (Bool) := if a0 ≥ a1 then (some (decide (a0 ≤ a2))) else (some false)
set_option maxHeartbeats 8000000 in
set_option maxRecDepth 100000 in
theorem spec_l01In.calls (a0 : Int) (a1 : Int) (a2 : Int) (r : Bool) (w : World) (h : spec_l01In.f a0 a1 a2 = some r) :
  Calls Tryd.prog 88 #[.int .i64 a0, .int .i64 a1, .int .i64 a2] w fun e w' => e = .returned (.bool r) ∧ Drawn0 w w' := by
 have H : (if a0 ≥ a1 then (some (decide (a0 ≤ a2))) else (some false)) = some r := h
 clear h
 by_cases c4 : a0 ≥ a1
 ·rw [if_pos c4] at H
  have c4b0 : decide (a1 ≤ a0) = true := decide_eq_true c4
  clear c4; obtain rfl := Option.some.inj H
  go_enter Tryd.func88, Tryd.ntmps88
  go_wp2
  go_ret
  exact ⟨by first | rfl | (simp; done) | (simp [*]; done), by repeat (first | exact Drawn0.refl _ | apply Drawn0.step)⟩
 ·rw [if_neg c4] at H
  have c4b0 : decide (a1 ≤ a0) = false := decide_eq_false c4
  clear c4; obtain rfl := Option.some.inj H
  go_enter Tryd.func88, Tryd.ntmps88
  go_wp2
  go_ret
  exact ⟨by first | rfl | (simp; done) | (simp [*]; done), by repeat (first | exact Drawn0.refl _ | apply Drawn0.step)⟩

/-! ### spec_l02Is: function 67 -/
def spec_l02Is.l0 : Nat → Int → Int → Int → List Int → Option (Bool)
  | 0, _, _, _, _ => none
  | k + 1, x3, x4, x143000, x143001 => if x4 < x3 then (if 0 ≤ x4 then (if x4 < (x143001.length : Int) then ((spec_l01In.f (rd x143001 x4) 0 16777215).bind fun t144 => (if t144 = true then (spec_l02Is.l0 k x3 (wrap64 (x4 + 1)) x143000 x143001) else (some false))) else (none)) else (none)) else (if x3 = 0 then (some (x143000 == 0)) else (if x3 ≤ 200 then (if 0 ≤ (wrap64 (x3 - 1)) then (if (wrap64 (x3 - 1)) < (x143001.length : Int) then (if (rd x143001 (wrap64 (x3 - 1))) = 0 then (some false) else (if x143000 = 1 then (some true) else (some (x143000 == (-1))))) else (none)) else (none)) else (some false)))
def spec_l02Is.f (k : Nat) (a0_0 : Int) (l0_1 : List Int) : Option (Bool) := spec_l02Is.l0 k (l0_1.length : Int) 0 a0_0 l0_1
theorem spec_l02Is.mono_l : ∀ k, (∀ y0 y1 y2 y3, LeO (spec_l02Is.l0 k y0 y1 y2 y3) (spec_l02Is.l0 (k + 1) y0 y1 y2 y3))
  | 0 => fun _ _ _ _ r h => by simp [spec_l02Is.l0] at h
  | k + 1 => by
    have ih0 := spec_l02Is.mono_l k
    · intro y0 y1 y2 y3
      unfold spec_l02Is.l0
      repeat' first
      | (with_reducible exact ih0 _ _ _ _)
      | (with_reducible exact LeO.refl _)
      | (with_reducible exact LeO.none _)
      | (with_reducible refine LeO.ite ?_ ?_)
      | (with_reducible refine LeO.bind ?_ (fun _ => ?_))
      | exact ih0 _ _ _ _
      | exact LeO.none _
      | refine LeO.ite ?_ ?_
      | refine LeO.bind ?_ (fun _ => ?_)
theorem spec_l02Is.mono : ∀ a0 a1 k, LeO (spec_l02Is.f k a0 a1) (spec_l02Is.f (k + 1) a0 a1) := by
  intro a0 a1 k
  have ih0 := spec_l02Is.mono_l k
  unfold spec_l02Is.f
  repeat' first
      | (with_reducible exact ih0 _ _ _ _)
      | (with_reducible exact LeO.refl _)
      | (with_reducible exact LeO.none _)
      | (with_reducible refine LeO.ite ?_ ?_)
      | (with_reducible refine LeO.bind ?_ (fun _ => ?_))
      | exact ih0 _ _ _ _
      | exact LeO.none _
      | refine LeO.ite ?_ ?_
      | refine LeO.bind ?_ (fun _ => ?_)
set_option maxHeartbeats 8000000 in
set_option maxRecDepth 100000 in
theorem spec_l02Is.calls (k : Nat) (a0_0 : Int) (A0_1 : Option Addr) (c0_1 : Nat) (l0_1 : List Int) (r : Bool) (w : World) (hr0_1 : Kd.C (Kd.int .i64) w A0_1 l0_1.length l0_1) (hc0_1 : l0_1.length ≤ c0_1) (h : spec_l02Is.f k a0_0 l0_1 = some r) :
  Calls Tryd.prog 67 #[.agg #[.int .i64 a0_0, .slice A0_1 l0_1.length c0_1]] w fun e w' => e = .returned (.bool r) ∧ Below w.heap.size w w' := by
 have hu28 := Tryd.underlying28; have HR0_1 := Aside0.mk hr0_1; have HC0_1 := Aside0.mk hc0_1; clear hr0_1 hc0_1; have HB := am_ (Below.refl w.heap.size w)
 have H : (spec_l02Is.l0 k (l0_1.length : Int) 0 a0_0 l0_1) = some r := h
 clear h
 have H' := Aside0.mk H
 clear H
 go_enter Tryd.func67, Tryd.ntmps67
 go_wp2_with (first | ((with_reducible refine gate_dst (N := 1) rfl ?_); refine box_event ?hg (N := 1) ?hd (cs := #[.int .i64 a0_0, .slice A0_1 l0_1.length c0_1]) (t := 28) ?hr ?_; (case hd => rfl); (case hg => rfl); (case hr => first | (go_simp; done) | (go_simp; rfl)); intro gb142 hg w2 hbox hb; have n0_ := am_ (below_step (bl_ HB) hb); have n1_ := am_ (hbox); have n2_ := am_ (gs_ hg HB); have n3_ := am_ (gs_ hg HB); clear HB; have HB := n0_; have BK142 := n1_; have GW142 := n2_; have GE142 := n3_; clear n0_ n1_ n2_ n3_; clear hb hbox hg; have hcz3_0 : w2.cell? ⟨gb142, 0, none⟩ = some (.int .i64 a0_0) := (blk_cell BK142.out 0).trans rfl; have hcz3_1 : w2.cell? ⟨gb142, 1, none⟩ = some (.slice A0_1 l0_1.length c0_1) := (blk_cell BK142.out 1).trans rfl; have hfz3_0 := blk_frozen BK142.out 0; have hfz3_1 := blk_frozen BK142.out 1))
 go_loopg [4] k (fun kq v4 w' => ∃ (x4_1 : Int), v4 = .int .i64 x4_1 ∧ Aside0 (spec_l02Is.l0 kq (l0_1.length : Int) x4_1 a0_0 l0_1 = some r) ∧ Aside0 (kq ≤ k) ∧ Aside0 (w'.heap[gb142]? = some (.cells #[.int .i64 a0_0, (.slice A0_1 l0_1.length c0_1)] 28 (0, 0))) ∧ Aside0 (Below w.heap.size w w'))
 case atStart => exact ⟨(0), (by first | rfl | (simp; done) | (simp [*]; done)), H', ⟨Nat.le_refl _⟩, ⟨bk_ BK142⟩, ⟨bl_ HB⟩⟩
 case round =>
  clear H'; try clear p2; try clear hcz3_0; try clear hcz3_1; try clear hfz3_0; try clear hfz3_1
  obtain ⟨x4_1, rfl, HA, HK1, BK142, HB⟩ := hrel
  cases gk with
  | zero => exact absurd HA.out (by simp [spec_l02Is.l0])
  | succ k1 =>
   have H := HA.out; clear HA
   simp only [spec_l02Is.l0] at H
   by_cases c4 : x4_1 < (l0_1.length : Int)
   ·rw [if_pos c4] at H
    have c4b0 : decide (x4_1 < (l0_1.length : Int)) = true := decide_eq_true c4
    clear c4
    by_cases c5 : 0 ≤ x4_1
    ·rw [if_pos c5] at H
     have c5b0 : decide (0 ≤ x4_1) = true := decide_eq_true c5
     clear c5
     by_cases c6 : x4_1 < (l0_1.length : Int)
     ·rw [if_pos c6] at H
      have c6b0 : decide (x4_1 < (l0_1.length : Int)) = true := decide_eq_true c6
      clear c6
      replace H := Option.bind_eq_some_iff.mp H
      obtain ⟨t144, A70, H⟩ := H
      replace H : (if t144 = true then (spec_l02Is.l0 k1 (l0_1.length : Int) (wrap64 (x4_1 + 1)) a0_0 l0_1) else (some false)) = some r := H
      have A7 := Aside0.mk A70; clear A70
      by_cases c8 : t144 = true
      ·subst c8
       have H1 : (spec_l02Is.l0 k1 (l0_1.length : Int) (wrap64 (x4_1 + 1)) a0_0 l0_1) = some r := by rw [if_pos rfl] at H; exact H
       clear H; have H := H1; clear H1
       have H' := Aside0.mk H
       clear H
       have hcz9_0 : wr.cell? ⟨gb142, 0, none⟩ = some (.int .i64 a0_0) := (blk_cell BK142.out 0).trans rfl
       have hcz9_1 : wr.cell? ⟨gb142, 1, none⟩ = some (.slice A0_1 l0_1.length c0_1) := (blk_cell BK142.out 1).trans rfl
       have hfz9_0 := blk_frozen BK142.out 0; have hfz9_1 := blk_frozen BK142.out 1
       have p143 : 0 ≤ (x4_1 : Int) := of_decide_eq_true (by first | (with_reducible assumption) | assumption)
       have q143 : x4_1 < (l0_1.length : Int) := of_decide_eq_true (by first | (with_reducible assumption) | assumption)
       obtain ⟨ad143, e143, hx143_0⟩ := Kd.at_int HR0_1.out x4_1 p143 q143
       cases e143
       replace hx143_0 := (HB.out.cell (World.block_lt_of_cell? w _ hx143_0)).trans hx143_0
       replace p143 := eq_true p143
       replace q143 := eq_true q143
       go_wp2_with (first | ((with_reducible refine gate_callee (f := 88) rfl ?_); refine goesL_ (some 18) rfl rfl Tryd.func88 (by kernel_rfl) rfl #[.int .i64 (rd l0_1 x4_1), .int .i64 0, .int .i64 16777215] rfl ma_ ?_; (with_reducible refine (spec_l01In.calls (rd l0_1 x4_1) 0 16777215 true _ A7.out).mono ?_); rintro e w' ⟨rfl, ⟨nd, rfl⟩⟩; refine ⟨_, rfl, ?_⟩))
       go_roundg k1
       case measure => have := HK1.out; omega
       case rel => exact ⟨(wrap64 (x4_1 + 1)), (by first | rfl | (simp; done) | (simp [*]; done)), H', ⟨by have := HK1.out; omega⟩, ⟨bk_ BK142⟩, ⟨bl_ HB⟩⟩
      ·replace c8 := Bool.eq_false_iff.mpr c8
       subst c8
       have H1 : (some false) = some r := by rw [if_neg (show ¬ (false = true) by decide)] at H; exact H
       clear H; have H := H1; clear H1; obtain rfl := Option.some.inj H
       have hcz10_0 : wr.cell? ⟨gb142, 0, none⟩ = some (.int .i64 a0_0) := (blk_cell BK142.out 0).trans rfl
       have hcz10_1 : wr.cell? ⟨gb142, 1, none⟩ = some (.slice A0_1 l0_1.length c0_1) := (blk_cell BK142.out 1).trans rfl
       have hfz10_0 := blk_frozen BK142.out 0; have hfz10_1 := blk_frozen BK142.out 1
       have p143 : 0 ≤ (x4_1 : Int) := of_decide_eq_true (by first | (with_reducible assumption) | assumption)
       have q143 : x4_1 < (l0_1.length : Int) := of_decide_eq_true (by first | (with_reducible assumption) | assumption)
       obtain ⟨ad143, e143, hx143_0⟩ := Kd.at_int HR0_1.out x4_1 p143 q143
       cases e143
       replace hx143_0 := (HB.out.cell (World.block_lt_of_cell? w _ hx143_0)).trans hx143_0
       replace p143 := eq_true p143
       replace q143 := eq_true q143
       go_wp2_with (first | ((with_reducible refine gate_callee (f := 88) rfl ?_); refine goesL_ (some 18) rfl rfl Tryd.func88 (by kernel_rfl) rfl #[.int .i64 (rd l0_1 x4_1), .int .i64 0, .int .i64 16777215] rfl ma_ ?_; (with_reducible refine (spec_l01In.calls (rd l0_1 x4_1) 0 16777215 false _ A7.out).mono ?_); rintro e w' ⟨rfl, ⟨nd, rfl⟩⟩; refine ⟨_, rfl, ?_⟩))
       go_ret
       exact ⟨by first | rfl | (simp [errW_none, errW_some] <;> rfl) | (simp [*, errW_none, errW_some] <;> rfl), bl_ HB⟩
     ·rw [if_neg c6] at H
      exact absurd H (by simp)
    ·rw [if_neg c5] at H
     exact absurd H (by simp)
   ·rw [if_neg c4] at H
    have c4b0 : decide (x4_1 < (l0_1.length : Int)) = false := decide_eq_false c4
    clear c4
    by_cases c11 : (l0_1.length : Int) = 0
    ·rw [if_pos c11] at H
     have c11b0 : ((l0_1.length : Int) == 0) = true := beq_iff_eq.mpr c11
     have c11b1 : ((l0_1.length : Int) != 0) = false := bne_eq_false_iff_eq.mpr c11
     clear c11; obtain rfl := Option.some.inj H
     have hcz12_0 : wr.cell? ⟨gb142, 0, none⟩ = some (.int .i64 a0_0) := (blk_cell BK142.out 0).trans rfl
     have hcz12_1 : wr.cell? ⟨gb142, 1, none⟩ = some (.slice A0_1 l0_1.length c0_1) := (blk_cell BK142.out 1).trans rfl
     have hfz12_0 := blk_frozen BK142.out 0; have hfz12_1 := blk_frozen BK142.out 1
     go_wp2
     go_ret
     exact ⟨by first | rfl | (simp [errW_none, errW_some] <;> rfl) | (simp [*, errW_none, errW_some] <;> rfl), bl_ HB⟩
    ·rw [if_neg c11] at H
     have c11b0 : ((l0_1.length : Int) == 0) = false := beq_eq_false_iff_ne.mpr c11
     have c11b1 : ((l0_1.length : Int) != 0) = true := bne_iff_ne.mpr c11
     have c11b2 : ¬ (l0_1 = []) := fun h_ => c11 (by rw [h_]; rfl)
     by_cases c13 : (l0_1.length : Int) ≤ 200
     ·rw [if_pos c13] at H
      have c13b0 : decide ((l0_1.length : Int) ≤ 200) = true := decide_eq_true c13
      have c13b1 : decide (l0_1.length ≤ 200) = true := decide_eq_true (by omega)
      clear c13
      obtain ⟨ji14, hji14⟩ : ∃ j_ : Int, (wrap64 ((l0_1.length : Int) - 1)) = j_ := ⟨_, rfl⟩
      replace H : (if 0 ≤ (ji14) then (if (ji14) < (l0_1.length : Int) then (if (rd l0_1 (ji14)) = 0 then (some false) else (if a0_0 = 1 then (some true) else (some (a0_0 == (-1))))) else (none)) else (none)) = some r := by first | (rw [hji14] at H; exact H) | (simp only [hji14] at H ⊢; exact H)
      have hji14w : (IntKind.i64.wrap ((l0_1.length : Int) - 1)) = ji14 := (i64_w _).trans hji14
      by_cases c15 : 0 ≤ (ji14)
      ·rw [if_pos c15] at H
       have c15b0 : decide (0 ≤ (ji14)) = true := decide_eq_true c15
       clear c15
       by_cases c16 : (ji14) < (l0_1.length : Int)
       ·rw [if_pos c16] at H
        have c16b0 : decide ((ji14) < (l0_1.length : Int)) = true := decide_eq_true c16
        clear c16
        by_cases c17 : (rd l0_1 (ji14)) = 0
        ·rw [if_pos c17] at H
         have c17b0 : ((rd l0_1 (ji14)) == 0) = true := beq_iff_eq.mpr c17
         have c17b1 : ((rd l0_1 (ji14)) != 0) = false := bne_eq_false_iff_eq.mpr c17
         clear c17; obtain rfl := Option.some.inj H
         have hcz18_0 : wr.cell? ⟨gb142, 0, none⟩ = some (.int .i64 a0_0) := (blk_cell BK142.out 0).trans rfl
         have hcz18_1 : wr.cell? ⟨gb142, 1, none⟩ = some (.slice A0_1 l0_1.length c0_1) := (blk_cell BK142.out 1).trans rfl
         have hfz18_0 := blk_frozen BK142.out 0; have hfz18_1 := blk_frozen BK142.out 1
         have p145 : 0 ≤ ((ji14) : Int) := of_decide_eq_true (by first | (with_reducible assumption) | assumption)
         have q145 : (ji14) < (l0_1.length : Int) := of_decide_eq_true (by first | (with_reducible assumption) | assumption)
         obtain ⟨ad145, e145, hx145_0⟩ := Kd.at_int HR0_1.out (ji14) p145 q145
         cases e145
         replace hx145_0 := (HB.out.cell (World.block_lt_of_cell? w _ hx145_0)).trans hx145_0
         replace p145 := eq_true p145
         replace q145 := eq_true q145
         go_wp2
         go_ret
         exact ⟨by first | rfl | (simp [errW_none, errW_some] <;> rfl) | (simp only [← hji14]; first | rfl | (simp [errW_none, errW_some] <;> rfl)) | (simp [*, errW_none, errW_some] <;> rfl), bl_ HB⟩
        ·rw [if_neg c17] at H
         have c17b0 : ((rd l0_1 (ji14)) == 0) = false := beq_eq_false_iff_ne.mpr c17
         have c17b1 : ((rd l0_1 (ji14)) != 0) = true := bne_iff_ne.mpr c17
         by_cases c19 : a0_0 = 1
         ·rw [if_pos c19] at H
          have c19b0 : (a0_0 == 1) = true := beq_iff_eq.mpr c19
          have c19b1 : (a0_0 != 1) = false := bne_eq_false_iff_eq.mpr c19
          clear c19; obtain rfl := Option.some.inj H
          have hcz20_0 : wr.cell? ⟨gb142, 0, none⟩ = some (.int .i64 a0_0) := (blk_cell BK142.out 0).trans rfl
          have hcz20_1 : wr.cell? ⟨gb142, 1, none⟩ = some (.slice A0_1 l0_1.length c0_1) := (blk_cell BK142.out 1).trans rfl
          have hfz20_0 := blk_frozen BK142.out 0; have hfz20_1 := blk_frozen BK142.out 1
          have p145 : 0 ≤ ((ji14) : Int) := of_decide_eq_true (by first | (with_reducible assumption) | assumption)
          have q145 : (ji14) < (l0_1.length : Int) := of_decide_eq_true (by first | (with_reducible assumption) | assumption)
          obtain ⟨ad145, e145, hx145_0⟩ := Kd.at_int HR0_1.out (ji14) p145 q145
          cases e145
          replace hx145_0 := (HB.out.cell (World.block_lt_of_cell? w _ hx145_0)).trans hx145_0
          replace p145 := eq_true p145
          replace q145 := eq_true q145
          go_wp2
          go_ret
          exact ⟨by first | rfl | (simp [errW_none, errW_some] <;> rfl) | (simp only [← hji14]; first | rfl | (simp [errW_none, errW_some] <;> rfl)) | (simp [*, errW_none, errW_some] <;> rfl), bl_ HB⟩
         ·rw [if_neg c19] at H
          have c19b0 : (a0_0 == 1) = false := beq_eq_false_iff_ne.mpr c19
          have c19b1 : (a0_0 != 1) = true := bne_iff_ne.mpr c19
          obtain rfl := Option.some.inj H
          have hcz21_0 : wr.cell? ⟨gb142, 0, none⟩ = some (.int .i64 a0_0) := (blk_cell BK142.out 0).trans rfl
          have hcz21_1 : wr.cell? ⟨gb142, 1, none⟩ = some (.slice A0_1 l0_1.length c0_1) := (blk_cell BK142.out 1).trans rfl
          have hfz21_0 := blk_frozen BK142.out 0; have hfz21_1 := blk_frozen BK142.out 1
          have p145 : 0 ≤ ((ji14) : Int) := of_decide_eq_true (by first | (with_reducible assumption) | assumption)
          have q145 : (ji14) < (l0_1.length : Int) := of_decide_eq_true (by first | (with_reducible assumption) | assumption)
          obtain ⟨ad145, e145, hx145_0⟩ := Kd.at_int HR0_1.out (ji14) p145 q145
          cases e145
          replace hx145_0 := (HB.out.cell (World.block_lt_of_cell? w _ hx145_0)).trans hx145_0
          replace p145 := eq_true p145
          replace q145 := eq_true q145
          go_wp2
          go_ret
          exact ⟨by first | rfl | (simp [errW_none, errW_some] <;> rfl) | (simp only [← hji14]; first | rfl | (simp [errW_none, errW_some] <;> rfl)) | (simp [*, errW_none, errW_some] <;> rfl), bl_ HB⟩
       ·rw [if_neg c16] at H
        exact absurd H (by simp)
      ·rw [if_neg c15] at H
       exact absurd H (by simp)
     ·rw [if_neg c13] at H
      have c13b0 : decide ((l0_1.length : Int) ≤ 200) = false := decide_eq_false c13
      have c13b1 : decide (l0_1.length ≤ 200) = false := decide_eq_false (by omega)
      clear c13; obtain rfl := Option.some.inj H
      go_wp2
      go_ret
      exact ⟨by first | rfl | (simp [errW_none, errW_some] <;> rfl) | (simp [*, errW_none, errW_some] <;> rfl), bl_ HB⟩

/-! ### spec_l02Fit: function 79 -/
def spec_l02Fit.f (k : Nat) (a0_0 : Int) (l0_1 : List Int) : Option (Int × List Int × Int) := (spec_l02Is.f k a0_0 l0_1).bind fun t148 => (if t148 = true then (some (a0_0, l0_1, 0)) else (some (0, ([] : List Int), 3)))
theorem spec_l02Fit.mono : ∀ a0 a1 k, LeO (spec_l02Fit.f k a0 a1) (spec_l02Fit.f (k + 1) a0 a1) := by
  intro a0 a1 k
  unfold spec_l02Fit.f
  repeat' first
      | (with_reducible exact spec_l02Is.mono _ _ _)
      | (with_reducible exact LeO.refl _)
      | (with_reducible exact LeO.none _)
      | (with_reducible refine LeO.ite ?_ ?_)
      | (with_reducible refine LeO.bind ?_ (fun _ => ?_))
      | exact spec_l02Is.mono _ _ _
      | exact LeO.none _
      | refine LeO.ite ?_ ?_
      | refine LeO.bind ?_ (fun _ => ?_)
set_option maxHeartbeats 8000000 in
set_option maxRecDepth 100000 in
theorem spec_l02Fit.calls (k : Nat) (a0_0 : Int) (P0_1_ : Nat → Prop) (u9000_ : Value) (l0_1 : List Int) (r1 : Int) (r2 : List Int) (r3 : Int) (w0 w : World) (hB : Below w0.heap.size w0 w) (ho0_1 : Kd.R (Kd.int .i64) 2 w w0.heap.size P0_1_ u9000_ l0_1) (h : spec_l02Fit.f k a0_0 l0_1 = some (r1, r2, r3)) :
  Calls Tryd.prog 79 #[.agg #[.int .i64 a0_0, u9000_]] w fun e w' => ∃ v1_ : Value, e = .returned (.tuple #[.agg #[.int .i64 r1, v1_], .int .i64 r3]) ∧ Kd.R (Kd.int .i64) 2 w' w0.heap.size (fun k_ => (P0_1_ k_ ∨ w.heap.size ≤ k_)) v1_ r2 ∧ Below w0.heap.size w0 w' ∧ Kept w w' (fun k_ => P0_1_ k_) := by
 have hu28 := Tryd.underlying28
 have HO0_1 := am_ (show Kd.R (Kd.int .i64) 2 w w0.heap.size (fun k_ => (P0_1_ k_ ∨ w.heap.size ≤ k_)) u9000_ l0_1 from Kd.R_mono ho0_1 (fun k_ hk => (.inl hk)))
 have HK := am_ (Kept.refl w (fun k_ => P0_1_ k_))
 have HW0 := Aside0.mk hB.size; have HB := Aside0.mk hB; clear hB
 have H : ((spec_l02Is.f k a0_0 l0_1).bind fun t148 => (if t148 = true then (some (a0_0, l0_1, 0)) else (some (0, ([] : List Int), 3)))) = some (r1, r2, r3) := h
 clear h
 replace H := Option.bind_eq_some_iff.mp H
 obtain ⟨t148, A20, H⟩ := H
 replace H : (if t148 = true then (some (a0_0, l0_1, 0)) else (some (0, ([] : List Int), 3))) = some (r1, r2, r3) := H
 have A2 := Aside0.mk A20; clear A20
 by_cases c3 : t148 = true
 ·subst c3
  have H1 : (some (a0_0, l0_1, 0)) = some (r1, r2, r3) := by rw [if_pos rfl] at H; exact H
  clear H; have H := H1; clear H1
  simp only [Option.some.injEq, Prod.mk.injEq] at H
  obtain ⟨rfl, rfl, rfl⟩ := H
  obtain ⟨Ao4, co4, eo4⟩ := Kd.R_slice HO0_1.out
  subst eo4
  go_enter Tryd.func79, Tryd.ntmps79
  go_wp2_with (first | ((with_reducible refine gate_dst (N := 1) rfl ?_); refine box_event ?hg (N := 1) ?hd (cs := #[.int .i64 a0_0, .slice Ao4 l0_1.length co4]) (t := 28) ?hr ?_; (case hd => rfl); (case hg => rfl); (case hr => first | (go_simp; done) | (go_simp; rfl)); intro gb146 hg w5 hbox hb; have n0_ := am_ (Kd.R_below (kr_ HO0_1) hb); have n1_ := am_ (Kept.below (S := (fun k_ => P0_1_ k_)) (by repeat (first | (with_reducible first | exact HK.out | apply Kept.alloc | apply Kept.drewN | apply Kept.drew) | exact HK.out)) hb); have n2_ := am_ (below_step (bl_ HB) hb); have n3_ := am_ (hbox); have n4_ := am_ ((by rw [hg]; exact (by first | exact HK.out.1 | exact (show Kept w _ (fun k_ => P0_1_ k_) from by repeat (first | (with_reducible first | exact HK.out | apply Kept.alloc | apply Kept.drewN | apply Kept.drew) | exact HK.out)).1) : w.heap.size ≤ gb146)); have n5_ := am_ ((by rw [hg]; exact (below_size (bl_ HB)) : w0.heap.size ≤ gb146)); clear HO0_1; clear HK; clear HB; have HO0_1 := n0_; have HK := n1_; have HB := n2_; have BK146 := n3_; have GW146 := n4_; have GE146 := n5_; clear n0_ n1_ n2_ n3_ n4_ n5_; clear hb hbox hg) | ((with_reducible refine gate_dst (N := 2) rfl ?_); refine box_event ?hg (N := 2) ?hd (cs := #[.int .i64 0, .slice none 0 0]) (t := 28) ?hr ?_; (case hd => rfl); (case hg => rfl); (case hr => first | (go_simp; done) | (go_simp; rfl)); intro gb147 hg w6 hbox hb; have n0_ := am_ (Kd.R_below (kr_ HO0_1) hb); have n1_ := am_ (blk_below (bk_ BK146) hb); have n2_ := am_ (Kept.below (S := (fun k_ => P0_1_ k_)) (by repeat (first | (with_reducible first | exact HK.out | apply Kept.alloc | apply Kept.drewN | apply Kept.drew | refine Kept.setCell ?_ (.inr GW146.out) _) | exact HK.out)) hb); have n3_ := am_ (below_step (bl_ HB) hb); have n4_ := am_ (hbox); have n5_ := am_ ((by rw [hg]; exact (by first | exact HK.out.1 | exact (show Kept w _ (fun k_ => P0_1_ k_) from by repeat (first | (with_reducible first | exact HK.out | apply Kept.alloc | apply Kept.drewN | apply Kept.drew | refine Kept.setCell ?_ (.inr GW146.out) _) | exact HK.out)).1) : w.heap.size ≤ gb147)); have n6_ := am_ ((by rw [hg]; exact (below_size (bl_ HB)) : w0.heap.size ≤ gb147)); have n7_ := am_ (nl_ hg BK146); have n8_ := am_ (ng_ hg BK146); clear HO0_1; clear BK146; clear HK; clear HB; have HO0_1 := n0_; have BK146 := n1_; have HK := n2_; have HB := n3_; have BK147 := n4_; have GW147 := n5_; have GE147 := n6_; have NB146_147 := n7_; have NB147_146 := n8_; clear n0_ n1_ n2_ n3_ n4_ n5_ n6_ n7_ n8_; clear hb hbox hg; have hnb7 := NB146_147.out; have hnc7 := NB147_146.out; have hcz8_0 : w6.cell? ⟨gb146, 0, none⟩ = some (.int .i64 a0_0) := (blk_cell BK146.out 0).trans rfl; have hcz8_1 : w6.cell? ⟨gb146, 1, none⟩ = some (.slice Ao4 l0_1.length co4) := (blk_cell BK146.out 1).trans rfl; have hfz8_0 := blk_frozen BK146.out 0; have hfz8_1 := blk_frozen BK146.out 1) | ((with_reducible refine gate_callee (f := 67) rfl ?_); refine goesL_ (some 5) rfl rfl Tryd.func67 (by kernel_rfl) rfl #[.agg #[.int .i64 a0_0, .slice Ao4 l0_1.length co4]] rfl ma_ ?_; (with_reducible refine (spec_l02Is.calls k a0_0 _ _ l0_1 true _ ?side1 ?side2 A2.out).mono ?_); (case side1 => repeat (first | exact (Kd.R_reads' HO0_1.out).2.2 | (with_reducible refine Kd.C_alloc ?_ _) | (with_reducible refine Kd.C_drewN ?_ _) | (with_reducible refine Kd.C_drew ?_))); (case side2 => exact (Kd.R_reads' HO0_1.out).2.1); rintro e w9 ⟨rfl, hb⟩; refine ⟨_, rfl, ?_⟩; have n0_ := am_ (Kd.R_below (kr_ HO0_1) hb); have n1_ := am_ (blk_below (bk_ BK146) hb); have n2_ := am_ (blk_below (bk_ BK147) hb); have n3_ := am_ (Kept.below (S := (fun k_ => P0_1_ k_)) (by repeat (first | (with_reducible first | exact HK.out | apply Kept.alloc | apply Kept.drewN | apply Kept.drew | refine Kept.setCell ?_ (.inr GW146.out) _ | refine Kept.setCell ?_ (.inr GW147.out) _) | exact HK.out)) hb); have n4_ := am_ (below_step (bl_ HB) hb); clear HO0_1; clear BK146; clear BK147; clear HK; clear HB; have HO0_1 := n0_; have BK146 := n1_; have BK147 := n2_; have HK := n3_; have HB := n4_; clear n0_ n1_ n2_ n3_ n4_; (try clear hb); (try clear hb2); (try clear hk); (try clear hi); have hcz10_0 : w9.cell? ⟨gb146, 0, none⟩ = some (.int .i64 a0_0) := (blk_cell BK146.out 0).trans rfl; have hcz10_1 : w9.cell? ⟨gb146, 1, none⟩ = some (.slice Ao4 l0_1.length co4) := (blk_cell BK146.out 1).trans rfl; have hfz10_0 := blk_frozen BK146.out 0; have hfz10_1 := blk_frozen BK146.out 1; have hcz11_0 : w9.cell? ⟨gb147, 0, none⟩ = some (.int .i64 0) := (blk_cell BK147.out 0).trans rfl; have hcz11_1 : w9.cell? ⟨gb147, 1, none⟩ = some (.slice none 0 0) := (blk_cell BK147.out 1).trans rfl; have hfz11_0 := blk_frozen BK147.out 0; have hfz11_1 := blk_frozen BK147.out 1))
  refine bodyPost_ret (results_ct rfl _ _ gb147 28 #[.int .i64 a0_0, .slice Ao4 l0_1.length co4] (0, 0) _ rfl (by (with_reducible repeat (first | refine blk_drewN ?_ _ | refine blk_drew ?_ | refine blk_alloc ?_ _)); refine blk_put (cs := #[.int .i64 a0_0, .slice none 0 0]) ?_ 1 _ rfl; (with_reducible repeat (first | refine blk_drewN ?_ _ | refine blk_drew ?_ | refine blk_alloc ?_ _)); refine blk_put (cs := #[.int .i64 0, .slice none 0 0]) ?_ 0 _ rfl; (with_reducible repeat (first | refine blk_drewN ?_ _ | refine blk_drew ?_ | refine blk_alloc ?_ _)); exact BK147.out) Tryd.underlying28 rfl (by kernel_rfl)) rfl ?_
  exact ⟨_, by first | rfl | (simp [errW_none, errW_some] <;> rfl) | (simp [*, errW_none, errW_some] <;> rfl), by (with_reducible repeat (first | apply Kd.R_alloc | apply Kd.R_drewN | apply Kd.R_drew)); exact Kd.R_mono (Kd.R_far (p := ⟨gb147, 1, none⟩) (Kd.R_far (p := ⟨gb147, 0, none⟩) (Kd.R_types HO0_1.out BK147.out (by decide)) (fun _ hk => hk.2) (.int .i64 a0_0)) (fun _ hk => hk.2) (.slice Ao4 l0_1.length co4)) (fun _ hk => hk.1), bl_ HB, by repeat (first | (with_reducible first | exact HK.out | apply Kept.alloc | apply Kept.drewN | apply Kept.drew | refine Kept.setCell ?_ (.inr GW146.out) _ | refine Kept.setCell ?_ (.inr GW147.out) _) | exact HK.out)⟩
 ·replace c3 := Bool.eq_false_iff.mpr c3
  subst c3
  have H1 : (some (0, ([] : List Int), 3)) = some (r1, r2, r3) := by rw [if_neg (show ¬ (false = true) by decide)] at H; exact H
  clear H; have H := H1; clear H1
  simp only [Option.some.injEq, Prod.mk.injEq] at H
  obtain ⟨rfl, rfl, rfl⟩ := H
  obtain ⟨Ao12, co12, eo12⟩ := Kd.R_slice HO0_1.out
  subst eo12
  go_enter Tryd.func79, Tryd.ntmps79
  go_wp2_with (first | ((with_reducible refine gate_dst (N := 1) rfl ?_); refine box_event ?hg (N := 1) ?hd (cs := #[.int .i64 a0_0, .slice Ao12 l0_1.length co12]) (t := 28) ?hr ?_; (case hd => rfl); (case hg => rfl); (case hr => first | (go_simp; done) | (go_simp; rfl)); intro gb146 hg w13 hbox hb; have n0_ := am_ (Kd.R_below (kr_ HO0_1) hb); have n1_ := am_ (Kept.below (S := (fun k_ => P0_1_ k_)) (by repeat (first | (with_reducible first | exact HK.out | apply Kept.alloc | apply Kept.drewN | apply Kept.drew) | exact HK.out)) hb); have n2_ := am_ (below_step (bl_ HB) hb); have n3_ := am_ (hbox); have n4_ := am_ ((by rw [hg]; exact (by first | exact HK.out.1 | exact (show Kept w _ (fun k_ => P0_1_ k_) from by repeat (first | (with_reducible first | exact HK.out | apply Kept.alloc | apply Kept.drewN | apply Kept.drew) | exact HK.out)).1) : w.heap.size ≤ gb146)); have n5_ := am_ ((by rw [hg]; exact (below_size (bl_ HB)) : w0.heap.size ≤ gb146)); clear HO0_1; clear HK; clear HB; have HO0_1 := n0_; have HK := n1_; have HB := n2_; have BK146 := n3_; have GW146 := n4_; have GE146 := n5_; clear n0_ n1_ n2_ n3_ n4_ n5_; clear hb hbox hg) | ((with_reducible refine gate_dst (N := 2) rfl ?_); refine box_event ?hg (N := 2) ?hd (cs := #[.int .i64 0, .slice none 0 0]) (t := 28) ?hr ?_; (case hd => rfl); (case hg => rfl); (case hr => first | (go_simp; done) | (go_simp; rfl)); intro gb147 hg w14 hbox hb; have n0_ := am_ (Kd.R_below (kr_ HO0_1) hb); have n1_ := am_ (blk_below (bk_ BK146) hb); have n2_ := am_ (Kept.below (S := (fun k_ => P0_1_ k_)) (by repeat (first | (with_reducible first | exact HK.out | apply Kept.alloc | apply Kept.drewN | apply Kept.drew | refine Kept.setCell ?_ (.inr GW146.out) _) | exact HK.out)) hb); have n3_ := am_ (below_step (bl_ HB) hb); have n4_ := am_ (hbox); have n5_ := am_ ((by rw [hg]; exact (by first | exact HK.out.1 | exact (show Kept w _ (fun k_ => P0_1_ k_) from by repeat (first | (with_reducible first | exact HK.out | apply Kept.alloc | apply Kept.drewN | apply Kept.drew | refine Kept.setCell ?_ (.inr GW146.out) _) | exact HK.out)).1) : w.heap.size ≤ gb147)); have n6_ := am_ ((by rw [hg]; exact (below_size (bl_ HB)) : w0.heap.size ≤ gb147)); have n7_ := am_ (nl_ hg BK146); have n8_ := am_ (ng_ hg BK146); clear HO0_1; clear BK146; clear HK; clear HB; have HO0_1 := n0_; have BK146 := n1_; have HK := n2_; have HB := n3_; have BK147 := n4_; have GW147 := n5_; have GE147 := n6_; have NB146_147 := n7_; have NB147_146 := n8_; clear n0_ n1_ n2_ n3_ n4_ n5_ n6_ n7_ n8_; clear hb hbox hg; have hnb15 := NB146_147.out; have hnc15 := NB147_146.out; have hcz16_0 : w14.cell? ⟨gb146, 0, none⟩ = some (.int .i64 a0_0) := (blk_cell BK146.out 0).trans rfl; have hcz16_1 : w14.cell? ⟨gb146, 1, none⟩ = some (.slice Ao12 l0_1.length co12) := (blk_cell BK146.out 1).trans rfl; have hfz16_0 := blk_frozen BK146.out 0; have hfz16_1 := blk_frozen BK146.out 1) | ((with_reducible refine gate_callee (f := 67) rfl ?_); refine goesL_ (some 5) rfl rfl Tryd.func67 (by kernel_rfl) rfl #[.agg #[.int .i64 a0_0, .slice Ao12 l0_1.length co12]] rfl ma_ ?_; (with_reducible refine (spec_l02Is.calls k a0_0 _ _ l0_1 false _ ?side1 ?side2 A2.out).mono ?_); (case side1 => repeat (first | exact (Kd.R_reads' HO0_1.out).2.2 | (with_reducible refine Kd.C_alloc ?_ _) | (with_reducible refine Kd.C_drewN ?_ _) | (with_reducible refine Kd.C_drew ?_))); (case side2 => exact (Kd.R_reads' HO0_1.out).2.1); rintro e w17 ⟨rfl, hb⟩; refine ⟨_, rfl, ?_⟩; have n0_ := am_ (Kd.R_below (kr_ HO0_1) hb); have n1_ := am_ (blk_below (bk_ BK146) hb); have n2_ := am_ (blk_below (bk_ BK147) hb); have n3_ := am_ (Kept.below (S := (fun k_ => P0_1_ k_)) (by repeat (first | (with_reducible first | exact HK.out | apply Kept.alloc | apply Kept.drewN | apply Kept.drew | refine Kept.setCell ?_ (.inr GW146.out) _ | refine Kept.setCell ?_ (.inr GW147.out) _) | exact HK.out)) hb); have n4_ := am_ (below_step (bl_ HB) hb); clear HO0_1; clear BK146; clear BK147; clear HK; clear HB; have HO0_1 := n0_; have BK146 := n1_; have BK147 := n2_; have HK := n3_; have HB := n4_; clear n0_ n1_ n2_ n3_ n4_; (try clear hb); (try clear hb2); (try clear hk); (try clear hi); have hcz18_0 : w17.cell? ⟨gb147, 0, none⟩ = some (.int .i64 0) := (blk_cell BK147.out 0).trans rfl; have hcz18_1 : w17.cell? ⟨gb147, 1, none⟩ = some (.slice none 0 0) := (blk_cell BK147.out 1).trans rfl; have hfz18_0 := blk_frozen BK147.out 0; have hfz18_1 := blk_frozen BK147.out 1))
  refine bodyPost_ret (results_ct rfl _ _ gb147 28 #[.int .i64 0, .slice none 0 0] (0, 0) _ rfl (by (with_reducible repeat (first | refine blk_drewN ?_ _ | refine blk_drew ?_ | refine blk_alloc ?_ _)); refine blk_put (cs := #[.int .i64 0, .slice none 0 0]) ?_ 1 _ rfl; (with_reducible repeat (first | refine blk_drewN ?_ _ | refine blk_drew ?_ | refine blk_alloc ?_ _)); refine blk_put (cs := #[.int .i64 0, .slice none 0 0]) ?_ 0 _ rfl; (with_reducible repeat (first | refine blk_drewN ?_ _ | refine blk_drew ?_ | refine blk_alloc ?_ _)); exact BK147.out) Tryd.underlying28 rfl (by kernel_rfl)) rfl ?_
  exact ⟨_, by first | rfl | (simp [errW_none, errW_some] <;> rfl) | (simp [*, errW_none, errW_some] <;> rfl), by first | exact Kd.R_nil _ _ _ _ _ | exact Kd.N_nil _ _ _ _ _ | exact Kd.V_nil _ _ _ _ _ | exact Kd.Q_nil _ _ _ _ _ | exact Kd.S_nil _ _ _ _ _, bl_ HB, by repeat (first | (with_reducible first | exact HK.out | apply Kept.alloc | apply Kept.drewN | apply Kept.drew | refine Kept.setCell ?_ (.inr GW146.out) _ | refine Kept.setCell ?_ (.inr GW147.out) _) | exact HK.out)⟩

/-! ### spec_ParseWhole: function 27 -/
def spec_ParseWhole.f (k : Nat) (a0 : ByteArray) : Option (Int × List Int × Int) := (spec_l02Read.f k a0).bind fun bt150 => (if bt150.2.2 = true then ((spec_l02Fit.f k bt150.1 bt150.2.1).bind fun bt156 => (some (bt156.1, bt156.2.1, bt156.2.2))) else (some (0, ([] : List Int), 6)))
theorem spec_ParseWhole.mono : ∀ a0 k, LeO (spec_ParseWhole.f k a0) (spec_ParseWhole.f (k + 1) a0) := by
  intro a0 k
  unfold spec_ParseWhole.f
  repeat' first
      | (with_reducible exact spec_l02Fit.mono _ _ _)
      | (with_reducible exact spec_l02Read.mono _ _)
      | (with_reducible exact LeO.refl _)
      | (with_reducible exact LeO.none _)
      | (with_reducible refine LeO.ite ?_ ?_)
      | (with_reducible refine LeO.bind ?_ (fun _ => ?_))
      | exact spec_l02Fit.mono _ _ _
      | exact spec_l02Read.mono _ _
      | exact LeO.none _
      | refine LeO.ite ?_ ?_
      | refine LeO.bind ?_ (fun _ => ?_)
set_option maxHeartbeats 8000000 in
set_option maxRecDepth 100000 in
theorem spec_ParseWhole.calls (k : Nat) (a0 : ByteArray) (r1 : Int) (r2 : List Int) (r3 : Int) (w : World) (h : spec_ParseWhole.f k a0 = some (r1, r2, r3)) :
  Calls Tryd.prog 27 #[.string a0] w fun e w' => ∃ v1_ : Value, e = .returned (.tuple #[.agg #[.int .i64 r1, v1_], .int .i64 r3]) ∧ Kd.R (Kd.int .i64) 2 w' w.heap.size (fun _ => True) v1_ r2 ∧ Below w.heap.size w w' := by
 have hu28 := Tryd.underlying28; have HB := am_ (Below.refl w.heap.size w)
 have H : ((spec_l02Read.f k a0).bind fun bt150 => (if bt150.2.2 = true then ((spec_l02Fit.f k bt150.1 bt150.2.1).bind fun bt156 => (some (bt156.1, bt156.2.1, bt156.2.2))) else (some (0, ([] : List Int), 6)))) = some (r1, r2, r3) := h
 clear h
 replace H := Option.bind_eq_some_iff.mp H
 obtain ⟨⟨t150, t151, t154⟩, A20, H⟩ := H
 replace H : (if t154 = true then ((spec_l02Fit.f k t150 t151).bind fun bt156 => (some (bt156.1, bt156.2.1, bt156.2.2))) else (some (0, ([] : List Int), 6))) = some (r1, r2, r3) := H
 have A2 := Aside0.mk A20; clear A20
 by_cases c3 : t154 = true
 ·subst c3
  have H1 : ((spec_l02Fit.f k t150 t151).bind fun bt156 => (some (bt156.1, bt156.2.1, bt156.2.2))) = some (r1, r2, r3) := by rw [if_pos rfl] at H; exact H
  clear H; have H := H1; clear H1
  replace H := Option.bind_eq_some_iff.mp H
  obtain ⟨⟨t156, t157, t160⟩, A40, H⟩ := H
  replace H : (some (t156, t157, t160)) = some (r1, r2, r3) := H
  have A4 := Aside0.mk A40; clear A40
  simp only [Option.some.injEq, Prod.mk.injEq] at H
  obtain ⟨rfl, rfl, rfl⟩ := H
  go_enter Tryd.func27, Tryd.ntmps27
  go_wp2_with (first | ((with_reducible refine gate_dst (N := 2) rfl ?_); refine box_event ?hg (N := 2) ?hd (cs := #[.int .i64 0, .slice none 0 0]) (t := 28) ?hr ?_; (case hd => rfl); (case hg => rfl); (case hr => first | (go_simp; done) | (go_simp; rfl)); intro gb149 hg w5 hbox hb; have n0_ := am_ (below_step (bl_ HB) hb); have n1_ := am_ (hbox); have n2_ := am_ (gs_ hg HB); have n3_ := am_ (gs_ hg HB); clear HB; have HB := n0_; have BK149 := n1_; have GW149 := n2_; have GE149 := n3_; clear n0_ n1_ n2_ n3_; clear hb hbox hg) | ((with_reducible refine gate_callee (f := 78) rfl ?_); refine goesL_ (some 10) rfl rfl Tryd.func78 (by kernel_rfl) rfl #[.string a0] rfl ma_ ?_; (with_reducible refine (spec_l02Read.calls k a0 t150 t151 true _ A2.out).mono ?_); rintro e w6 ⟨v152, rfl, ho0, hb⟩; refine ⟨_, rfl, ?_⟩; have n0_ := am_ (Kd.R_lower ho0 (below_size (bl_ HB))); have n1_ := am_ (blk_below (bk_ BK149) hb); have n2_ := am_ (below_step (bl_ HB) hb); clear BK149; clear HB; have HO153 := n0_; have BK149 := n1_; have HB := n2_; clear n0_ n1_ n2_; (try clear hb); (try clear hb2); (try clear hk); (try clear hi); (try clear ho0)) | ((with_reducible refine gate_dst (N := 4) rfl ?_); refine box_event ?hg (N := 4) ?hd (cs := #[.int .i64 0, .slice none 0 0]) (t := 28) ?hr ?_; (case hd => rfl); (case hg => rfl); (case hr => first | (go_simp; done) | (go_simp; rfl)); intro gb155 hg w7 hbox hb; have n0_ := am_ (Kd.R_below (kr_ HO153) hb); have n1_ := am_ (blk_below (bk_ BK149) hb); have n2_ := am_ (below_step (bl_ HB) hb); have n3_ := am_ (hbox); have n4_ := am_ (gs_ hg HB); have n5_ := am_ (gs_ hg HB); have n6_ := am_ (nl_ hg BK149); have n7_ := am_ (ng_ hg BK149); clear HO153; clear BK149; clear HB; have HO153 := n0_; have BK149 := n1_; have HB := n2_; have BK155 := n3_; have GW155 := n4_; have GE155 := n5_; have NB149_155 := n6_; have NB155_149 := n7_; clear n0_ n1_ n2_ n3_ n4_ n5_ n6_ n7_; clear hb hbox hg; have hnb8 := NB155_149.out; have hnc8 := NB149_155.out; have hcz9_0 : w7.cell? ⟨gb155, 0, none⟩ = some (.int .i64 0) := (blk_cell BK155.out 0).trans rfl; have hcz9_1 : w7.cell? ⟨gb155, 1, none⟩ = some (.slice none 0 0) := (blk_cell BK155.out 1).trans rfl; have hfz9_0 := blk_frozen BK155.out 0; have hfz9_1 := blk_frozen BK155.out 1; obtain ⟨Ao10, co10, eo10⟩ := Kd.R_slice HO153.out; subst eo10) | ((with_reducible refine gate_store (t := 28) (p := 4) rfl ?_); refine store_event (t := 28) (p := 4) (v := ?vo_w11) (w1 := ((w7.setCell ⟨gb155, 0, none⟩ (.int .i64 t150)).setCell ⟨gb155, 1, none⟩ (.slice Ao10 t151.length co10))) ?hg ?ho ?hn ?hr ?_; (case ho => rfl); (case hg => rfl); (case hn => rfl); (case hr => first | (go_simp; done) | (go_simp; rfl)); intro w11 hw; have n0_ : Aside0 (Kd.R (Kd.int .i64) 2 w11 w.heap.size (fun _ => True) (.slice Ao10 t151.length co10) t151) := ⟨(by rw [hw]; exact (by (with_reducible repeat (first | apply Kd.R_alloc | apply Kd.R_drewN | apply Kd.R_drew)); exact Kd.R_mono (Kd.R_far (p := ⟨gb155, 1, none⟩) (Kd.R_far (p := ⟨gb155, 0, none⟩) (Kd.R_types HO153.out BK155.out (by decide)) (fun _ hk => hk.2) (.int .i64 t150)) (fun _ hk => hk.2) (.slice Ao10 t151.length co10)) (fun _ hk => trivial)))⟩; have n1_ : Aside0 (w11.heap[gb149]? = some (.cells #[.int .i64 0, .slice none 0 0] 28 (0, 0))) := ⟨(by rw [hw]; exact (bk_ BK149))⟩; have n2_ : Aside0 (w11.heap[gb155]? = some (.cells #[.int .i64 t150, .slice Ao10 t151.length co10] 28 (0, 0))) := ⟨(by rw [hw]; exact (by (with_reducible repeat (first | refine blk_drewN ?_ _ | refine blk_drew ?_ | refine blk_alloc ?_ _)); refine blk_put (cs := #[.int .i64 t150, .slice none 0 0]) ?_ 1 _ rfl; (with_reducible repeat (first | refine blk_drewN ?_ _ | refine blk_drew ?_ | refine blk_alloc ?_ _)); refine blk_put (cs := #[.int .i64 0, .slice none 0 0]) ?_ 0 _ rfl; (with_reducible repeat (first | refine blk_drewN ?_ _ | refine blk_drew ?_ | refine blk_alloc ?_ _)); exact BK155.out))⟩; have n3_ : Aside0 (Below w.heap.size w w11) := ⟨(by rw [hw]; exact (bl_ HB))⟩; clear hw; clear HO153; clear BK149; clear BK155; clear HB; have HO153 := n0_; have BK149 := n1_; have BK155 := n2_; have HB := n3_; clear n0_ n1_ n2_ n3_; have hcz12_0 : w11.cell? ⟨gb155, 0, none⟩ = some (.int .i64 t150) := (blk_cell BK155.out 0).trans rfl; have hcz12_1 : w11.cell? ⟨gb155, 1, none⟩ = some (.slice Ao10 t151.length co10) := (blk_cell BK155.out 1).trans rfl; have hfz12_0 := blk_frozen BK155.out 0; have hfz12_1 := blk_frozen BK155.out 1) | ((with_reducible refine gate_callee (f := 79) rfl ?_); refine goesL_ (some 18) rfl rfl Tryd.func79 (by kernel_rfl) rfl #[.agg #[.int .i64 t150, .slice Ao10 t151.length co10]] rfl ma_ ?_; (with_reducible refine (spec_l02Fit.calls k t150 (fun k_ => some k_ = (.slice Ao10 t151.length co10 : Value).ownBlock) (.slice Ao10 t151.length co10) t151 t156 t157 t160 w _ ?side1 ?side2 A4.out).mono ?_); (case side1 => repeat (first | (with_reducible first | exact HB.out | apply below_alloc | apply pw_below_drewN | apply below_drew1 | refine below_set ?_ GE149.out | refine below_set ?_ GE155.out) | exact HB.out)); (case side2 => exact Kd.R_tight rfl HO153.out); rintro e w13 ⟨v158, rfl, ho0, hb, hkp⟩; refine ⟨_, rfl, ?_⟩; have n0_ := am_ (blk_kept (bk_ BK149) hkp (fun hs_ => (fun e_ => (Kd.R_ne HO153.out BK149.out (by decide)) e_) hs_)); have n1_ := am_ (blk_kept (bk_ BK155) hkp (fun hs_ => (fun e_ => (Kd.R_ne HO153.out BK155.out (by decide)) e_) hs_)); have n2_ := am_ (Kd.R_mono (ok' := fun k_ => True) ho0 (fun k_ hk_ => trivial)); have n3_ := am_ (hb); clear BK149; clear BK155; clear HB; clear HO153; have BK149 := n0_; have BK155 := n1_; have HO159 := n2_; have HB := n3_; clear n0_ n1_ n2_ n3_; (try clear hb); (try clear hkp); (try clear ho0)) | ((with_reducible refine gate_dst (N := 6) rfl ?_); refine box_event ?hg (N := 6) ?hd (cs := #[.int .i64 0, .slice none 0 0]) (t := 28) ?hr ?_; (case hd => rfl); (case hg => rfl); (case hr => first | (go_simp; done) | (go_simp; rfl)); intro gb161 hg w14 hbox hb; have n0_ := am_ (Kd.R_below (kr_ HO159) hb); have n1_ := am_ (blk_below (bk_ BK149) hb); have n2_ := am_ (blk_below (bk_ BK155) hb); have n3_ := am_ (below_step (bl_ HB) hb); have n4_ := am_ (hbox); have n5_ := am_ (gs_ hg HB); have n6_ := am_ (gs_ hg HB); have n7_ := am_ (nl_ hg BK149); have n8_ := am_ (ng_ hg BK149); have n9_ := am_ (nl_ hg BK155); have n10_ := am_ (ng_ hg BK155); clear HO159; clear BK149; clear BK155; clear HB; have HO159 := n0_; have BK149 := n1_; have BK155 := n2_; have HB := n3_; have BK161 := n4_; have GW161 := n5_; have GE161 := n6_; have NB149_161 := n7_; have NB161_149 := n8_; have NB155_161 := n9_; have NB161_155 := n10_; clear n0_ n1_ n2_ n3_ n4_ n5_ n6_ n7_ n8_ n9_ n10_; clear hb hbox hg; have hnb15 := NB161_149.out; have hnc15 := NB149_161.out; have hnb16 := NB161_155.out; have hnc16 := NB155_161.out; have hcz17_0 : w14.cell? ⟨gb161, 0, none⟩ = some (.int .i64 0) := (blk_cell BK161.out 0).trans rfl; have hcz17_1 : w14.cell? ⟨gb161, 1, none⟩ = some (.slice none 0 0) := (blk_cell BK161.out 1).trans rfl; have hfz17_0 := blk_frozen BK161.out 0; have hfz17_1 := blk_frozen BK161.out 1; obtain ⟨Ao18, co18, eo18⟩ := Kd.R_slice HO159.out; subst eo18; have hcz19_0 : w14.cell? ⟨gb149, 0, none⟩ = some (.int .i64 0) := (blk_cell BK149.out 0).trans rfl; have hcz19_1 : w14.cell? ⟨gb149, 1, none⟩ = some (.slice none 0 0) := (blk_cell BK149.out 1).trans rfl; have hfz19_0 := blk_frozen BK149.out 0; have hfz19_1 := blk_frozen BK149.out 1))
  refine bodyPost_ret (results_ct rfl _ _ gb149 28 #[.int .i64 t156, .slice Ao18 t157.length co18] (0, 0) _ rfl (by (with_reducible repeat (first | refine blk_drewN ?_ _ | refine blk_drew ?_ | refine blk_alloc ?_ _)); refine blk_put (cs := #[.int .i64 t156, .slice none 0 0]) ?_ 1 _ rfl; (with_reducible repeat (first | refine blk_drewN ?_ _ | refine blk_drew ?_ | refine blk_alloc ?_ _)); refine blk_put (cs := #[.int .i64 0, .slice none 0 0]) ?_ 0 _ rfl; (with_reducible repeat (first | refine blk_drewN ?_ _ | refine blk_drew ?_ | refine blk_alloc ?_ _)); refine blk_far ?_ NB149_161.out _; (with_reducible repeat (first | refine blk_drewN ?_ _ | refine blk_drew ?_ | refine blk_alloc ?_ _)); refine blk_far ?_ NB149_161.out _; (with_reducible repeat (first | refine blk_drewN ?_ _ | refine blk_drew ?_ | refine blk_alloc ?_ _)); exact BK149.out) Tryd.underlying28 rfl (by kernel_rfl)) rfl ?_
  exact ⟨_, by first | rfl | (simp [errW_none, errW_some] <;> rfl) | (simp [*, errW_none, errW_some] <;> rfl), by (with_reducible repeat (first | apply Kd.R_alloc | apply Kd.R_drewN | apply Kd.R_drew)); exact Kd.R_mono (Kd.R_far (p := ⟨gb149, 1, none⟩) (Kd.R_far (p := ⟨gb149, 0, none⟩) (Kd.R_far (p := ⟨gb161, 1, none⟩) (Kd.R_far (p := ⟨gb161, 0, none⟩) (Kd.R_types (Kd.R_types HO159.out BK161.out (by decide)) BK149.out (by decide)) (fun _ hk => hk.1.2) (.int .i64 t156)) (fun _ hk => hk.1.2) (.slice Ao18 t157.length co18)) (fun _ hk => hk.2) (.int .i64 t156)) (fun _ hk => hk.2) (.slice Ao18 t157.length co18)) (fun _ hk => trivial), bl_ HB⟩
 ·replace c3 := Bool.eq_false_iff.mpr c3
  subst c3
  have H1 : (some (0, ([] : List Int), 6)) = some (r1, r2, r3) := by rw [if_neg (show ¬ (false = true) by decide)] at H; exact H
  clear H; have H := H1; clear H1
  simp only [Option.some.injEq, Prod.mk.injEq] at H
  obtain ⟨rfl, rfl, rfl⟩ := H
  go_enter Tryd.func27, Tryd.ntmps27
  go_wp2_with (first | ((with_reducible refine gate_dst (N := 2) rfl ?_); refine box_event ?hg (N := 2) ?hd (cs := #[.int .i64 0, .slice none 0 0]) (t := 28) ?hr ?_; (case hd => rfl); (case hg => rfl); (case hr => first | (go_simp; done) | (go_simp; rfl)); intro gb149 hg w20 hbox hb; have n0_ := am_ (below_step (bl_ HB) hb); have n1_ := am_ (hbox); have n2_ := am_ (gs_ hg HB); have n3_ := am_ (gs_ hg HB); clear HB; have HB := n0_; have BK149 := n1_; have GW149 := n2_; have GE149 := n3_; clear n0_ n1_ n2_ n3_; clear hb hbox hg) | ((with_reducible refine gate_callee (f := 78) rfl ?_); refine goesL_ (some 10) rfl rfl Tryd.func78 (by kernel_rfl) rfl #[.string a0] rfl ma_ ?_; (with_reducible refine (spec_l02Read.calls k a0 t150 t151 false _ A2.out).mono ?_); rintro e w21 ⟨v152, rfl, ho0, hb⟩; refine ⟨_, rfl, ?_⟩; have n0_ := am_ (Kd.R_lower ho0 (below_size (bl_ HB))); have n1_ := am_ (blk_below (bk_ BK149) hb); have n2_ := am_ (below_step (bl_ HB) hb); clear BK149; clear HB; have HO153 := n0_; have BK149 := n1_; have HB := n2_; clear n0_ n1_ n2_; (try clear hb); (try clear hb2); (try clear hk); (try clear hi); (try clear ho0)) | ((with_reducible refine gate_dst (N := 4) rfl ?_); refine box_event ?hg (N := 4) ?hd (cs := #[.int .i64 0, .slice none 0 0]) (t := 28) ?hr ?_; (case hd => rfl); (case hg => rfl); (case hr => first | (go_simp; done) | (go_simp; rfl)); intro gb155 hg w22 hbox hb; have n0_ := am_ (Kd.R_below (kr_ HO153) hb); have n1_ := am_ (blk_below (bk_ BK149) hb); have n2_ := am_ (below_step (bl_ HB) hb); have n3_ := am_ (hbox); have n4_ := am_ (gs_ hg HB); have n5_ := am_ (gs_ hg HB); have n6_ := am_ (nl_ hg BK149); have n7_ := am_ (ng_ hg BK149); clear HO153; clear BK149; clear HB; have HO153 := n0_; have BK149 := n1_; have HB := n2_; have BK155 := n3_; have GW155 := n4_; have GE155 := n5_; have NB149_155 := n6_; have NB155_149 := n7_; clear n0_ n1_ n2_ n3_ n4_ n5_ n6_ n7_; clear hb hbox hg; have hnb23 := NB155_149.out; have hnc23 := NB149_155.out; have hcz24_0 : w22.cell? ⟨gb155, 0, none⟩ = some (.int .i64 0) := (blk_cell BK155.out 0).trans rfl; have hcz24_1 : w22.cell? ⟨gb155, 1, none⟩ = some (.slice none 0 0) := (blk_cell BK155.out 1).trans rfl; have hfz24_0 := blk_frozen BK155.out 0; have hfz24_1 := blk_frozen BK155.out 1; obtain ⟨Ao25, co25, eo25⟩ := Kd.R_slice HO153.out; subst eo25; have hcz26_0 : w22.cell? ⟨gb149, 0, none⟩ = some (.int .i64 0) := (blk_cell BK149.out 0).trans rfl; have hcz26_1 : w22.cell? ⟨gb149, 1, none⟩ = some (.slice none 0 0) := (blk_cell BK149.out 1).trans rfl; have hfz26_0 := blk_frozen BK149.out 0; have hfz26_1 := blk_frozen BK149.out 1))
  refine bodyPost_ret (results_ct rfl _ _ gb149 28 #[.int .i64 0, .slice none 0 0] (0, 0) _ rfl (by (with_reducible repeat (first | refine blk_drewN ?_ _ | refine blk_drew ?_ | refine blk_alloc ?_ _)); refine blk_put (cs := #[.int .i64 0, .slice none 0 0]) ?_ 1 _ rfl; (with_reducible repeat (first | refine blk_drewN ?_ _ | refine blk_drew ?_ | refine blk_alloc ?_ _)); refine blk_put (cs := #[.int .i64 0, .slice none 0 0]) ?_ 0 _ rfl; (with_reducible repeat (first | refine blk_drewN ?_ _ | refine blk_drew ?_ | refine blk_alloc ?_ _)); refine blk_far ?_ NB149_155.out _; (with_reducible repeat (first | refine blk_drewN ?_ _ | refine blk_drew ?_ | refine blk_alloc ?_ _)); refine blk_far ?_ NB149_155.out _; (with_reducible repeat (first | refine blk_drewN ?_ _ | refine blk_drew ?_ | refine blk_alloc ?_ _)); exact BK149.out) Tryd.underlying28 rfl (by kernel_rfl)) rfl ?_
  exact ⟨_, by first | rfl | (simp [errW_none, errW_some] <;> rfl) | (simp [*, errW_none, errW_some] <;> rfl), by first | exact Kd.R_nil _ _ _ _ _ | exact Kd.N_nil _ _ _ _ _ | exact Kd.V_nil _ _ _ _ _ | exact Kd.Q_nil _ _ _ _ _ | exact Kd.S_nil _ _ _ _ _, bl_ HB⟩

/-! ### laws_FnExactParseWhole: function 5 -/
mutual
def laws_FnExactParseWhole.j0 : Nat → ByteArray → Int → Bool → Int → List Int → Int → List Int → Option (Bool)
  | 0, _, _, _, _, _, _, _ => none
  | k + 1, x0, x4, x32, x168000, x168001, x174000, x174001 => if x32 = true then (some false) else ((laws_markWhole.f k x174000 x174001 1).bind fun bt175 => ((laws_heldWhole.f k x174000 bt175.2 1).bind fun t177 => (if t177 < 0 then (some false) else (if t177 = bt175.1 then ((impl_ParseWhole.f x0).bind fun bt178 => ((laws_eqWhole.f k bt178.1 bt178.2.1 x168000 x168001).bind fun t184 => (if t184 = true then (laws_FnExactParseWhole.j1 k bt175.1 (bt178.2.2 != x4) x174000 bt175.2) else (laws_FnExactParseWhole.j1 k bt175.1 true x174000 bt175.2)))) else (some false)))))
def laws_FnExactParseWhole.j1 : Nat → Int → Bool → Int → List Int → Option (Bool)
  | 0, _, _, _, _ => none
  | k + 1, x7, x57, x174000, x174001 => if x57 = true then (some false) else ((laws_heldWhole.f k x174000 x174001 1).bind fun t185 => (if t185 < 0 then (some false) else (if t185 = x7 then (some true) else (some false))))
end
def laws_FnExactParseWhole.f (k : Nat) (a0 : ByteArray) : Option (Bool) := if (a0.size : Int) > 1048576 then (some true) else ((spec_ParseWhole.f k a0).bind fun bt162 => ((impl_ParseWhole.f a0).bind fun bt168 => ((laws_eqWhole.f k bt168.1 bt168.2.1 bt162.1 bt162.2.1).bind fun t174 => (if t174 = true then (laws_FnExactParseWhole.j0 k a0 bt162.2.2 (bt168.2.2 != bt162.2.2) bt162.1 bt162.2.1 bt168.1 bt168.2.1) else (laws_FnExactParseWhole.j0 k a0 bt162.2.2 true bt162.1 bt162.2.1 bt168.1 bt168.2.1)))))
theorem laws_FnExactParseWhole.mono_l : ∀ k, (∀ y0 y1 y2 y3 y4 y5 y6, LeO (laws_FnExactParseWhole.j0 k y0 y1 y2 y3 y4 y5 y6) (laws_FnExactParseWhole.j0 (k + 1) y0 y1 y2 y3 y4 y5 y6)) ∧ (∀ y0 y1 y2 y3, LeO (laws_FnExactParseWhole.j1 k y0 y1 y2 y3) (laws_FnExactParseWhole.j1 (k + 1) y0 y1 y2 y3))
  | 0 => ⟨fun _ _ _ _ _ _ _ r h => by simp [laws_FnExactParseWhole.j0] at h, fun _ _ _ _ r h => by simp [laws_FnExactParseWhole.j1] at h⟩
  | k + 1 => by
    obtain ⟨ih0, ih1⟩ := laws_FnExactParseWhole.mono_l k
    refine ⟨?_, ?_⟩
    · intro y0 y1 y2 y3 y4 y5 y6
      unfold laws_FnExactParseWhole.j0
      repeat' first
      | (with_reducible exact ih0 _ _ _ _ _ _ _)
      | (with_reducible exact ih1 _ _ _ _)
      | (with_reducible exact laws_eqWhole.mono _ _ _ _ _)
      | (with_reducible exact laws_heldWhole.mono _ _ _ _)
      | (with_reducible exact laws_markWhole.mono _ _ _ _)
      | (with_reducible exact spec_ParseWhole.mono _ _)
      | (with_reducible exact LeO.refl _)
      | (with_reducible exact LeO.none _)
      | (with_reducible refine LeO.ite ?_ ?_)
      | (with_reducible refine LeO.bind ?_ (fun _ => ?_))
      | exact ih0 _ _ _ _ _ _ _
      | exact ih1 _ _ _ _
      | exact laws_eqWhole.mono _ _ _ _ _
      | exact laws_heldWhole.mono _ _ _ _
      | exact laws_markWhole.mono _ _ _ _
      | exact spec_ParseWhole.mono _ _
      | exact LeO.none _
      | refine LeO.ite ?_ ?_
      | refine LeO.bind ?_ (fun _ => ?_)
    · intro y0 y1 y2 y3
      unfold laws_FnExactParseWhole.j1
      repeat' first
      | (with_reducible exact ih0 _ _ _ _ _ _ _)
      | (with_reducible exact ih1 _ _ _ _)
      | (with_reducible exact laws_eqWhole.mono _ _ _ _ _)
      | (with_reducible exact laws_heldWhole.mono _ _ _ _)
      | (with_reducible exact laws_markWhole.mono _ _ _ _)
      | (with_reducible exact spec_ParseWhole.mono _ _)
      | (with_reducible exact LeO.refl _)
      | (with_reducible exact LeO.none _)
      | (with_reducible refine LeO.ite ?_ ?_)
      | (with_reducible refine LeO.bind ?_ (fun _ => ?_))
      | exact ih0 _ _ _ _ _ _ _
      | exact ih1 _ _ _ _
      | exact laws_eqWhole.mono _ _ _ _ _
      | exact laws_heldWhole.mono _ _ _ _
      | exact laws_markWhole.mono _ _ _ _
      | exact spec_ParseWhole.mono _ _
      | exact LeO.none _
      | refine LeO.ite ?_ ?_
      | refine LeO.bind ?_ (fun _ => ?_)
theorem laws_FnExactParseWhole.mono : ∀ a0 k, LeO (laws_FnExactParseWhole.f k a0) (laws_FnExactParseWhole.f (k + 1) a0) := by
  intro a0 k
  obtain ⟨ih0, ih1⟩ := laws_FnExactParseWhole.mono_l k
  unfold laws_FnExactParseWhole.f
  repeat' first
      | (with_reducible exact ih0 _ _ _ _ _ _ _)
      | (with_reducible exact ih1 _ _ _ _)
      | (with_reducible exact laws_eqWhole.mono _ _ _ _ _)
      | (with_reducible exact laws_heldWhole.mono _ _ _ _)
      | (with_reducible exact laws_markWhole.mono _ _ _ _)
      | (with_reducible exact spec_ParseWhole.mono _ _)
      | (with_reducible exact LeO.refl _)
      | (with_reducible exact LeO.none _)
      | (with_reducible refine LeO.ite ?_ ?_)
      | (with_reducible refine LeO.bind ?_ (fun _ => ?_))
      | exact ih0 _ _ _ _ _ _ _
      | exact ih1 _ _ _ _
      | exact laws_eqWhole.mono _ _ _ _ _
      | exact laws_heldWhole.mono _ _ _ _
      | exact laws_markWhole.mono _ _ _ _
      | exact spec_ParseWhole.mono _ _
      | exact LeO.none _
      | refine LeO.ite ?_ ?_
      | refine LeO.bind ?_ (fun _ => ?_)
set_option maxHeartbeats 8000000 in
set_option maxRecDepth 100000 in
theorem laws_FnExactParseWhole.calls (k : Nat) (a0 : ByteArray) (r : Bool) (w : World) (h : laws_FnExactParseWhole.f k a0 = some r) :
  Calls Tryd.prog 5 #[.string a0] w fun e w' => e = .returned (.bool r) ∧ Below w.heap.size w w' := by
 have hu28 := Tryd.underlying28; have HB := am_ (Below.refl w.heap.size w)
 have H : (if (a0.size : Int) > 1048576 then (some true) else ((spec_ParseWhole.f k a0).bind fun bt162 => ((impl_ParseWhole.f a0).bind fun bt168 => ((laws_eqWhole.f k bt168.1 bt168.2.1 bt162.1 bt162.2.1).bind fun t174 => (if t174 = true then (laws_FnExactParseWhole.j0 k a0 bt162.2.2 (bt168.2.2 != bt162.2.2) bt162.1 bt162.2.1 bt168.1 bt168.2.1) else (laws_FnExactParseWhole.j0 k a0 bt162.2.2 true bt162.1 bt162.2.1 bt168.1 bt168.2.1)))))) = some r := h
 clear h
 by_cases c2 : (a0.size : Int) > 1048576
 ·rw [if_pos c2] at H
  have c2b0 : decide (1048576 < (a0.size : Int)) = true := decide_eq_true c2
  have c2b1 : decide (1048576 < a0.size) = true := decide_eq_true (by omega)
  clear c2; obtain rfl := Option.some.inj H
  go_enter Tryd.func5, Tryd.ntmps5
  go_wp2
  go_ret
  exact ⟨by first | rfl | (simp [errW_none, errW_some] <;> rfl) | (simp [*, errW_none, errW_some] <;> rfl), bl_ HB⟩
 ·rw [if_neg c2] at H
  have c2b0 : decide (1048576 < (a0.size : Int)) = false := decide_eq_false c2
  have c2b1 : decide (1048576 < a0.size) = false := decide_eq_false (by omega)
  clear c2
  replace H := Option.bind_eq_some_iff.mp H
  obtain ⟨⟨t162, t163, t166⟩, A30, H⟩ := H
  replace H : ((impl_ParseWhole.f a0).bind fun bt168 => ((laws_eqWhole.f k bt168.1 bt168.2.1 t162 t163).bind fun t174 => (if t174 = true then (laws_FnExactParseWhole.j0 k a0 t166 (bt168.2.2 != t166) t162 t163 bt168.1 bt168.2.1) else (laws_FnExactParseWhole.j0 k a0 t166 true t162 t163 bt168.1 bt168.2.1)))) = some r := H
  have A3 := Aside0.mk A30; clear A30
  replace H := Option.bind_eq_some_iff.mp H
  obtain ⟨⟨t168, t169, t172⟩, A40, H⟩ := H
  replace H : ((laws_eqWhole.f k t168 t169 t162 t163).bind fun t174 => (if t174 = true then (laws_FnExactParseWhole.j0 k a0 t166 (t172 != t166) t162 t163 t168 t169) else (laws_FnExactParseWhole.j0 k a0 t166 true t162 t163 t168 t169))) = some r := H
  have A4 := Aside0.mk A40; clear A40; have HC5 := Aside0.mk H; clear H
  go_enter Tryd.func5, Tryd.ntmps5
  go_upto_region 5 with (first | ((with_reducible refine gate_callee (f := 27) rfl ?_); refine goesL_ (some 16) rfl rfl Tryd.func27 (by kernel_rfl) rfl #[.string a0] rfl ma_ ?_; (with_reducible refine (spec_ParseWhole.calls k a0 t162 t163 t166 _ A3.out).mono ?_); rintro e w6 ⟨v164, rfl, ho0, hb⟩; refine ⟨_, rfl, ?_⟩; have n0_ := am_ (Kd.R_lower ho0 (below_size (bl_ HB))); have n1_ := am_ (below_step (bl_ HB) hb); clear HB; have HO165 := n0_; have HB := n1_; clear n0_ n1_; (try clear hb); (try clear hb2); (try clear hk); (try clear hi); (try clear ho0)) | ((with_reducible refine gate_dst (N := 3) rfl ?_); refine box_event ?hg (N := 3) ?hd (cs := #[.int .i64 0, .slice none 0 0]) (t := 28) ?hr ?_; (case hd => rfl); (case hg => rfl); (case hr => first | (go_simp; done) | (go_simp; rfl)); intro gb167 hg w7 hbox hb; have n0_ := am_ (Kd.R_below (kr_ HO165) hb); have n1_ := am_ (below_step (bl_ HB) hb); have n2_ := am_ (hbox); have n3_ := am_ (gs_ hg HB); have n4_ := am_ (gs_ hg HB); clear HO165; clear HB; have HO165 := n0_; have HB := n1_; have BK167 := n2_; have GW167 := n3_; have GE167 := n4_; clear n0_ n1_ n2_ n3_ n4_; clear hb hbox hg; have hcz8_0 : w7.cell? ⟨gb167, 0, none⟩ = some (.int .i64 0) := (blk_cell BK167.out 0).trans rfl; have hcz8_1 : w7.cell? ⟨gb167, 1, none⟩ = some (.slice none 0 0) := (blk_cell BK167.out 1).trans rfl; have hfz8_0 := blk_frozen BK167.out 0; have hfz8_1 := blk_frozen BK167.out 1; obtain ⟨Ao9, co9, eo9⟩ := Kd.R_slice HO165.out; subst eo9) | ((with_reducible refine gate_callee (f := 28) rfl ?_); refine goesL_ (some 21) rfl rfl Tryd.func28 (by kernel_rfl) rfl #[.string a0] rfl ma_ ?_; (with_reducible refine (impl_ParseWhole.calls a0 t168 t169 t172 _ A4.out).mono ?_); rintro e w10 ⟨v170, rfl, ho0, hb⟩; refine ⟨_, rfl, ?_⟩; have n0_ := am_ (Kd.R_elder' (rg_ HO165 BK167) (Kd.R_base ho0) hb); have n1_ := am_ (Kd.R_lower (Kd.R_new' ho0 (Kd.R_lt (rg_ HO165 BK167))) (below_size (bl_ HB))); have n2_ := am_ (blk_below (g := gb167) (o := .cells #[.int .i64 t162, .slice Ao9 t163.length co9] 28 (0, 0)) (by (with_reducible repeat (first | refine blk_drewN ?_ _ | refine blk_drew ?_ | refine blk_alloc ?_ _)); refine blk_put (cs := #[.int .i64 t162, .slice none 0 0]) ?_ 1 _ rfl; (with_reducible repeat (first | refine blk_drewN ?_ _ | refine blk_drew ?_ | refine blk_alloc ?_ _)); refine blk_put (cs := #[.int .i64 0, .slice none 0 0]) ?_ 0 _ rfl; (with_reducible repeat (first | refine blk_drewN ?_ _ | refine blk_drew ?_ | refine blk_alloc ?_ _)); exact BK167.out) hb); have n3_ := am_ (below_step (bl_ HB) hb); clear HO165; clear BK167; clear HB; have HO165 := n0_; have HO171 := n1_; have BK167 := n2_; have HB := n3_; clear n0_ n1_ n2_ n3_; (try clear hb); (try clear hb2); (try clear hk); (try clear hi); (try clear ho0)) | ((with_reducible refine gate_dst (N := 5) rfl ?_); refine box_event ?hg (N := 5) ?hd (cs := #[.int .i64 0, .slice none 0 0]) (t := 28) ?hr ?_; (case hd => rfl); (case hg => rfl); (case hr => first | (go_simp; done) | (go_simp; rfl)); intro gb173 hg w11 hbox hb; have n0_ := am_ (Kd.R_below (kr_ HO165) hb); have n1_ := am_ (Kd.R_below (kr_ HO171) hb); have n2_ := am_ (blk_below (bk_ BK167) hb); have n3_ := am_ (below_step (bl_ HB) hb); have n4_ := am_ (hbox); have n5_ := am_ (gs_ hg HB); have n6_ := am_ (gs_ hg HB); have n7_ := am_ (nl_ hg BK167); have n8_ := am_ (ng_ hg BK167); clear HO165; clear HO171; clear BK167; clear HB; have HO165 := n0_; have HO171 := n1_; have BK167 := n2_; have HB := n3_; have BK173 := n4_; have GW173 := n5_; have GE173 := n6_; have NB167_173 := n7_; have NB173_167 := n8_; clear n0_ n1_ n2_ n3_ n4_ n5_ n6_ n7_ n8_; clear hb hbox hg; have hnb12 := NB173_167.out; have hnc12 := NB167_173.out; have hcz13_0 : w11.cell? ⟨gb173, 0, none⟩ = some (.int .i64 0) := (blk_cell BK173.out 0).trans rfl; have hcz13_1 : w11.cell? ⟨gb173, 1, none⟩ = some (.slice none 0 0) := (blk_cell BK173.out 1).trans rfl; have hfz13_0 := blk_frozen BK173.out 0; have hfz13_1 := blk_frozen BK173.out 1; obtain ⟨Ao14, co14, eo14⟩ := Kd.R_slice HO171.out; subst eo14))
  (try simp only [Act.put, List.setIfInBounds_toArray, List.set_cons_zero, List.set_cons_succ])
  go_cut [32] (fun v32 wc => ∃ (kq : Nat) (x32_4 : Bool), v32 = .bool x32_4 ∧ Aside0 (laws_FnExactParseWhole.j0 kq a0 t166 x32_4 t162 t163 t168 t169 = some r) ∧ Aside0 (kq ≤ k) ∧ Aside0 (Kd.R (Kd.int .i64) 2 wc w.heap.size (fun k_ => some k_ ≠ ((.slice Ao14 t169.length co14) : Value).ownBlock) (.slice Ao9 t163.length co9) t163) ∧ Aside0 (Kd.R (Kd.int .i64) 2 wc w.heap.size (fun k_ => some k_ ≠ ((.slice Ao9 t163.length co9) : Value).ownBlock) (.slice Ao14 t169.length co14) t169) ∧ Aside0 (wc.heap[gb167]? = some (.cells #[.int .i64 t162, (.slice Ao9 t163.length co9)] 28 (0, 0))) ∧ Aside0 (wc.heap[gb173]? = some (.cells #[.int .i64 t168, (.slice Ao14 t169.length co14)] 28 (0, 0))) ∧ Aside0 (Below w.heap.size w wc))
  case first =>
   have H := HC5.out; clear HC5
   replace H := Option.bind_eq_some_iff.mp H
   obtain ⟨t174, A150, H⟩ := H
   replace H : (if t174 = true then (laws_FnExactParseWhole.j0 k a0 t166 (t172 != t166) t162 t163 t168 t169) else (laws_FnExactParseWhole.j0 k a0 t166 true t162 t163 t168 t169)) = some r := H
   have A15 := Aside0.mk A150; clear A150
   by_cases c16 : t174 = true
   ·subst c16
    have H1 : (laws_FnExactParseWhole.j0 k a0 t166 (t172 != t166) t162 t163 t168 t169) = some r := by rw [if_pos rfl] at H; exact H
    clear H; have H := H1; clear H1
    have H' := Aside0.mk H
    clear H; have hnb17 := NB173_167.out; have hnc17 := NB167_173.out
    have hcz18_0 : w11.cell? ⟨gb173, 0, none⟩ = some (.int .i64 0) := (blk_cell BK173.out 0).trans rfl
    have hcz18_1 : w11.cell? ⟨gb173, 1, none⟩ = some (.slice none 0 0) := (blk_cell BK173.out 1).trans rfl
    have hfz18_0 := blk_frozen BK173.out 0; have hfz18_1 := blk_frozen BK173.out 1
    have hcz19_0 : w11.cell? ⟨gb167, 0, none⟩ = some (.int .i64 t162) := (blk_cell BK167.out 0).trans rfl
    have hcz19_1 : w11.cell? ⟨gb167, 1, none⟩ = some (.slice Ao9 t163.length co9) := (blk_cell BK167.out 1).trans rfl
    have hfz19_0 := blk_frozen BK167.out 0; have hfz19_1 := blk_frozen BK167.out 1
    go_wp2_with (first | ((with_reducible refine gate_callee (f := 22) rfl ?_); refine goesL_ (some 26) rfl rfl Tryd.func22 (by kernel_rfl) rfl #[.agg #[.int .i64 t168, .slice Ao14 t169.length co14], .agg #[.int .i64 t162, .slice Ao9 t163.length co9]] rfl ma_ ?_; (with_reducible refine (laws_eqWhole.calls k t168 _ _ t169 t162 _ _ t163 true _ ?side1 ?side2 ?side3 ?side4 A15.out).mono ?_); (case side1 => refine (Kd.R_reads' (e := 2) (base := w.heap.size) (ok := fun k_ => (True ∧ some k_ ≠ (.slice Ao9 t163.length co9 : Value).ownBlock)) (n := t169.length) (c := co14) ?_).2.2; exact (rg_ HO171 BK173)); (case side2 => exact (Kd.R_reads' HO171.out).2.1); (case side3 => refine (Kd.R_reads' (e := 2) (base := w.heap.size) (ok := fun k_ => (True ∧ some k_ ≠ (.slice Ao14 t169.length co14 : Value).ownBlock)) (n := t163.length) (c := co9) ?_).2.2; exact (rg_ HO165 BK173)); (case side4 => exact (Kd.R_reads' HO165.out).2.1); rintro e w20 ⟨rfl, hb⟩; refine ⟨_, rfl, ?_⟩; have n0_ := am_ (Kd.R_below (rg_ HO165 BK173) hb); have n1_ := am_ (Kd.R_below (rg_ HO171 BK173) hb); have n2_ := am_ (blk_below (bk_ BK167) hb); have n3_ := am_ (blk_below (g := gb173) (o := .cells #[.int .i64 t168, .slice Ao14 t169.length co14] 28 (0, 0)) (by (with_reducible repeat (first | refine blk_drewN ?_ _ | refine blk_drew ?_ | refine blk_alloc ?_ _)); refine blk_put (cs := #[.int .i64 t168, .slice none 0 0]) ?_ 1 _ rfl; (with_reducible repeat (first | refine blk_drewN ?_ _ | refine blk_drew ?_ | refine blk_alloc ?_ _)); refine blk_put (cs := #[.int .i64 0, .slice none 0 0]) ?_ 0 _ rfl; (with_reducible repeat (first | refine blk_drewN ?_ _ | refine blk_drew ?_ | refine blk_alloc ?_ _)); exact BK173.out) hb); have n4_ := am_ (below_step (bl_ HB) hb); clear HO165; clear HO171; clear BK167; clear BK173; clear HB; have HO165 := n0_; have HO171 := n1_; have BK167 := n2_; have BK173 := n3_; have HB := n4_; clear n0_ n1_ n2_ n3_ n4_; (try clear hb); (try clear hb2); (try clear hk); (try clear hi)))
    go_meet
    case rel => exact ⟨_, ((t172 != t166)), (by first | rfl | (simp; done) | (simp [*]; done)), H', ⟨by first | omega | exact Nat.le_refl _⟩, ⟨km_ HO165 (fun _ hk => hk.2)⟩, ⟨km_ HO171 (fun _ hk => hk.2)⟩, ⟨bk_ BK167⟩, ⟨bk_ BK173⟩, ⟨bl_ HB⟩⟩
   ·replace c16 := Bool.eq_false_iff.mpr c16
    subst c16
    have H1 : (laws_FnExactParseWhole.j0 k a0 t166 true t162 t163 t168 t169) = some r := by rw [if_neg (show ¬ (false = true) by decide)] at H; exact H
    clear H; have H := H1; clear H1
    have H' := Aside0.mk H
    clear H; have hnb21 := NB173_167.out; have hnc21 := NB167_173.out
    have hcz22_0 : w11.cell? ⟨gb173, 0, none⟩ = some (.int .i64 0) := (blk_cell BK173.out 0).trans rfl
    have hcz22_1 : w11.cell? ⟨gb173, 1, none⟩ = some (.slice none 0 0) := (blk_cell BK173.out 1).trans rfl
    have hfz22_0 := blk_frozen BK173.out 0; have hfz22_1 := blk_frozen BK173.out 1
    have hcz23_0 : w11.cell? ⟨gb167, 0, none⟩ = some (.int .i64 t162) := (blk_cell BK167.out 0).trans rfl
    have hcz23_1 : w11.cell? ⟨gb167, 1, none⟩ = some (.slice Ao9 t163.length co9) := (blk_cell BK167.out 1).trans rfl
    have hfz23_0 := blk_frozen BK167.out 0; have hfz23_1 := blk_frozen BK167.out 1
    go_wp2_with (first | ((with_reducible refine gate_callee (f := 22) rfl ?_); refine goesL_ (some 26) rfl rfl Tryd.func22 (by kernel_rfl) rfl #[.agg #[.int .i64 t168, .slice Ao14 t169.length co14], .agg #[.int .i64 t162, .slice Ao9 t163.length co9]] rfl ma_ ?_; (with_reducible refine (laws_eqWhole.calls k t168 _ _ t169 t162 _ _ t163 false _ ?side1 ?side2 ?side3 ?side4 A15.out).mono ?_); (case side1 => refine (Kd.R_reads' (e := 2) (base := w.heap.size) (ok := fun k_ => (True ∧ some k_ ≠ (.slice Ao9 t163.length co9 : Value).ownBlock)) (n := t169.length) (c := co14) ?_).2.2; exact (rg_ HO171 BK173)); (case side2 => exact (Kd.R_reads' HO171.out).2.1); (case side3 => refine (Kd.R_reads' (e := 2) (base := w.heap.size) (ok := fun k_ => (True ∧ some k_ ≠ (.slice Ao14 t169.length co14 : Value).ownBlock)) (n := t163.length) (c := co9) ?_).2.2; exact (rg_ HO165 BK173)); (case side4 => exact (Kd.R_reads' HO165.out).2.1); rintro e w24 ⟨rfl, hb⟩; refine ⟨_, rfl, ?_⟩; have n0_ := am_ (Kd.R_below (rg_ HO165 BK173) hb); have n1_ := am_ (Kd.R_below (rg_ HO171 BK173) hb); have n2_ := am_ (blk_below (bk_ BK167) hb); have n3_ := am_ (blk_below (g := gb173) (o := .cells #[.int .i64 t168, .slice Ao14 t169.length co14] 28 (0, 0)) (by (with_reducible repeat (first | refine blk_drewN ?_ _ | refine blk_drew ?_ | refine blk_alloc ?_ _)); refine blk_put (cs := #[.int .i64 t168, .slice none 0 0]) ?_ 1 _ rfl; (with_reducible repeat (first | refine blk_drewN ?_ _ | refine blk_drew ?_ | refine blk_alloc ?_ _)); refine blk_put (cs := #[.int .i64 0, .slice none 0 0]) ?_ 0 _ rfl; (with_reducible repeat (first | refine blk_drewN ?_ _ | refine blk_drew ?_ | refine blk_alloc ?_ _)); exact BK173.out) hb); have n4_ := am_ (below_step (bl_ HB) hb); clear HO165; clear HO171; clear BK167; clear BK173; clear HB; have HO165 := n0_; have HO171 := n1_; have BK167 := n2_; have BK173 := n3_; have HB := n4_; clear n0_ n1_ n2_ n3_ n4_; (try clear hb); (try clear hb2); (try clear hk); (try clear hi)))
    go_meet
    case rel => exact ⟨_, (true), (by first | rfl | (simp; done) | (simp [*]; done)), H', ⟨by first | omega | exact Nat.le_refl _⟩, ⟨km_ HO165 (fun _ hk => hk.2)⟩, ⟨km_ HO171 (fun _ hk => hk.2)⟩, ⟨bk_ BK167⟩, ⟨bk_ BK173⟩, ⟨bl_ HB⟩⟩
  case rest =>
   clear HC5; try clear c1; try clear c2; try clear c2b0; try clear c2b1; try clear p2; try clear c5; try clear c12; try clear c16; try clear c17; try clear c21; try clear c22; try clear hcz13_0; try clear hcz13_1; try clear hcz18_0; try clear hcz18_1; try clear hcz19_0; try clear hcz19_1; try clear hcz22_0; try clear hcz22_1; try clear hcz23_0; try clear hcz23_1; try clear hcz8_0; try clear hcz8_1; try clear hfz13_0; try clear hfz13_1; try clear hfz18_0; try clear hfz18_1; try clear hfz19_0; try clear hfz19_1; try clear hfz22_0; try clear hfz22_1; try clear hfz23_0; try clear hfz23_1; try clear hfz8_0; try clear hfz8_1
   obtain ⟨kq, x32_4, rfl, HA, HJ4, HO_168001, HO_174001, BK167, BK173, HB⟩ := hcut
   cases kq with
   | zero => exact absurd HA.out (by simp [laws_FnExactParseWhole.j0])
   | succ kj4 =>
    have H := HA.out; clear HA
    simp only [laws_FnExactParseWhole.j0] at H
    by_cases c25 : x32_4 = true
    ·subst c25
     have H1 : (some false) = some r := by rw [if_pos rfl] at H; exact H
     clear H; have H := H1; clear H1; obtain rfl := Option.some.inj H
     go_wp2
     go_ret
     exact ⟨by first | rfl | (simp [errW_none, errW_some] <;> rfl) | (simp [*, errW_none, errW_some] <;> rfl), bl_ HB⟩
    ·replace c25 := Bool.eq_false_iff.mpr c25
     subst c25
     have H1 : ((laws_markWhole.f kj4 t168 t169 1).bind fun bt175 => ((laws_heldWhole.f kj4 t168 bt175.2 1).bind fun t177 => (if t177 < 0 then (some false) else (if t177 = bt175.1 then ((impl_ParseWhole.f a0).bind fun bt178 => ((laws_eqWhole.f kj4 bt178.1 bt178.2.1 t162 t163).bind fun t184 => (if t184 = true then (laws_FnExactParseWhole.j1 kj4 bt175.1 (bt178.2.2 != t166) t168 bt175.2) else (laws_FnExactParseWhole.j1 kj4 bt175.1 true t168 bt175.2)))) else (some false))))) = some r := by rw [if_neg (show ¬ (false = true) by decide)] at H; exact H
     clear H; have H := H1; clear H1
     replace H := Option.bind_eq_some_iff.mp H
     obtain ⟨⟨t175, t176⟩, A260, H⟩ := H
     replace H : ((laws_heldWhole.f kj4 t168 t176 1).bind fun t177 => (if t177 < 0 then (some false) else (if t177 = t175 then ((impl_ParseWhole.f a0).bind fun bt178 => ((laws_eqWhole.f kj4 bt178.1 bt178.2.1 t162 t163).bind fun t184 => (if t184 = true then (laws_FnExactParseWhole.j1 kj4 t175 (bt178.2.2 != t166) t168 t176) else (laws_FnExactParseWhole.j1 kj4 t175 true t168 t176)))) else (some false)))) = some r := H
     have A26 := Aside0.mk A260; clear A260
     replace H := Option.bind_eq_some_iff.mp H
     obtain ⟨t177, A270, H⟩ := H
     replace H : (if t177 < 0 then (some false) else (if t177 = t175 then ((impl_ParseWhole.f a0).bind fun bt178 => ((laws_eqWhole.f kj4 bt178.1 bt178.2.1 t162 t163).bind fun t184 => (if t184 = true then (laws_FnExactParseWhole.j1 kj4 t175 (bt178.2.2 != t166) t168 t176) else (laws_FnExactParseWhole.j1 kj4 t175 true t168 t176)))) else (some false))) = some r := H
     have A27 := Aside0.mk A270; clear A270
     by_cases c28 : t177 < 0
     ·rw [if_pos c28] at H
      have c28b0 : decide (t177 < 0) = true := decide_eq_true c28
      clear c28; obtain rfl := Option.some.inj H; have hnb29 := NB173_167.out; have hnc29 := NB167_173.out
      have hcz30_0 : wc.cell? ⟨gb173, 0, none⟩ = some (.int .i64 t168) := (blk_cell BK173.out 0).trans rfl
      have hcz30_1 : wc.cell? ⟨gb173, 1, none⟩ = some (.slice Ao14 t169.length co14) := (blk_cell BK173.out 1).trans rfl
      have hfz30_0 := blk_frozen BK173.out 0; have hfz30_1 := blk_frozen BK173.out 1
      go_wp2_with (first | ((with_reducible refine gate_callee (f := 25) rfl ?_); refine goesL_ (some 35) rfl rfl Tryd.func25 (by kernel_rfl) rfl #[.agg #[.int .i64 t168, .slice Ao14 t169.length co14], .int .i64 1] rfl ma_ ?_; (with_reducible refine (laws_markWhole.calls kj4 t168 (fun k_ => some k_ = (.slice Ao14 t169.length co14 : Value).ownBlock) (.slice Ao14 t169.length co14) t169 1 t175 t176 w _ ?side1 ?side2 A26.out).mono ?_); (case side1 => repeat (first | (with_reducible first | exact HB.out | apply below_alloc | apply pw_below_drewN | apply below_drew1 | refine below_set ?_ GE167.out | refine below_set ?_ GE173.out) | exact HB.out)); (case side2 => exact Kd.R_tight rfl HO_174001.out); rintro e w31 ⟨rfl, hy0, hb, hkp⟩; refine ⟨_, rfl, ?_⟩; have n0_ := am_ (Kd.R_mono (ok' := fun k_ => some k_ ≠ (.slice Ao14 t169.length co14 : Value).ownBlock) (Kd.R_keptB (HO_168001.out) hkp (fun k_ hk_ hs_ => (hk_) hs_)) (fun k_ hk_ => hk_.1)); have n1_ := am_ (Kd.R_reok rfl hy0 (fun k_ e_ => HO_174001.out.1 k_ e_)); have n2_ := am_ (blk_kept (bk_ BK167) hkp (fun hs_ => (fun e_ => (Kd.R_ne HO_174001.out BK167.out (by decide)) e_) hs_)); have n3_ := am_ (blk_kept (bk_ BK173) hkp (fun hs_ => (fun e_ => (Kd.R_ne HO_174001.out BK173.out (by decide)) e_) hs_)); have n4_ := am_ (hb); clear HO_168001; clear HO_174001; clear BK167; clear BK173; clear HB; have HO_168001 := n0_; have HO_174001 := n1_; have BK167 := n2_; have BK173 := n3_; have HB := n4_; clear n0_ n1_ n2_ n3_ n4_; (try clear hb); (try clear hkp); (try clear hy0); have hcz32_0 : w31.cell? ⟨gb173, 0, none⟩ = some (.int .i64 t168) := (blk_cell BK173.out 0).trans rfl; have hcz32_1 : w31.cell? ⟨gb173, 1, none⟩ = some (.slice Ao14 t169.length co14) := (blk_cell BK173.out 1).trans rfl; have hfz32_0 := blk_frozen BK173.out 0; have hfz32_1 := blk_frozen BK173.out 1) | ((with_reducible refine gate_callee (f := 26) rfl ?_); refine goesL_ (some 38) rfl rfl Tryd.func26 (by kernel_rfl) rfl #[.agg #[.int .i64 t168, .slice Ao14 t176.length co14], .int .i64 1] rfl (by (try simp only [List.map_toArray, List.map_cons, List.map_nil]); first | done | (rw [show t176.length = t169.length from (Kd.R_reads' HO_174001.out).1.symm] <;> rfl) | rfl | (simp only [List.length_drop, List.length_take]; rfl)) ?_; (with_reducible refine (laws_heldWhole.calls kj4 t168 _ _ t176 1 t177 _ ?side1 ?side2 A27.out).mono ?_); (case side1 => repeat (first | exact (Kd.R_reads' HO_174001.out).2.2 | (with_reducible refine Kd.C_alloc ?_ _) | (with_reducible refine Kd.C_drewN ?_ _) | (with_reducible refine Kd.C_drew ?_))); (case side2 => rw [show t176.length = t169.length from (Kd.R_reads' HO_174001.out).1.symm]; exact (Kd.R_reads' HO_174001.out).2.1); rintro e w33 ⟨rfl, hb⟩; refine ⟨_, rfl, ?_⟩; have n0_ := am_ (Kd.R_below (kr_ HO_168001) hb); have n1_ := am_ (Kd.R_below (kr_ HO_174001) hb); have n2_ := am_ (blk_below (bk_ BK167) hb); have n3_ := am_ (blk_below (bk_ BK173) hb); have n4_ := am_ (below_step (bl_ HB) hb); clear HO_168001; clear HO_174001; clear BK167; clear BK173; clear HB; have HO_168001 := n0_; have HO_174001 := n1_; have BK167 := n2_; have BK173 := n3_; have HB := n4_; clear n0_ n1_ n2_ n3_ n4_; (try clear hb); (try clear hb2); (try clear hk); (try clear hi)))
      go_ret
      exact ⟨by first | rfl | (simp [errW_none, errW_some] <;> rfl) | (simp [*, errW_none, errW_some] <;> rfl), bl_ HB⟩
     ·rw [if_neg c28] at H
      have c28b0 : decide (t177 < 0) = false := decide_eq_false c28
      clear c28
      by_cases c34 : t177 = t175
      ·rw [if_pos c34] at H
       have c34b0 : (t177 == t175) = true := beq_iff_eq.mpr c34
       have c34b1 : (t177 != t175) = false := bne_eq_false_iff_eq.mpr c34
       clear c34
       replace H := Option.bind_eq_some_iff.mp H
       obtain ⟨⟨t178, t179, t182⟩, A350, H⟩ := H
       replace H : ((laws_eqWhole.f kj4 t178 t179 t162 t163).bind fun t184 => (if t184 = true then (laws_FnExactParseWhole.j1 kj4 t175 (t182 != t166) t168 t176) else (laws_FnExactParseWhole.j1 kj4 t175 true t168 t176))) = some r := H
       have A35 := Aside0.mk A350; clear A350; have HC36 := Aside0.mk H; clear H; have hnb37 := NB173_167.out; have hnc37 := NB167_173.out
       have hcz38_0 : wc.cell? ⟨gb173, 0, none⟩ = some (.int .i64 t168) := (blk_cell BK173.out 0).trans rfl
       have hcz38_1 : wc.cell? ⟨gb173, 1, none⟩ = some (.slice Ao14 t169.length co14) := (blk_cell BK173.out 1).trans rfl
       have hfz38_0 := blk_frozen BK173.out 0; have hfz38_1 := blk_frozen BK173.out 1
       go_upto_region 16 with (first | ((with_reducible refine gate_callee (f := 25) rfl ?_); refine goesL_ (some 35) rfl rfl Tryd.func25 (by kernel_rfl) rfl #[.agg #[.int .i64 t168, .slice Ao14 t169.length co14], .int .i64 1] rfl ma_ ?_; (with_reducible refine (laws_markWhole.calls kj4 t168 (fun k_ => some k_ = (.slice Ao14 t169.length co14 : Value).ownBlock) (.slice Ao14 t169.length co14) t169 1 t175 t176 w _ ?side1 ?side2 A26.out).mono ?_); (case side1 => repeat (first | (with_reducible first | exact HB.out | apply below_alloc | apply pw_below_drewN | apply below_drew1 | refine below_set ?_ GE167.out | refine below_set ?_ GE173.out) | exact HB.out)); (case side2 => exact Kd.R_tight rfl HO_174001.out); rintro e w39 ⟨rfl, hy0, hb, hkp⟩; refine ⟨_, rfl, ?_⟩; have n0_ := am_ (Kd.R_mono (ok' := fun k_ => some k_ ≠ (.slice Ao14 t169.length co14 : Value).ownBlock) (Kd.R_keptB (HO_168001.out) hkp (fun k_ hk_ hs_ => (hk_) hs_)) (fun k_ hk_ => hk_.1)); have n1_ := am_ (Kd.R_reok rfl hy0 (fun k_ e_ => HO_174001.out.1 k_ e_)); have n2_ := am_ (blk_kept (bk_ BK167) hkp (fun hs_ => (fun e_ => (Kd.R_ne HO_174001.out BK167.out (by decide)) e_) hs_)); have n3_ := am_ (blk_kept (bk_ BK173) hkp (fun hs_ => (fun e_ => (Kd.R_ne HO_174001.out BK173.out (by decide)) e_) hs_)); have n4_ := am_ (hb); clear HO_168001; clear HO_174001; clear BK167; clear BK173; clear HB; have HO_168001 := n0_; have HO_174001 := n1_; have BK167 := n2_; have BK173 := n3_; have HB := n4_; clear n0_ n1_ n2_ n3_ n4_; (try clear hb); (try clear hkp); (try clear hy0); have hcz40_0 : w39.cell? ⟨gb173, 0, none⟩ = some (.int .i64 t168) := (blk_cell BK173.out 0).trans rfl; have hcz40_1 : w39.cell? ⟨gb173, 1, none⟩ = some (.slice Ao14 t169.length co14) := (blk_cell BK173.out 1).trans rfl; have hfz40_0 := blk_frozen BK173.out 0; have hfz40_1 := blk_frozen BK173.out 1) | ((with_reducible refine gate_callee (f := 26) rfl ?_); refine goesL_ (some 38) rfl rfl Tryd.func26 (by kernel_rfl) rfl #[.agg #[.int .i64 t168, .slice Ao14 t176.length co14], .int .i64 1] rfl (by (try simp only [List.map_toArray, List.map_cons, List.map_nil]); first | done | (rw [show t176.length = t169.length from (Kd.R_reads' HO_174001.out).1.symm] <;> rfl) | rfl | (simp only [List.length_drop, List.length_take]; rfl)) ?_; (with_reducible refine (laws_heldWhole.calls kj4 t168 _ _ t176 1 t177 _ ?side1 ?side2 A27.out).mono ?_); (case side1 => repeat (first | exact (Kd.R_reads' HO_174001.out).2.2 | (with_reducible refine Kd.C_alloc ?_ _) | (with_reducible refine Kd.C_drewN ?_ _) | (with_reducible refine Kd.C_drew ?_))); (case side2 => rw [show t176.length = t169.length from (Kd.R_reads' HO_174001.out).1.symm]; exact (Kd.R_reads' HO_174001.out).2.1); rintro e w41 ⟨rfl, hb⟩; refine ⟨_, rfl, ?_⟩; have n0_ := am_ (Kd.R_below (kr_ HO_168001) hb); have n1_ := am_ (Kd.R_below (kr_ HO_174001) hb); have n2_ := am_ (blk_below (bk_ BK167) hb); have n3_ := am_ (blk_below (bk_ BK173) hb); have n4_ := am_ (below_step (bl_ HB) hb); clear HO_168001; clear HO_174001; clear BK167; clear BK173; clear HB; have HO_168001 := n0_; have HO_174001 := n1_; have BK167 := n2_; have BK173 := n3_; have HB := n4_; clear n0_ n1_ n2_ n3_ n4_; (try clear hb); (try clear hb2); (try clear hk); (try clear hi)) | ((with_reducible refine gate_callee (f := 28) rfl ?_); refine goesL_ (some 46) rfl rfl Tryd.func28 (by kernel_rfl) rfl #[.string a0] rfl ma_ ?_; (with_reducible refine (impl_ParseWhole.calls a0 t178 t179 t182 _ A35.out).mono ?_); rintro e w42 ⟨v180, rfl, ho0, hb⟩; refine ⟨_, rfl, ?_⟩; have n0_ := am_ (Kd.R_elder' (kr_ HO_168001) (Kd.R_base ho0) hb); have n1_ := am_ (Kd.R_elder' (kr_ HO_174001) (Kd.R_base ho0) hb); have n2_ := am_ (Kd.R_lower (Kd.R_new' (Kd.R_new' ho0 (Kd.R_lt (kr_ HO_168001))) (Kd.R_lt (kr_ HO_174001))) (below_size (bl_ HB))); have n3_ := am_ (blk_below (bk_ BK167) hb); have n4_ := am_ (blk_below (bk_ BK173) hb); have n5_ := am_ (below_step (bl_ HB) hb); clear HO_168001; clear HO_174001; clear BK167; clear BK173; clear HB; have HO_168001 := n0_; have HO_174001 := n1_; have HO181 := n2_; have BK167 := n3_; have BK173 := n4_; have HB := n5_; clear n0_ n1_ n2_ n3_ n4_ n5_; (try clear hb); (try clear hb2); (try clear hk); (try clear hi); (try clear ho0)) | ((with_reducible refine gate_dst (N := 9) rfl ?_); refine box_event ?hg (N := 9) ?hd (cs := #[.int .i64 0, .slice none 0 0]) (t := 28) ?hr ?_; (case hd => rfl); (case hg => rfl); (case hr => first | (go_simp; done) | (go_simp; rfl)); intro gb183 hg w43 hbox hb; have n0_ := am_ (Kd.R_below (kr_ HO_168001) hb); have n1_ := am_ (Kd.R_below (kr_ HO_174001) hb); have n2_ := am_ (Kd.R_below (kr_ HO181) hb); have n3_ := am_ (blk_below (bk_ BK167) hb); have n4_ := am_ (blk_below (bk_ BK173) hb); have n5_ := am_ (below_step (bl_ HB) hb); have n6_ := am_ (hbox); have n7_ := am_ (gs_ hg HB); have n8_ := am_ (gs_ hg HB); have n9_ := am_ (nl_ hg BK167); have n10_ := am_ (ng_ hg BK167); have n11_ := am_ (nl_ hg BK173); have n12_ := am_ (ng_ hg BK173); clear HO_168001; clear HO_174001; clear HO181; clear BK167; clear BK173; clear HB; have HO_168001 := n0_; have HO_174001 := n1_; have HO181 := n2_; have BK167 := n3_; have BK173 := n4_; have HB := n5_; have BK183 := n6_; have GW183 := n7_; have GE183 := n8_; have NB167_183 := n9_; have NB183_167 := n10_; have NB173_183 := n11_; have NB183_173 := n12_; clear n0_ n1_ n2_ n3_ n4_ n5_ n6_ n7_ n8_ n9_ n10_ n11_ n12_; clear hb hbox hg; have hnb44 := NB183_167.out; have hnc44 := NB167_183.out; have hnb45 := NB183_173.out; have hnc45 := NB173_183.out; have hcz46_0 : w43.cell? ⟨gb183, 0, none⟩ = some (.int .i64 0) := (blk_cell BK183.out 0).trans rfl; have hcz46_1 : w43.cell? ⟨gb183, 1, none⟩ = some (.slice none 0 0) := (blk_cell BK183.out 1).trans rfl; have hfz46_0 := blk_frozen BK183.out 0; have hfz46_1 := blk_frozen BK183.out 1; obtain ⟨Ao47, co47, eo47⟩ := Kd.R_slice HO181.out; subst eo47))
       (try simp only [Act.put, List.setIfInBounds_toArray, List.set_cons_zero, List.set_cons_succ])
       go_cut [57] (fun v57 wc => ∃ (kq : Nat) (x57_35 : Bool), v57 = .bool x57_35 ∧ Aside0 (laws_FnExactParseWhole.j1 kq t175 x57_35 t168 t176 = some r) ∧ Aside0 (kq ≤ kj4) ∧ Aside0 (Kd.R (Kd.int .i64) 2 wc w.heap.size (fun k_ => some k_ ≠ ((.slice Ao14 t169.length co14) : Value).ownBlock ∧ some k_ ≠ ((.slice Ao47 t179.length co47) : Value).ownBlock) (.slice Ao9 t163.length co9) t163) ∧ Aside0 (Kd.R (Kd.int .i64) 2 wc w.heap.size (fun k_ => some k_ ≠ ((.slice Ao9 t163.length co9) : Value).ownBlock ∧ some k_ ≠ ((.slice Ao47 t179.length co47) : Value).ownBlock) (.slice Ao14 t169.length co14) t176) ∧ Aside0 (Kd.R (Kd.int .i64) 2 wc w.heap.size (fun k_ => some k_ ≠ ((.slice Ao9 t163.length co9) : Value).ownBlock ∧ some k_ ≠ ((.slice Ao14 t169.length co14) : Value).ownBlock) (.slice Ao47 t179.length co47) t179) ∧ Aside0 (wc.heap[gb167]? = some (.cells #[.int .i64 t162, (.slice Ao9 t163.length co9)] 28 (0, 0))) ∧ Aside0 (wc.heap[gb173]? = some (.cells #[.int .i64 t168, (.slice Ao14 t169.length co14)] 28 (0, 0))) ∧ Aside0 (wc.heap[gb183]? = some (.cells #[.int .i64 t178, (.slice Ao47 t179.length co47)] 28 (0, 0))) ∧ Aside0 (Below w.heap.size w wc))
       case first =>
        have H := HC36.out; clear HC36
        replace H := Option.bind_eq_some_iff.mp H
        obtain ⟨t184, A480, H⟩ := H
        replace H : (if t184 = true then (laws_FnExactParseWhole.j1 kj4 t175 (t182 != t166) t168 t176) else (laws_FnExactParseWhole.j1 kj4 t175 true t168 t176)) = some r := H
        have A48 := Aside0.mk A480; clear A480
        by_cases c49 : t184 = true
        ·subst c49
         have H1 : (laws_FnExactParseWhole.j1 kj4 t175 (t182 != t166) t168 t176) = some r := by rw [if_pos rfl] at H; exact H
         clear H; have H := H1; clear H1
         have H' := Aside0.mk H
         clear H; have hnb50 := NB183_167.out; have hnc50 := NB167_183.out; have hnb51 := NB183_173.out; have hnc51 := NB173_183.out
         have hcz52_0 : w43.cell? ⟨gb183, 0, none⟩ = some (.int .i64 0) := (blk_cell BK183.out 0).trans rfl
         have hcz52_1 : w43.cell? ⟨gb183, 1, none⟩ = some (.slice none 0 0) := (blk_cell BK183.out 1).trans rfl
         have hfz52_0 := blk_frozen BK183.out 0; have hfz52_1 := blk_frozen BK183.out 1; have hnb53 := NB167_173.out; have hnc53 := NB173_167.out
         have hcz54_0 : w43.cell? ⟨gb167, 0, none⟩ = some (.int .i64 t162) := (blk_cell BK167.out 0).trans rfl
         have hcz54_1 : w43.cell? ⟨gb167, 1, none⟩ = some (.slice Ao9 t163.length co9) := (blk_cell BK167.out 1).trans rfl
         have hfz54_0 := blk_frozen BK167.out 0; have hfz54_1 := blk_frozen BK167.out 1
         go_wp2_with (first | ((with_reducible refine gate_callee (f := 22) rfl ?_); refine goesL_ (some 51) rfl rfl Tryd.func22 (by kernel_rfl) rfl #[.agg #[.int .i64 t178, .slice Ao47 t179.length co47], .agg #[.int .i64 t162, .slice Ao9 t163.length co9]] rfl ma_ ?_; (with_reducible refine (laws_eqWhole.calls kj4 t178 _ _ t179 t162 _ _ t163 true _ ?side1 ?side2 ?side3 ?side4 A48.out).mono ?_); (case side1 => refine (Kd.R_reads' (e := 2) (base := w.heap.size) (ok := fun k_ => ((True ∧ some k_ ≠ (.slice Ao9 t163.length co9 : Value).ownBlock) ∧ some k_ ≠ (.slice Ao14 t169.length co14 : Value).ownBlock)) (n := t179.length) (c := co47) ?_).2.2; exact (rg_ HO181 BK183)); (case side2 => exact (Kd.R_reads' HO181.out).2.1); (case side3 => refine (Kd.R_reads' (e := 2) (base := w.heap.size) (ok := fun k_ => (some k_ ≠ (.slice Ao14 t169.length co14 : Value).ownBlock ∧ some k_ ≠ (.slice Ao47 t179.length co47 : Value).ownBlock)) (n := t163.length) (c := co9) ?_).2.2; exact (rg_ HO_168001 BK183)); (case side4 => exact (Kd.R_reads' HO_168001.out).2.1); rintro e w55 ⟨rfl, hb⟩; refine ⟨_, rfl, ?_⟩; have n0_ := am_ (Kd.R_below (rg_ HO_168001 BK183) hb); have n1_ := am_ (Kd.R_below (rg_ HO_174001 BK183) hb); have n2_ := am_ (Kd.R_below (rg_ HO181 BK183) hb); have n3_ := am_ (blk_below (bk_ BK167) hb); have n4_ := am_ (blk_below (bk_ BK173) hb); have n5_ := am_ (blk_below (g := gb183) (o := .cells #[.int .i64 t178, .slice Ao47 t179.length co47] 28 (0, 0)) (by (with_reducible repeat (first | refine blk_drewN ?_ _ | refine blk_drew ?_ | refine blk_alloc ?_ _)); refine blk_put (cs := #[.int .i64 t178, .slice none 0 0]) ?_ 1 _ rfl; (with_reducible repeat (first | refine blk_drewN ?_ _ | refine blk_drew ?_ | refine blk_alloc ?_ _)); refine blk_put (cs := #[.int .i64 0, .slice none 0 0]) ?_ 0 _ rfl; (with_reducible repeat (first | refine blk_drewN ?_ _ | refine blk_drew ?_ | refine blk_alloc ?_ _)); exact BK183.out) hb); have n6_ := am_ (below_step (bl_ HB) hb); clear HO_168001; clear HO_174001; clear HO181; clear BK167; clear BK173; clear BK183; clear HB; have HO_168001 := n0_; have HO_174001 := n1_; have HO181 := n2_; have BK167 := n3_; have BK173 := n4_; have BK183 := n5_; have HB := n6_; clear n0_ n1_ n2_ n3_ n4_ n5_ n6_; (try clear hb); (try clear hb2); (try clear hk); (try clear hi)))
         go_meet
         case rel => exact ⟨_, ((t182 != t166)), (by first | rfl | (simp; done) | (simp [*]; done)), H', ⟨by have := HJ4.out; first | omega | exact Nat.le_refl _⟩, ⟨kr_ HO_168001⟩, ⟨kr_ HO_174001⟩, ⟨km_ HO181 (fun _ hk => ⟨hk.1.2, hk.2⟩)⟩, ⟨bk_ BK167⟩, ⟨bk_ BK173⟩, ⟨bk_ BK183⟩, ⟨bl_ HB⟩⟩
        ·replace c49 := Bool.eq_false_iff.mpr c49
         subst c49
         have H1 : (laws_FnExactParseWhole.j1 kj4 t175 true t168 t176) = some r := by rw [if_neg (show ¬ (false = true) by decide)] at H; exact H
         clear H; have H := H1; clear H1
         have H' := Aside0.mk H
         clear H; have hnb56 := NB183_167.out; have hnc56 := NB167_183.out; have hnb57 := NB183_173.out; have hnc57 := NB173_183.out
         have hcz58_0 : w43.cell? ⟨gb183, 0, none⟩ = some (.int .i64 0) := (blk_cell BK183.out 0).trans rfl
         have hcz58_1 : w43.cell? ⟨gb183, 1, none⟩ = some (.slice none 0 0) := (blk_cell BK183.out 1).trans rfl
         have hfz58_0 := blk_frozen BK183.out 0; have hfz58_1 := blk_frozen BK183.out 1; have hnb59 := NB167_173.out; have hnc59 := NB173_167.out
         have hcz60_0 : w43.cell? ⟨gb167, 0, none⟩ = some (.int .i64 t162) := (blk_cell BK167.out 0).trans rfl
         have hcz60_1 : w43.cell? ⟨gb167, 1, none⟩ = some (.slice Ao9 t163.length co9) := (blk_cell BK167.out 1).trans rfl
         have hfz60_0 := blk_frozen BK167.out 0; have hfz60_1 := blk_frozen BK167.out 1
         go_wp2_with (first | ((with_reducible refine gate_callee (f := 22) rfl ?_); refine goesL_ (some 51) rfl rfl Tryd.func22 (by kernel_rfl) rfl #[.agg #[.int .i64 t178, .slice Ao47 t179.length co47], .agg #[.int .i64 t162, .slice Ao9 t163.length co9]] rfl ma_ ?_; (with_reducible refine (laws_eqWhole.calls kj4 t178 _ _ t179 t162 _ _ t163 false _ ?side1 ?side2 ?side3 ?side4 A48.out).mono ?_); (case side1 => refine (Kd.R_reads' (e := 2) (base := w.heap.size) (ok := fun k_ => ((True ∧ some k_ ≠ (.slice Ao9 t163.length co9 : Value).ownBlock) ∧ some k_ ≠ (.slice Ao14 t169.length co14 : Value).ownBlock)) (n := t179.length) (c := co47) ?_).2.2; exact (rg_ HO181 BK183)); (case side2 => exact (Kd.R_reads' HO181.out).2.1); (case side3 => refine (Kd.R_reads' (e := 2) (base := w.heap.size) (ok := fun k_ => (some k_ ≠ (.slice Ao14 t169.length co14 : Value).ownBlock ∧ some k_ ≠ (.slice Ao47 t179.length co47 : Value).ownBlock)) (n := t163.length) (c := co9) ?_).2.2; exact (rg_ HO_168001 BK183)); (case side4 => exact (Kd.R_reads' HO_168001.out).2.1); rintro e w61 ⟨rfl, hb⟩; refine ⟨_, rfl, ?_⟩; have n0_ := am_ (Kd.R_below (rg_ HO_168001 BK183) hb); have n1_ := am_ (Kd.R_below (rg_ HO_174001 BK183) hb); have n2_ := am_ (Kd.R_below (rg_ HO181 BK183) hb); have n3_ := am_ (blk_below (bk_ BK167) hb); have n4_ := am_ (blk_below (bk_ BK173) hb); have n5_ := am_ (blk_below (g := gb183) (o := .cells #[.int .i64 t178, .slice Ao47 t179.length co47] 28 (0, 0)) (by (with_reducible repeat (first | refine blk_drewN ?_ _ | refine blk_drew ?_ | refine blk_alloc ?_ _)); refine blk_put (cs := #[.int .i64 t178, .slice none 0 0]) ?_ 1 _ rfl; (with_reducible repeat (first | refine blk_drewN ?_ _ | refine blk_drew ?_ | refine blk_alloc ?_ _)); refine blk_put (cs := #[.int .i64 0, .slice none 0 0]) ?_ 0 _ rfl; (with_reducible repeat (first | refine blk_drewN ?_ _ | refine blk_drew ?_ | refine blk_alloc ?_ _)); exact BK183.out) hb); have n6_ := am_ (below_step (bl_ HB) hb); clear HO_168001; clear HO_174001; clear HO181; clear BK167; clear BK173; clear BK183; clear HB; have HO_168001 := n0_; have HO_174001 := n1_; have HO181 := n2_; have BK167 := n3_; have BK173 := n4_; have BK183 := n5_; have HB := n6_; clear n0_ n1_ n2_ n3_ n4_ n5_ n6_; (try clear hb); (try clear hb2); (try clear hk); (try clear hi)))
         go_meet
         case rel => exact ⟨_, (true), (by first | rfl | (simp; done) | (simp [*]; done)), H', ⟨by have := HJ4.out; first | omega | exact Nat.le_refl _⟩, ⟨kr_ HO_168001⟩, ⟨kr_ HO_174001⟩, ⟨km_ HO181 (fun _ hk => ⟨hk.1.2, hk.2⟩)⟩, ⟨bk_ BK167⟩, ⟨bk_ BK173⟩, ⟨bk_ BK183⟩, ⟨bl_ HB⟩⟩
       case rest =>
        clear HC36; try clear c1; try clear c2; try clear c2b0; try clear c2b1; try clear p2; try clear c3; try clear c4; try clear c5; try clear c12; try clear c16; try clear c17; try clear c21; try clear c22; try clear c25; try clear c26; try clear c27; try clear c28; try clear c28b0; try clear c29; try clear c34; try clear c34b0; try clear c34b1; try clear c37; try clear c44; try clear c45; try clear c49; try clear c50; try clear c51; try clear c53; try clear c56; try clear c57; try clear c59; try clear hcz13_0; try clear hcz13_1; try clear hcz18_0; try clear hcz18_1; try clear hcz19_0; try clear hcz19_1; try clear hcz22_0; try clear hcz22_1; try clear hcz23_0; try clear hcz23_1; try clear hcz30_0; try clear hcz30_1; try clear hcz32_0; try clear hcz32_1; try clear hcz38_0; try clear hcz38_1; try clear hcz40_0; try clear hcz40_1; try clear hcz46_0; try clear hcz46_1; try clear hcz52_0; try clear hcz52_1; try clear hcz54_0; try clear hcz54_1; try clear hcz58_0; try clear hcz58_1; try clear hcz60_0; try clear hcz60_1; try clear hcz8_0; try clear hcz8_1; try clear hfz13_0; try clear hfz13_1; try clear hfz18_0; try clear hfz18_1; try clear hfz19_0; try clear hfz19_1; try clear hfz22_0; try clear hfz22_1; try clear hfz23_0; try clear hfz23_1; try clear hfz30_0; try clear hfz30_1; try clear hfz32_0; try clear hfz32_1; try clear hfz38_0; try clear hfz38_1; try clear hfz40_0; try clear hfz40_1; try clear hfz46_0; try clear hfz46_1; try clear hfz52_0; try clear hfz52_1; try clear hfz54_0; try clear hfz54_1; try clear hfz58_0; try clear hfz58_1; try clear hfz60_0; try clear hfz60_1; try clear hfz8_0; try clear hfz8_1; try clear p2
        obtain ⟨kq, x57_35, rfl, HA, HJ35, HO_168001, HO_174001, HO_184001, BK167, BK173, BK183, HB⟩ := hcut
        have hl174001_35 := (Kd.R_reads' HO_174001.out).1
        rw [hl174001_35] at HO_174001
        (try simp only [hl174001_35])
        (try simp only [hl174001_35] at BK167)
        (try simp only [hl174001_35] at BK173)
        (try simp only [hl174001_35] at BK183)
        (try simp only [hl174001_35] at HO_168001)
        (try simp only [hl174001_35] at HO_184001)
        cases kq with
        | zero => exact absurd HA.out (by simp [laws_FnExactParseWhole.j1])
        | succ kj35 =>
         have H := HA.out; clear HA
         simp only [laws_FnExactParseWhole.j1] at H
         by_cases c62 : x57_35 = true
         ·subst c62
          have H1 : (some false) = some r := by rw [if_pos rfl] at H; exact H
          clear H; have H := H1; clear H1; obtain rfl := Option.some.inj H
          go_wp2
          go_ret
          exact ⟨by first | rfl | (simp [errW_none, errW_some] <;> rfl) | (simp [*, errW_none, errW_some] <;> rfl), bl_ HB⟩
         ·replace c62 := Bool.eq_false_iff.mpr c62
          subst c62
          have H1 : ((laws_heldWhole.f kj35 t168 t176 1).bind fun t185 => (if t185 < 0 then (some false) else (if t185 = t175 then (some true) else (some false)))) = some r := by rw [if_neg (show ¬ (false = true) by decide)] at H; exact H
          clear H; have H := H1; clear H1
          replace H := Option.bind_eq_some_iff.mp H
          obtain ⟨t185, A630, H⟩ := H
          replace H : (if t185 < 0 then (some false) else (if t185 = t175 then (some true) else (some false))) = some r := H
          have A63 := Aside0.mk A630; clear A630
          by_cases c64 : t185 < 0
          ·rw [if_pos c64] at H
           have c64b0 : decide (t185 < 0) = true := decide_eq_true c64
           clear c64; obtain rfl := Option.some.inj H; have hnb65 := NB173_167.out; have hnc65 := NB167_173.out; have hnb66 := NB173_183.out; have hnc66 := NB183_173.out
           have hcz67_0 : wc.cell? ⟨gb173, 0, none⟩ = some (.int .i64 t168) := (blk_cell BK173.out 0).trans rfl
           have hcz67_1 : wc.cell? ⟨gb173, 1, none⟩ = some (.slice Ao14 t176.length co14) := (blk_cell BK173.out 1).trans rfl
           have hfz67_0 := blk_frozen BK173.out 0; have hfz67_1 := blk_frozen BK173.out 1
           go_wp2_with (first | ((with_reducible refine gate_callee (f := 26) rfl ?_); refine goesL_ (some 60) rfl rfl Tryd.func26 (by kernel_rfl) rfl #[.agg #[.int .i64 t168, .slice Ao14 t176.length co14], .int .i64 1] rfl ma_ ?_; (with_reducible refine (laws_heldWhole.calls kj35 t168 _ _ t176 1 t185 _ ?side1 ?side2 A63.out).mono ?_); (case side1 => repeat (first | exact (Kd.R_reads' HO_174001.out).2.2 | (with_reducible refine Kd.C_alloc ?_ _) | (with_reducible refine Kd.C_drewN ?_ _) | (with_reducible refine Kd.C_drew ?_))); (case side2 => exact (Kd.R_reads' HO_174001.out).2.1); rintro e w68 ⟨rfl, hb⟩; refine ⟨_, rfl, ?_⟩; have n0_ := am_ (Kd.R_below (kr_ HO_168001) hb); have n1_ := am_ (Kd.R_below (kr_ HO_174001) hb); have n2_ := am_ (Kd.R_below (kr_ HO_184001) hb); have n3_ := am_ (blk_below (bk_ BK167) hb); have n4_ := am_ (blk_below (bk_ BK173) hb); have n5_ := am_ (blk_below (bk_ BK183) hb); have n6_ := am_ (below_step (bl_ HB) hb); clear HO_168001; clear HO_174001; clear HO_184001; clear BK167; clear BK173; clear BK183; clear HB; have HO_168001 := n0_; have HO_174001 := n1_; have HO_184001 := n2_; have BK167 := n3_; have BK173 := n4_; have BK183 := n5_; have HB := n6_; clear n0_ n1_ n2_ n3_ n4_ n5_ n6_; (try clear hb); (try clear hb2); (try clear hk); (try clear hi)))
           go_ret
           exact ⟨by first | rfl | (simp [errW_none, errW_some] <;> rfl) | (simp [*, errW_none, errW_some] <;> rfl), bl_ HB⟩
          ·rw [if_neg c64] at H
           have c64b0 : decide (t185 < 0) = false := decide_eq_false c64
           clear c64
           by_cases c69 : t185 = t175
           ·rw [if_pos c69] at H
            have c69b0 : (t185 == t175) = true := beq_iff_eq.mpr c69
            have c69b1 : (t185 != t175) = false := bne_eq_false_iff_eq.mpr c69
            clear c69; obtain rfl := Option.some.inj H; have hnb70 := NB173_167.out; have hnc70 := NB167_173.out; have hnb71 := NB173_183.out; have hnc71 := NB183_173.out
            have hcz72_0 : wc.cell? ⟨gb173, 0, none⟩ = some (.int .i64 t168) := (blk_cell BK173.out 0).trans rfl
            have hcz72_1 : wc.cell? ⟨gb173, 1, none⟩ = some (.slice Ao14 t176.length co14) := (blk_cell BK173.out 1).trans rfl
            have hfz72_0 := blk_frozen BK173.out 0; have hfz72_1 := blk_frozen BK173.out 1
            go_wp2_with (first | ((with_reducible refine gate_callee (f := 26) rfl ?_); refine goesL_ (some 60) rfl rfl Tryd.func26 (by kernel_rfl) rfl #[.agg #[.int .i64 t168, .slice Ao14 t176.length co14], .int .i64 1] rfl ma_ ?_; (with_reducible refine (laws_heldWhole.calls kj35 t168 _ _ t176 1 t185 _ ?side1 ?side2 A63.out).mono ?_); (case side1 => repeat (first | exact (Kd.R_reads' HO_174001.out).2.2 | (with_reducible refine Kd.C_alloc ?_ _) | (with_reducible refine Kd.C_drewN ?_ _) | (with_reducible refine Kd.C_drew ?_))); (case side2 => exact (Kd.R_reads' HO_174001.out).2.1); rintro e w73 ⟨rfl, hb⟩; refine ⟨_, rfl, ?_⟩; have n0_ := am_ (Kd.R_below (kr_ HO_168001) hb); have n1_ := am_ (Kd.R_below (kr_ HO_174001) hb); have n2_ := am_ (Kd.R_below (kr_ HO_184001) hb); have n3_ := am_ (blk_below (bk_ BK167) hb); have n4_ := am_ (blk_below (bk_ BK173) hb); have n5_ := am_ (blk_below (bk_ BK183) hb); have n6_ := am_ (below_step (bl_ HB) hb); clear HO_168001; clear HO_174001; clear HO_184001; clear BK167; clear BK173; clear BK183; clear HB; have HO_168001 := n0_; have HO_174001 := n1_; have HO_184001 := n2_; have BK167 := n3_; have BK173 := n4_; have BK183 := n5_; have HB := n6_; clear n0_ n1_ n2_ n3_ n4_ n5_ n6_; (try clear hb); (try clear hb2); (try clear hk); (try clear hi)))
            go_ret
            exact ⟨by first | rfl | (simp [errW_none, errW_some] <;> rfl) | (simp [*, errW_none, errW_some] <;> rfl), bl_ HB⟩
           ·rw [if_neg c69] at H
            have c69b0 : (t185 == t175) = false := beq_eq_false_iff_ne.mpr c69
            have c69b1 : (t185 != t175) = true := bne_iff_ne.mpr c69
            obtain rfl := Option.some.inj H; have hnb74 := NB173_167.out; have hnc74 := NB167_173.out; have hnb75 := NB173_183.out; have hnc75 := NB183_173.out
            have hcz76_0 : wc.cell? ⟨gb173, 0, none⟩ = some (.int .i64 t168) := (blk_cell BK173.out 0).trans rfl
            have hcz76_1 : wc.cell? ⟨gb173, 1, none⟩ = some (.slice Ao14 t176.length co14) := (blk_cell BK173.out 1).trans rfl
            have hfz76_0 := blk_frozen BK173.out 0; have hfz76_1 := blk_frozen BK173.out 1
            go_wp2_with (first | ((with_reducible refine gate_callee (f := 26) rfl ?_); refine goesL_ (some 60) rfl rfl Tryd.func26 (by kernel_rfl) rfl #[.agg #[.int .i64 t168, .slice Ao14 t176.length co14], .int .i64 1] rfl ma_ ?_; (with_reducible refine (laws_heldWhole.calls kj35 t168 _ _ t176 1 t185 _ ?side1 ?side2 A63.out).mono ?_); (case side1 => repeat (first | exact (Kd.R_reads' HO_174001.out).2.2 | (with_reducible refine Kd.C_alloc ?_ _) | (with_reducible refine Kd.C_drewN ?_ _) | (with_reducible refine Kd.C_drew ?_))); (case side2 => exact (Kd.R_reads' HO_174001.out).2.1); rintro e w77 ⟨rfl, hb⟩; refine ⟨_, rfl, ?_⟩; have n0_ := am_ (Kd.R_below (kr_ HO_168001) hb); have n1_ := am_ (Kd.R_below (kr_ HO_174001) hb); have n2_ := am_ (Kd.R_below (kr_ HO_184001) hb); have n3_ := am_ (blk_below (bk_ BK167) hb); have n4_ := am_ (blk_below (bk_ BK173) hb); have n5_ := am_ (blk_below (bk_ BK183) hb); have n6_ := am_ (below_step (bl_ HB) hb); clear HO_168001; clear HO_174001; clear HO_184001; clear BK167; clear BK173; clear BK183; clear HB; have HO_168001 := n0_; have HO_174001 := n1_; have HO_184001 := n2_; have BK167 := n3_; have BK173 := n4_; have BK183 := n5_; have HB := n6_; clear n0_ n1_ n2_ n3_ n4_ n5_ n6_; (try clear hb); (try clear hb2); (try clear hk); (try clear hi)))
            go_ret
            exact ⟨by first | rfl | (simp [errW_none, errW_some] <;> rfl) | (simp [*, errW_none, errW_some] <;> rfl), bl_ HB⟩
      ·rw [if_neg c34] at H
       have c34b0 : (t177 == t175) = false := beq_eq_false_iff_ne.mpr c34
       have c34b1 : (t177 != t175) = true := bne_iff_ne.mpr c34
       obtain rfl := Option.some.inj H; have hnb78 := NB173_167.out; have hnc78 := NB167_173.out
       have hcz79_0 : wc.cell? ⟨gb173, 0, none⟩ = some (.int .i64 t168) := (blk_cell BK173.out 0).trans rfl
       have hcz79_1 : wc.cell? ⟨gb173, 1, none⟩ = some (.slice Ao14 t169.length co14) := (blk_cell BK173.out 1).trans rfl
       have hfz79_0 := blk_frozen BK173.out 0; have hfz79_1 := blk_frozen BK173.out 1
       go_wp2_with (first | ((with_reducible refine gate_callee (f := 25) rfl ?_); refine goesL_ (some 35) rfl rfl Tryd.func25 (by kernel_rfl) rfl #[.agg #[.int .i64 t168, .slice Ao14 t169.length co14], .int .i64 1] rfl ma_ ?_; (with_reducible refine (laws_markWhole.calls kj4 t168 (fun k_ => some k_ = (.slice Ao14 t169.length co14 : Value).ownBlock) (.slice Ao14 t169.length co14) t169 1 t175 t176 w _ ?side1 ?side2 A26.out).mono ?_); (case side1 => repeat (first | (with_reducible first | exact HB.out | apply below_alloc | apply pw_below_drewN | apply below_drew1 | refine below_set ?_ GE167.out | refine below_set ?_ GE173.out) | exact HB.out)); (case side2 => exact Kd.R_tight rfl HO_174001.out); rintro e w80 ⟨rfl, hy0, hb, hkp⟩; refine ⟨_, rfl, ?_⟩; have n0_ := am_ (Kd.R_mono (ok' := fun k_ => some k_ ≠ (.slice Ao14 t169.length co14 : Value).ownBlock) (Kd.R_keptB (HO_168001.out) hkp (fun k_ hk_ hs_ => (hk_) hs_)) (fun k_ hk_ => hk_.1)); have n1_ := am_ (Kd.R_reok rfl hy0 (fun k_ e_ => HO_174001.out.1 k_ e_)); have n2_ := am_ (blk_kept (bk_ BK167) hkp (fun hs_ => (fun e_ => (Kd.R_ne HO_174001.out BK167.out (by decide)) e_) hs_)); have n3_ := am_ (blk_kept (bk_ BK173) hkp (fun hs_ => (fun e_ => (Kd.R_ne HO_174001.out BK173.out (by decide)) e_) hs_)); have n4_ := am_ (hb); clear HO_168001; clear HO_174001; clear BK167; clear BK173; clear HB; have HO_168001 := n0_; have HO_174001 := n1_; have BK167 := n2_; have BK173 := n3_; have HB := n4_; clear n0_ n1_ n2_ n3_ n4_; (try clear hb); (try clear hkp); (try clear hy0); have hcz81_0 : w80.cell? ⟨gb173, 0, none⟩ = some (.int .i64 t168) := (blk_cell BK173.out 0).trans rfl; have hcz81_1 : w80.cell? ⟨gb173, 1, none⟩ = some (.slice Ao14 t169.length co14) := (blk_cell BK173.out 1).trans rfl; have hfz81_0 := blk_frozen BK173.out 0; have hfz81_1 := blk_frozen BK173.out 1) | ((with_reducible refine gate_callee (f := 26) rfl ?_); refine goesL_ (some 38) rfl rfl Tryd.func26 (by kernel_rfl) rfl #[.agg #[.int .i64 t168, .slice Ao14 t176.length co14], .int .i64 1] rfl (by (try simp only [List.map_toArray, List.map_cons, List.map_nil]); first | done | (rw [show t176.length = t169.length from (Kd.R_reads' HO_174001.out).1.symm] <;> rfl) | rfl | (simp only [List.length_drop, List.length_take]; rfl)) ?_; (with_reducible refine (laws_heldWhole.calls kj4 t168 _ _ t176 1 t177 _ ?side1 ?side2 A27.out).mono ?_); (case side1 => repeat (first | exact (Kd.R_reads' HO_174001.out).2.2 | (with_reducible refine Kd.C_alloc ?_ _) | (with_reducible refine Kd.C_drewN ?_ _) | (with_reducible refine Kd.C_drew ?_))); (case side2 => rw [show t176.length = t169.length from (Kd.R_reads' HO_174001.out).1.symm]; exact (Kd.R_reads' HO_174001.out).2.1); rintro e w82 ⟨rfl, hb⟩; refine ⟨_, rfl, ?_⟩; have n0_ := am_ (Kd.R_below (kr_ HO_168001) hb); have n1_ := am_ (Kd.R_below (kr_ HO_174001) hb); have n2_ := am_ (blk_below (bk_ BK167) hb); have n3_ := am_ (blk_below (bk_ BK173) hb); have n4_ := am_ (below_step (bl_ HB) hb); clear HO_168001; clear HO_174001; clear BK167; clear BK173; clear HB; have HO_168001 := n0_; have HO_174001 := n1_; have BK167 := n2_; have BK173 := n3_; have HB := n4_; clear n0_ n1_ n2_ n3_ n4_; (try clear hb); (try clear hb2); (try clear hk); (try clear hi)))
       go_ret
       exact ⟨by first | rfl | (simp [errW_none, errW_some] <;> rfl) | (simp [*, errW_none, errW_some] <;> rfl), bl_ HB⟩

/-- THE ONE PURE STATEMENT of laws_FnExactParseWhole: yours. -/
def laws_FnExactParseWhole.Pure : Prop := ∀ (a0 : ByteArray), a0.size ≤ 140737488351232 → ∃ k, laws_FnExactParseWhole.f k a0 = some true
theorem laws_FnExactParseWhole.walk (P : laws_FnExactParseWhole.Pure) (a0 : ByteArray) (w : World) (w0 : a0.size ≤ 140737488351232) :
    Calls Tryd.prog 5 #[.string a0] w fun e w' => e = .returned (.bool true) ∧ Below w.heap.size w w' := by
  obtain ⟨k, h⟩ := P a0 w0
  refine (laws_FnExactParseWhole.calls k a0 true w h).mono ?_
  rintro e w' ⟨rfl, hd⟩
  exact ⟨rfl, hd⟩

end Go.Proofs.YtbmjakaoniegfaaDoor.X
