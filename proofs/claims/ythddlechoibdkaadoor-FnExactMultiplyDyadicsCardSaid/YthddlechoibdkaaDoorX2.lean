/- Functions of the program as plain Lean functions, each with a proof that its call does what that function says. Printed by a program over the kit's print; conditions stand in each contract. -/
import Derived.Test.YthddlechoibdkaaDoorSq
import Derived.Test.YthddlechoibdkaaDoorX0
import Derived.Test.YthddlechoibdkaaDoorX1
namespace Go.Proofs.YthddlechoibdkaaDoor.X
open Go.RowKit Go.Proofs.YthddlechoibdkaaDoorW.PrintWords Go.Proofs.YthddlechoibdkaaDoorW.PrintLast Go.Proofs.YthddlechoibdkaaDoorW.PrintMore Go.Proofs.YthddlechoibdkaaDoor.Sq
attribute [local go_sem] max2_int min2_int max_two min_two max_three min_three max_four min_four   -- for this text's walks alone
set_option linter.unusedVariables false
set_option linter.unusedSimpArgs false

/-! ### spec_l02Cut: function 83 -/
def spec_l02Cut.l0 : Nat → Int → List Int → Int → Int → List Int → Option (Int × List Int)
  | 0, _, _, _, _, _ => none
  | k + 1, x1, x5, x6, x179000, x179001 => if x6 < (x179001.length : Int) then (if 0 ≤ x6 then (if 0 ≤ (IntKind.u64.wrap (Int.tmod x1 24)) then (if (wrap64 (x6 + 1)) < (x179001.length : Int) then (if 0 ≤ (wrap64 (x6 + 1)) then (if 0 ≤ (IntKind.u64.wrap (wrap64 (24 - (Int.tmod x1 24)))) then (if x5.length < 17592186044416 then (spec_l02Cut.l0 k x1 (x5 ++ [Int.tmod (wrap64 ((shr .i64 (rd x179001 x6) (IntKind.u64.wrap (Int.tmod x1 24))) + (shl .i64 (rd x179001 (wrap64 (x6 + 1))) (IntKind.u64.wrap (wrap64 (24 - (Int.tmod x1 24))))))) 16777216]) (wrap64 (x6 + 1)) x179000 x179001) else (none)) else (none)) else (none)) else (if x5.length < 17592186044416 then (spec_l02Cut.l0 k x1 (x5 ++ [shr .i64 (rd x179001 x6) (IntKind.u64.wrap (Int.tmod x1 24))]) (wrap64 (x6 + 1)) x179000 x179001) else (none))) else (none)) else (none)) else ((spec_l02Make.f k x179000 x5).bind fun bt191 => (some (bt191.1, bt191.2)))
def spec_l02Cut.f (k : Nat) (a0_0 : Int) (l0_1 : List Int) (a1 : Int) : Option (Int × List Int) := spec_l02Cut.l0 k a1 (([] : List Int)) (wrap64 (Int.tdiv a1 24)) a0_0 l0_1
theorem spec_l02Cut.mono_l : ∀ k, (∀ y0 y1 y2 y3 y4, LeO (spec_l02Cut.l0 k y0 y1 y2 y3 y4) (spec_l02Cut.l0 (k + 1) y0 y1 y2 y3 y4))
  | 0 => fun _ _ _ _ _ r h => by simp [spec_l02Cut.l0] at h
  | k + 1 => by
    have ih0 := spec_l02Cut.mono_l k
    · intro y0 y1 y2 y3 y4
      unfold spec_l02Cut.l0
      repeat' first
      | (with_reducible exact ih0 _ _ _ _ _)
      | (with_reducible exact spec_l02Make.mono _ _ _)
      | (with_reducible exact LeO.refl _)
      | (with_reducible exact LeO.none _)
      | (with_reducible refine LeO.ite ?_ ?_)
      | (with_reducible refine LeO.bind ?_ (fun _ => ?_))
      | exact ih0 _ _ _ _ _
      | exact spec_l02Make.mono _ _ _
      | exact LeO.none _
      | refine LeO.ite ?_ ?_
      | refine LeO.bind ?_ (fun _ => ?_)
theorem spec_l02Cut.mono : ∀ a0 a1 a2 k, LeO (spec_l02Cut.f k a0 a1 a2) (spec_l02Cut.f (k + 1) a0 a1 a2) := by
  intro a0 a1 a2 k
  have ih0 := spec_l02Cut.mono_l k
  unfold spec_l02Cut.f
  repeat' first
      | (with_reducible exact ih0 _ _ _ _ _)
      | (with_reducible exact spec_l02Make.mono _ _ _)
      | (with_reducible exact LeO.refl _)
      | (with_reducible exact LeO.none _)
      | (with_reducible refine LeO.ite ?_ ?_)
      | (with_reducible refine LeO.bind ?_ (fun _ => ?_))
      | exact ih0 _ _ _ _ _
      | exact spec_l02Make.mono _ _ _
      | exact LeO.none _
      | refine LeO.ite ?_ ?_
      | refine LeO.bind ?_ (fun _ => ?_)
set_option maxHeartbeats 8000000 in
set_option maxRecDepth 100000 in
theorem spec_l02Cut.calls (k : Nat) (a0_0 : Int) (A0_1 : Option Addr) (c0_1 : Nat) (l0_1 : List Int) (a1 : Int) (r1 : Int) (r2 : List Int) (w : World) (hr0_1 : Kd.C (Kd.int .i64) w A0_1 l0_1.length l0_1) (hc0_1 : l0_1.length ≤ c0_1) (h : spec_l02Cut.f k a0_0 l0_1 a1 = some (r1, r2)) :
  Calls Tryd.prog 83 #[.agg #[.int .i64 a0_0, .slice A0_1 l0_1.length c0_1], .int .i64 a1] w fun e w' => ∃ v1_ : Value, e = .returned (.agg #[.int .i64 r1, v1_]) ∧ Kd.R (Kd.int .i64) 2 w' w.heap.size (fun _ => True) v1_ r2 ∧ Below w.heap.size w w' := by
 have hu28 := Tryd.underlying28; have HR0_1 := Aside0.mk hr0_1; have HC0_1 := Aside0.mk hc0_1; clear hr0_1 hc0_1; have HB := am_ (Below.refl w.heap.size w)
 have H : (spec_l02Cut.l0 k a1 (([] : List Int)) (wrap64 (Int.tdiv a1 24)) a0_0 l0_1) = some (r1, r2) := h
 clear h
 obtain ⟨y180, hy180⟩ : ∃ y_ : List Int, y_ = (([] : List Int)) := ⟨_, rfl⟩
 replace H : (spec_l02Cut.l0 k a1 y180 (wrap64 (Int.tdiv a1 24)) a0_0 l0_1) = some (r1, r2) := by first | (rw [hy180]; with_reducible exact H) | (have H2_ := (Option.bind_some _ _).symm.trans H; rw [hy180]; with_reducible exact H2_) | (have H2_ := (Option.bind_some _ _).symm.trans H; with_reducible exact H2_) | with_reducible exact H | (rw [hy180]; exact H) | exact H
 have Ny180 := Aside0.mk hy180; clear hy180
 have H' := Aside0.mk H
 clear H
 go_enter Tryd.func83, Tryd.ntmps83
 go_wp2_with (first | ((with_reducible refine gate_dst (N := 2) rfl ?_); refine box_event ?hg (N := 2) ?hd (cs := #[.int .i64 a0_0, .slice A0_1 l0_1.length c0_1]) (t := 28) ?hr ?_; (case hd => rfl); (case hg => rfl); (case hr => first | (go_simp; done) | (go_simp; rfl)); intro gb178 hg w3 hbox hb; have BK178 := am_ (hbox); have GW178 := am_ (gs_ hg HB); have GE178 := am_ (gs_ hg HB); replace HB := am_ (below_step (bl_ HB) hb); clear hb hbox hg) | ((with_reducible refine gate_dst (N := 4) rfl ?_); refine box_event ?hg (N := 4) ?hd (cs := #[.int .i64 0, .slice none 0 0]) (t := 28) ?hr ?_; (case hd => rfl); (case hg => rfl); (case hr => first | (go_simp; done) | (go_simp; rfl)); intro gb179 hg w4 hbox hb; have BK179 := am_ (hbox); have GW179 := am_ (gs_ hg HB); have GE179 := am_ (gs_ hg HB); have NB178_179 := am_ (nl_ hg BK178); have NB179_178 := am_ (ng_ hg BK178); replace BK178 := am_ (blk_below (bk_ BK178) hb); replace HB := am_ (below_step (bl_ HB) hb); clear hb hbox hg) | ((with_reducible refine gate_dst (N := 8) rfl ?_); refine Kd.R_lit (Kd.int .i64) _ 2 ?hg (N := 8) ?hd (xs := ([] : List Int)) (inner := []) (ok := fun _ => True) (okp := fun _ => True) ?hr ?hp (fun _ hk => hk) trivial (Below.refl _ _) (Nat.le_refl _) (by simp) ?_; (case hd => rfl); (case hg => rfl); (case hr => first | (go_simp; done) | (go_simp; rfl)); (case hp => exact (Reps.none _ _)); intro v181 w5 ho6 hb hg_ hnew_; clear hg_ hnew_; (first | rw [← Ny180.out] at ho6 | (simp only [Int.reduceToNat] at ho6; rw [← Ny180.out] at ho6)); have HO182 := am_ (Kd.R_lower ho6 (below_size (bl_ HB))); replace BK178 := am_ (blk_below (bk_ BK178) hb); replace BK179 := am_ (blk_below (bk_ BK179) hb); replace HB := am_ (below_step (bl_ HB) hb); clear hb ho6))
 go_loopg [5, 6] k (fun kq v5 v6 w' => ∃ (x5_1 : List Int) (x6_1 : Int), v6 = .int .i64 x6_1 ∧ Aside0 (spec_l02Cut.l0 kq a1 x5_1 x6_1 a0_0 l0_1 = some (r1, r2)) ∧ Aside0 (kq ≤ k) ∧ Aside0 (Kd.R (Kd.int .i64) 2 w' w.heap.size (fun _ => True) v5 x5_1) ∧ Aside0 (w'.heap[gb178]? = some (.cells #[.int .i64 a0_0, (.slice A0_1 l0_1.length c0_1)] 28 (0, 0))) ∧ Aside0 (w'.heap[gb179]? = some (.cells #[.int .i64 0, (.slice none 0 0)] 28 (0, 0))) ∧ Aside0 (Below w.heap.size w w'))
 case atStart => exact ⟨(y180), (wrap64 (Int.tdiv a1 24)), (by first | rfl | (simp; done) | (simp [*]; done)), H', ⟨Nat.le_refl _⟩, ⟨kr_ HO182⟩, ⟨bk_ BK178⟩, ⟨bk_ BK179⟩, ⟨bl_ HB⟩⟩
 case round =>
  clear H'; try clear p2; try clear p6
  obtain ⟨x5_1, x6_1, rfl, HA, HK1, HO_5, BK178, BK179, HB⟩ := hrel
  cases gk with
  | zero => exact absurd HA.out (by simp [spec_l02Cut.l0])
  | succ k1 =>
   have H := HA.out; clear HA
   simp only [spec_l02Cut.l0] at H
   by_cases c7 : x6_1 < (l0_1.length : Int)
   ·rw [if_pos c7] at H
    have c7b0 : decide (x6_1 < (l0_1.length : Int)) = true := decide_eq_true c7
    clear c7
    by_cases c8 : 0 ≤ x6_1
    ·rw [if_pos c8] at H
     have c8b0 : decide (0 ≤ x6_1) = true := decide_eq_true c8
     clear c8
     obtain ⟨ji9, hji9⟩ : ∃ j_ : Int, (IntKind.u64.wrap (Int.tmod a1 24)) = j_ := ⟨_, rfl⟩
     replace H : (if 0 ≤ (ji9) then (if (wrap64 (x6_1 + 1)) < (l0_1.length : Int) then (if 0 ≤ (wrap64 (x6_1 + 1)) then (if 0 ≤ (IntKind.u64.wrap (wrap64 (24 - (Int.tmod a1 24)))) then (if x5_1.length < 17592186044416 then (spec_l02Cut.l0 k1 a1 (x5_1 ++ [Int.tmod (wrap64 ((shr .i64 (rd l0_1 x6_1) (ji9)) + (shl .i64 (rd l0_1 (wrap64 (x6_1 + 1))) (IntKind.u64.wrap (wrap64 (24 - (Int.tmod a1 24))))))) 16777216]) (wrap64 (x6_1 + 1)) a0_0 l0_1) else (none)) else (none)) else (none)) else (if x5_1.length < 17592186044416 then (spec_l02Cut.l0 k1 a1 (x5_1 ++ [shr .i64 (rd l0_1 x6_1) (ji9)]) (wrap64 (x6_1 + 1)) a0_0 l0_1) else (none))) else (none)) = some (r1, r2) := by first | (rw [hji9] at H; exact H) | (simp only [hji9] at H ⊢; exact H)
     by_cases c10 : 0 ≤ (ji9)
     ·rw [if_pos c10] at H
      have c10b0 := eq_true c10
      have c10b1 : decide (0 ≤ (ji9)) = true := decide_eq_true c10
      clear c10
      obtain ⟨ji11, hji11⟩ : ∃ j_ : Int, (shr .i64 (rd l0_1 x6_1) (ji9)) = j_ := ⟨_, rfl⟩
      replace H : (if (wrap64 (x6_1 + 1)) < (l0_1.length : Int) then (if 0 ≤ (wrap64 (x6_1 + 1)) then (if 0 ≤ (IntKind.u64.wrap (wrap64 (24 - (Int.tmod a1 24)))) then (if x5_1.length < 17592186044416 then (spec_l02Cut.l0 k1 a1 (x5_1 ++ [Int.tmod (wrap64 ((ji11) + (shl .i64 (rd l0_1 (wrap64 (x6_1 + 1))) (IntKind.u64.wrap (wrap64 (24 - (Int.tmod a1 24))))))) 16777216]) (wrap64 (x6_1 + 1)) a0_0 l0_1) else (none)) else (none)) else (none)) else (if x5_1.length < 17592186044416 then (spec_l02Cut.l0 k1 a1 (x5_1 ++ [ji11]) (wrap64 (x6_1 + 1)) a0_0 l0_1) else (none))) = some (r1, r2) := by first | (rw [hji11] at H; exact H) | (simp only [hji11] at H ⊢; exact H)
      have hji11_ : ((rd l0_1 x6_1) / 2 ^ min (ji9).toNat 64) = ji11 := hji11
      have hji11z : (ji9) ≤ 64 → ((rd l0_1 x6_1) / 2 ^ (ji9).toNat) = ji11 := shr_small hji11
      by_cases c12 : (wrap64 (x6_1 + 1)) < (l0_1.length : Int)
      ·rw [if_pos c12] at H
       have c12b0 : decide ((wrap64 (x6_1 + 1)) < (l0_1.length : Int)) = true := decide_eq_true c12
       clear c12
       obtain ⟨ji13, hji13⟩ : ∃ j_ : Int, (wrap64 (x6_1 + 1)) = j_ := ⟨_, rfl⟩
       replace H : (if 0 ≤ (ji13) then (if 0 ≤ (IntKind.u64.wrap (wrap64 (24 - (Int.tmod a1 24)))) then (if x5_1.length < 17592186044416 then (spec_l02Cut.l0 k1 a1 (x5_1 ++ [Int.tmod (wrap64 ((ji11) + (shl .i64 (rd l0_1 (ji13)) (IntKind.u64.wrap (wrap64 (24 - (Int.tmod a1 24))))))) 16777216]) ji13 a0_0 l0_1) else (none)) else (none)) else (none)) = some (r1, r2) := by first | (rw [hji13] at H; exact H) | (simp only [hji13] at H ⊢; exact H)
       (try rw [hji13] at c12b0)
       have hji13w : (IntKind.i64.wrap (x6_1 + 1)) = ji13 := (i64_w _).trans hji13
       by_cases c14 : 0 ≤ (ji13)
       ·rw [if_pos c14] at H
        have c14b0 : decide (0 ≤ (ji13)) = true := decide_eq_true c14
        clear c14
        obtain ⟨ji15, hji15⟩ : ∃ j_ : Int, (IntKind.u64.wrap (wrap64 (24 - (Int.tmod a1 24)))) = j_ := ⟨_, rfl⟩
        replace H : (if 0 ≤ (ji15) then (if x5_1.length < 17592186044416 then (spec_l02Cut.l0 k1 a1 (x5_1 ++ [Int.tmod (wrap64 ((ji11) + (shl .i64 (rd l0_1 (ji13)) (ji15)))) 16777216]) ji13 a0_0 l0_1) else (none)) else (none)) = some (r1, r2) := by first | (rw [hji15] at H; exact H) | (simp only [hji15] at H ⊢; exact H)
        by_cases c16 : 0 ≤ (ji15)
        ·rw [if_pos c16] at H
         have c16b0 := eq_true c16
         have c16b1 : decide (0 ≤ (ji15)) = true := decide_eq_true c16
         clear c16
         obtain ⟨ji17, hji17⟩ : ∃ j_ : Int, (shl .i64 (rd l0_1 (ji13)) (ji15)) = j_ := ⟨_, rfl⟩
         replace H : (if x5_1.length < 17592186044416 then (spec_l02Cut.l0 k1 a1 (x5_1 ++ [Int.tmod (wrap64 ((ji11) + (ji17))) 16777216]) ji13 a0_0 l0_1) else (none)) = some (r1, r2) := by first | (rw [hji17] at H; exact H) | (simp only [hji17] at H ⊢; exact H)
         have hji17_ : (IntKind.i64.wrap ((rd l0_1 (ji13)) * 2 ^ min (ji15).toNat 64)) = ji17 := hji17
         have hji17z : (ji15) ≤ 64 → (IntKind.i64.wrap ((rd l0_1 (ji13)) * 2 ^ (ji15).toNat)) = ji17 := shl_small hji17
         have hji17y : (wrap64 ((rd l0_1 (ji13)) * 2 ^ min (ji15).toNat 64)) = ji17 := (i64_w _).symm.trans hji17_
         have hji17x : (ji15) ≤ 64 → (wrap64 ((rd l0_1 (ji13)) * 2 ^ (ji15).toNat)) = ji17 := fun h_ => (i64_w _).symm.trans (hji17z h_)
         by_cases c18 : x5_1.length < 17592186044416
         ·rw [if_pos c18] at H
          have LMc18 := Aside0.mk c18; clear c18
          obtain ⟨y185, hy185⟩ : ∃ y_ : List Int, y_ = (x5_1 ++ [Int.tmod (wrap64 ((ji11) + (ji17))) 16777216]) := ⟨_, rfl⟩
          replace H : (spec_l02Cut.l0 k1 a1 y185 ji13 a0_0 l0_1) = some (r1, r2) := by first | (rw [hy185]; with_reducible exact H) | (have H2_ := (Option.bind_some _ _).symm.trans H; rw [hy185]; with_reducible exact H2_) | (have H2_ := (Option.bind_some _ _).symm.trans H; with_reducible exact H2_) | with_reducible exact H | (rw [hy185]; exact H) | exact H
          have Ny185 := Aside0.mk hy185; clear hy185
          have H' := Aside0.mk H
          clear H; have hnb19 := NB178_179.out; have hnc19 := NB179_178.out
          have hcz20_0 : wr.cell? ⟨gb178, 0, none⟩ = some (.int .i64 a0_0) := bc_ BK178 0
          have hcz20_1 : wr.cell? ⟨gb178, 1, none⟩ = some (.slice A0_1 l0_1.length c0_1) := bc_ BK178 1
          have hfz20_0 := blk_frozen BK178.out 0; have hfz20_1 := blk_frozen BK178.out 1
          have p183 : 0 ≤ (x6_1 : Int) := of_decide_eq_true (by first | (with_reducible assumption) | assumption)
          have q183 : x6_1 < (l0_1.length : Int) := of_decide_eq_true (by first | (with_reducible assumption) | assumption)
          obtain ⟨ad183, e183, hx183_0⟩ := Kd.at_int HR0_1.out x6_1 p183 q183
          cases e183
          replace hx183_0 := (HB.out.cell (World.block_lt_of_cell? w _ hx183_0)).trans hx183_0
          replace p183 := eq_true p183
          replace q183 := eq_true q183
          have p184 : 0 ≤ ((ji13) : Int) := of_decide_eq_true (by first | (with_reducible assumption) | assumption)
          have q184 : (ji13) < (l0_1.length : Int) := of_decide_eq_true (by first | (with_reducible assumption) | assumption)
          obtain ⟨ad184, e184, hx184_0⟩ := Kd.at_int HR0_1.out (ji13) p184 q184
          obtain rfl : ad183 = ad184 := (by injection e184)
          replace hx184_0 := (HB.out.cell (World.block_lt_of_cell? w _ hx184_0)).trans hx184_0
          replace p184 := eq_true p184
          replace q184 := eq_true q184
          go_wp2_with (first | ((with_reducible refine gate_builtin (b := .append) (xs := #[.tmp 47, .tmp 49]) rfl ?_); at_builtin; refine Kd.R_append (Kd.int .i64) (w0 := w) w.heap.size rfl (.tmp 47) (.tmp 49) 22 2 (.int .i64 0) 8 rfl Tryd.underlying22 info2 rfl (by decide) (by omega) u5 x5_1 (Int.tmod (wrap64 ((ji11) + (ji17))) 16777216) [.int .i64 (Int.tmod (wrap64 ((ji11) + (ji17))) 16777216)] (fun _ => True) (fun _ => False) rfl rfl ?aP (fun _ hk => hk.elim) ?aF ?aO ?aB ?aS ?aL ?_; (case aP => exact rfl); (case aB => exact (bl_ HB)); (case aF => exact (fun _ _ => trivial)); (case aO => exact (kr_ HO_5)); (case aS => exact (below_size (bl_ HB))); (case aL => have := LMc18.out; omega); intro v186 w21 ho hb hg hat; rw [← Ny185.out] at ho; have n0_ := am_ (blk_grown (g := gb178) (o := .cells #[.int .i64 a0_0, .slice (some ad183) l0_1.length c0_1] 28 (0, 0)) (bk_ BK178) hg (Kd.R_ne HO_5.out BK178.out (by decide))); have n1_ := am_ (blk_grown (g := gb179) (o := .cells #[.int .i64 0, .slice none 0 0] 28 (0, 0)) (bk_ BK179) hg (Kd.R_ne HO_5.out BK179.out (by decide))); have n2_ := am_ (hb); have n3_ := am_ (ho); clear BK178; clear BK179; clear HB; clear HO_5; have BK178 := n0_; have BK179 := n1_; have HB := n2_; have HO187 := n3_; clear n0_ n1_ n2_ n3_; clear ho hb hg hat))
          go_roundg k1
          case measure => have := HK1.out; omega
          case rel => exact ⟨(y185), (ji13), (by first | rfl | (simp; done) | (simp only [← hji13] <;> (first | rfl | simp)) | (simp [*]; done)), H', ⟨by have := HK1.out; omega⟩, ⟨kr_ HO187⟩, ⟨bk_ BK178⟩, ⟨bk_ BK179⟩, ⟨bl_ HB⟩⟩
         ·rw [if_neg c18] at H
          exact absurd H (by simp)
        ·rw [if_neg c16] at H
         exact absurd H (by simp)
       ·rw [if_neg c14] at H
        exact absurd H (by simp)
      ·rw [if_neg c12] at H
       have c12b0 : decide ((wrap64 (x6_1 + 1)) < (l0_1.length : Int)) = false := decide_eq_false c12
       clear c12
       by_cases c22 : x5_1.length < 17592186044416
       ·rw [if_pos c22] at H
        have LMc22 := Aside0.mk c22; clear c22
        obtain ⟨y188, hy188⟩ : ∃ y_ : List Int, y_ = (x5_1 ++ [ji11]) := ⟨_, rfl⟩
        replace H : (spec_l02Cut.l0 k1 a1 y188 (wrap64 (x6_1 + 1)) a0_0 l0_1) = some (r1, r2) := by first | (rw [hy188]; with_reducible exact H) | (have H2_ := (Option.bind_some _ _).symm.trans H; rw [hy188]; with_reducible exact H2_) | (have H2_ := (Option.bind_some _ _).symm.trans H; with_reducible exact H2_) | with_reducible exact H | (rw [hy188]; exact H) | exact H
        have Ny188 := Aside0.mk hy188; clear hy188
        have H' := Aside0.mk H
        clear H; have hnb23 := NB178_179.out; have hnc23 := NB179_178.out
        have hcz24_0 : wr.cell? ⟨gb178, 0, none⟩ = some (.int .i64 a0_0) := bc_ BK178 0
        have hcz24_1 : wr.cell? ⟨gb178, 1, none⟩ = some (.slice A0_1 l0_1.length c0_1) := bc_ BK178 1
        have hfz24_0 := blk_frozen BK178.out 0; have hfz24_1 := blk_frozen BK178.out 1
        have p183 : 0 ≤ (x6_1 : Int) := of_decide_eq_true (by first | (with_reducible assumption) | assumption)
        have q183 : x6_1 < (l0_1.length : Int) := of_decide_eq_true (by first | (with_reducible assumption) | assumption)
        obtain ⟨ad183, e183, hx183_0⟩ := Kd.at_int HR0_1.out x6_1 p183 q183
        cases e183
        replace hx183_0 := (HB.out.cell (World.block_lt_of_cell? w _ hx183_0)).trans hx183_0
        replace p183 := eq_true p183
        replace q183 := eq_true q183
        go_wp2_with (first | ((with_reducible refine gate_builtin (b := .append) (xs := #[.tmp 47, .tmp 49]) rfl ?_); at_builtin; refine Kd.R_append (Kd.int .i64) (w0 := w) w.heap.size rfl (.tmp 47) (.tmp 49) 22 2 (.int .i64 0) 8 rfl Tryd.underlying22 info2 rfl (by decide) (by omega) u5 x5_1 ji11 [.int .i64 ji11] (fun _ => True) (fun _ => False) rfl rfl ?aP (fun _ hk => hk.elim) ?aF ?aO ?aB ?aS ?aL ?_; (case aP => exact rfl); (case aB => exact (bl_ HB)); (case aF => exact (fun _ _ => trivial)); (case aO => exact (kr_ HO_5)); (case aS => exact (below_size (bl_ HB))); (case aL => have := LMc22.out; omega); intro v189 w25 ho hb hg hat; rw [← Ny188.out] at ho; have n0_ := am_ (blk_grown (g := gb178) (o := .cells #[.int .i64 a0_0, .slice (some ad183) l0_1.length c0_1] 28 (0, 0)) (bk_ BK178) hg (Kd.R_ne HO_5.out BK178.out (by decide))); have n1_ := am_ (blk_grown (g := gb179) (o := .cells #[.int .i64 0, .slice none 0 0] 28 (0, 0)) (bk_ BK179) hg (Kd.R_ne HO_5.out BK179.out (by decide))); have n2_ := am_ (hb); have n3_ := am_ (ho); clear BK178; clear BK179; clear HB; clear HO_5; have BK178 := n0_; have BK179 := n1_; have HB := n2_; have HO190 := n3_; clear n0_ n1_ n2_ n3_; clear ho hb hg hat))
        go_roundg k1
        case measure => have := HK1.out; omega
        case rel => exact ⟨(y188), (wrap64 (x6_1 + 1)), (by first | rfl | (simp; done) | (simp [*]; done)), H', ⟨by have := HK1.out; omega⟩, ⟨kr_ HO190⟩, ⟨bk_ BK178⟩, ⟨bk_ BK179⟩, ⟨bl_ HB⟩⟩
       ·rw [if_neg c22] at H
        exact absurd H (by simp)
     ·rw [if_neg c10] at H
      exact absurd H (by simp)
    ·rw [if_neg c8] at H
     exact absurd H (by simp)
   ·rw [if_neg c7] at H
    have c7b0 : decide (x6_1 < (l0_1.length : Int)) = false := decide_eq_false c7
    clear c7
    replace H := Option.bind_eq_some_iff.mp H
    obtain ⟨⟨t191, t192⟩, A260, H⟩ := H
    replace H : (some (t191, t192)) = some (r1, r2) := H
    have A26 := Aside0.mk A260; clear A260
    simp only [Option.some.injEq, Prod.mk.injEq] at H
    obtain ⟨rfl, rfl⟩ := H
    have hnb27 := NB178_179.out; have hnc27 := NB179_178.out
    have hcz28_0 : wr.cell? ⟨gb178, 0, none⟩ = some (.int .i64 a0_0) := bc_ BK178 0
    have hcz28_1 : wr.cell? ⟨gb178, 1, none⟩ = some (.slice A0_1 l0_1.length c0_1) := bc_ BK178 1
    have hfz28_0 := blk_frozen BK178.out 0; have hfz28_1 := blk_frozen BK178.out 1
    obtain ⟨Ao29, co29, eo29⟩ := Kd.R_slice HO_5.out
    subst eo29
    go_wp2_with (first | ((with_reducible refine gate_callee (f := 89) rfl ?_); refine goesL_ (some 54) rfl rfl Tryd.func89 (by kernel_rfl) rfl #[.int .i64 a0_0, .slice Ao29 x5_1.length co29] rfl ma_ ?_; (with_reducible refine (spec_l02Make.calls k1 a0_0 _ _ x5_1 t191 t192 _ ?side1 ?side2 A26.out).mono ?_); (case side1 => exact cr_ HO_5); (case side2 => exact (Kd.R_reads' HO_5.out).2.1); rintro e w30 ⟨v193, rfl, ho0, hb⟩; refine ⟨_, rfl, ?_⟩; have HO194 := am_ (Kd.R_lower (Kd.R_new' ho0 (Kd.R_lt (kr_ HO_5))) (below_size (bl_ HB))); replace HO_5 := am_ (Kd.R_elder' (kr_ HO_5) (Kd.R_base ho0) hb); replace BK178 := am_ (blk_below (bk_ BK178) hb); replace BK179 := am_ (blk_below (bk_ BK179) hb); replace HB := am_ (below_step (bl_ HB) hb); (try clear hb); (try clear hb2); (try clear hk); (try clear hi); (try clear ho0); have hcz31_0 : w30.cell? ⟨gb179, 0, none⟩ = some (.int .i64 0) := bc_ BK179 0; have hcz31_1 : w30.cell? ⟨gb179, 1, none⟩ = some (.slice none 0 0) := bc_ BK179 1; have hfz31_0 := blk_frozen BK179.out 0; have hfz31_1 := blk_frozen BK179.out 1; obtain ⟨Ao32, co32, eo32⟩ := Kd.R_slice HO194.out; subst eo32))
    refine bodyPost_ret (results_cell_row rfl _ _ gb179 28 #[.int .i64 t191, .slice Ao32 t192.length co32] (0, 0) _ rfl (bp2_ BK179) Tryd.underlying28 rfl (by kernel_rfl)) rfl ?_
    exact ⟨_, by first | rfl | (simp [errW_none, errW_some] <;> rfl) | (simp [*, errW_none, errW_some] <;> rfl), rt_ HO194 BK179, bl_ HB⟩

/-! ### spec_l03Make: function 56 -/
def spec_l03Make.f (k : Nat) (a0_0 : Int) (l0_1 : List Int) (a1 : Int) : Option (Int × List Int × Int) := if a0_0 = 0 then (some (0, ([] : List Int), 0)) else ((spec_l02Twos.f k a0_0 l0_1).bind fun t197 => ((spec_l02Cut.f k a0_0 l0_1 t197).bind fun bt198 => (some (bt198.1, bt198.2, wrap64 (a1 + t197)))))
theorem spec_l03Make.mono : ∀ a0 a1 a2 k, LeO (spec_l03Make.f k a0 a1 a2) (spec_l03Make.f (k + 1) a0 a1 a2) := by
  intro a0 a1 a2 k
  unfold spec_l03Make.f
  repeat' first
      | (with_reducible exact spec_l02Cut.mono _ _ _ _)
      | (with_reducible exact spec_l02Twos.mono _ _ _)
      | (with_reducible exact LeO.refl _)
      | (with_reducible exact LeO.none _)
      | (with_reducible refine LeO.ite ?_ ?_)
      | (with_reducible refine LeO.bind ?_ (fun _ => ?_))
      | exact spec_l02Cut.mono _ _ _ _
      | exact spec_l02Twos.mono _ _ _
      | exact LeO.none _
      | refine LeO.ite ?_ ?_
      | refine LeO.bind ?_ (fun _ => ?_)
set_option maxHeartbeats 8000000 in
set_option maxRecDepth 100000 in
theorem spec_l03Make.calls (k : Nat) (a0_0 : Int) (A0_1 : Option Addr) (c0_1 : Nat) (l0_1 : List Int) (a1 : Int) (r1 : Int) (r2 : List Int) (r3 : Int) (w : World) (hr0_1 : Kd.C (Kd.int .i64) w A0_1 l0_1.length l0_1) (hc0_1 : l0_1.length ≤ c0_1) (h : spec_l03Make.f k a0_0 l0_1 a1 = some (r1, r2, r3)) :
  Calls Tryd.prog 56 #[.agg #[.int .i64 a0_0, .slice A0_1 l0_1.length c0_1], .int .i64 a1] w fun e w' => ∃ v1_ : Value, e = .returned (.agg #[.int .i64 r1, v1_, .int .i64 r3]) ∧ Kd.R (Kd.int .i64) 2 w' w.heap.size (fun _ => True) v1_ r2 ∧ Below w.heap.size w w' := by
 have hu28 := Tryd.underlying28; have hu30 := Tryd.underlying30; have HR0_1 := Aside0.mk hr0_1; have HC0_1 := Aside0.mk hc0_1; clear hr0_1 hc0_1; have HB := am_ (Below.refl w.heap.size w)
 have H : (if a0_0 = 0 then (some (0, ([] : List Int), 0)) else ((spec_l02Twos.f k a0_0 l0_1).bind fun t197 => ((spec_l02Cut.f k a0_0 l0_1 t197).bind fun bt198 => (some (bt198.1, bt198.2, wrap64 (a1 + t197)))))) = some (r1, r2, r3) := h
 clear h
 by_cases c3 : a0_0 = 0
 ·rw [if_pos c3] at H
  have c3b0 : (a0_0 == 0) = true := beq_iff_eq.mpr c3
  have c3b1 : (a0_0 != 0) = false := bne_eq_false_iff_eq.mpr c3
  clear c3
  simp only [Option.some.injEq, Prod.mk.injEq] at H
  obtain ⟨rfl, rfl, rfl⟩ := H
  go_enter Tryd.func56, Tryd.ntmps56
  go_wp2_with (first | ((with_reducible refine gate_dst (N := 2) rfl ?_); refine box_event ?hg (N := 2) ?hd (cs := #[.int .i64 a0_0, .slice A0_1 l0_1.length c0_1]) (t := 28) ?hr ?_; (case hd => rfl); (case hg => rfl); (case hr => first | (go_simp; done) | (go_simp; rfl)); intro gb195 hg w4 hbox hb; have BK195 := am_ (hbox); have GW195 := am_ (gs_ hg HB); have GE195 := am_ (gs_ hg HB); replace HB := am_ (below_step (bl_ HB) hb); clear hb hbox hg) | ((with_reducible refine gate_dst (N := 4) rfl ?_); refine box_event ?hg (N := 4) ?hd (cs := #[.int .i64 0, .slice none 0 0, .int .i64 0]) (t := 30) ?hr ?_; (case hd => rfl); (case hg => rfl); (case hr => first | (go_simp; done) | (go_simp; rfl)); intro gb196 hg w5 hbox hb; have BK196 := am_ (hbox); have GW196 := am_ (gs_ hg HB); have GE196 := am_ (gs_ hg HB); have NB195_196 := am_ (nl_ hg BK195); have NB196_195 := am_ (ng_ hg BK195); replace BK195 := am_ (blk_below (bk_ BK195) hb); replace HB := am_ (below_step (bl_ HB) hb); clear hb hbox hg; have hnb6 := NB195_196.out; have hnc6 := NB196_195.out; have hcz7_0 : w5.cell? ⟨gb195, 0, none⟩ = some (.int .i64 a0_0) := bc_ BK195 0; have hcz7_1 : w5.cell? ⟨gb195, 1, none⟩ = some (.slice A0_1 l0_1.length c0_1) := bc_ BK195 1; have hfz7_0 := blk_frozen BK195.out 0; have hfz7_1 := blk_frozen BK195.out 1; have hcz8_0 : w5.cell? ⟨gb196, 0, none⟩ = some (.int .i64 0) := bc_ BK196 0; have hcz8_1 : w5.cell? ⟨gb196, 1, none⟩ = some (.slice none 0 0) := bc_ BK196 1; have hcz8_2 : w5.cell? ⟨gb196, 2, none⟩ = some (.int .i64 0) := bc_ BK196 2; have hfz8_0 := blk_frozen BK196.out 0; have hfz8_1 := blk_frozen BK196.out 1; have hfz8_2 := blk_frozen BK196.out 2))
  refine bodyPost_ret (results_cell_row rfl _ _ gb196 30 #[.int .i64 0, .slice none 0 0, .int .i64 0] (0, 0) _ rfl (bp3_ BK196) Tryd.underlying30 rfl (by kernel_rfl)) rfl ?_
  exact ⟨_, by first | rfl | (simp [errW_none, errW_some] <;> rfl) | (simp [*, errW_none, errW_some] <;> rfl), by first | exact Kd.R_nil _ _ _ _ _ | exact Kd.N_nil _ _ _ _ _ | exact Kd.V_nil _ _ _ _ _ | exact Kd.Q_nil _ _ _ _ _ | exact Kd.S_nil _ _ _ _ _, bl_ HB⟩
 ·rw [if_neg c3] at H
  have c3b0 : (a0_0 == 0) = false := beq_eq_false_iff_ne.mpr c3
  have c3b1 : (a0_0 != 0) = true := bne_iff_ne.mpr c3
  replace H := Option.bind_eq_some_iff.mp H
  obtain ⟨t197, A90, H⟩ := H
  replace H : ((spec_l02Cut.f k a0_0 l0_1 t197).bind fun bt198 => (some (bt198.1, bt198.2, wrap64 (a1 + t197)))) = some (r1, r2, r3) := H
  have A9 := Aside0.mk A90; clear A90
  replace H := Option.bind_eq_some_iff.mp H
  obtain ⟨⟨t198, t199⟩, A100, H⟩ := H
  replace H : (some (t198, t199, wrap64 (a1 + t197))) = some (r1, r2, r3) := H
  have A10 := Aside0.mk A100; clear A100
  simp only [Option.some.injEq, Prod.mk.injEq] at H
  obtain ⟨rfl, rfl, rfl⟩ := H
  go_enter Tryd.func56, Tryd.ntmps56
  go_wp2_with (first | ((with_reducible refine gate_dst (N := 2) rfl ?_); refine box_event ?hg (N := 2) ?hd (cs := #[.int .i64 a0_0, .slice A0_1 l0_1.length c0_1]) (t := 28) ?hr ?_; (case hd => rfl); (case hg => rfl); (case hr => first | (go_simp; done) | (go_simp; rfl)); intro gb195 hg w11 hbox hb; have BK195 := am_ (hbox); have GW195 := am_ (gs_ hg HB); have GE195 := am_ (gs_ hg HB); replace HB := am_ (below_step (bl_ HB) hb); clear hb hbox hg) | ((with_reducible refine gate_dst (N := 4) rfl ?_); refine box_event ?hg (N := 4) ?hd (cs := #[.int .i64 0, .slice none 0 0, .int .i64 0]) (t := 30) ?hr ?_; (case hd => rfl); (case hg => rfl); (case hr => first | (go_simp; done) | (go_simp; rfl)); intro gb196 hg w12 hbox hb; have BK196 := am_ (hbox); have GW196 := am_ (gs_ hg HB); have GE196 := am_ (gs_ hg HB); have NB195_196 := am_ (nl_ hg BK195); have NB196_195 := am_ (ng_ hg BK195); replace BK195 := am_ (blk_below (bk_ BK195) hb); replace HB := am_ (below_step (bl_ HB) hb); clear hb hbox hg; have hnb13 := NB195_196.out; have hnc13 := NB196_195.out; have hcz14_0 : w12.cell? ⟨gb195, 0, none⟩ = some (.int .i64 a0_0) := bc_ BK195 0; have hcz14_1 : w12.cell? ⟨gb195, 1, none⟩ = some (.slice A0_1 l0_1.length c0_1) := bc_ BK195 1; have hfz14_0 := blk_frozen BK195.out 0; have hfz14_1 := blk_frozen BK195.out 1) | ((with_reducible refine gate_callee (f := 82) rfl ?_); refine goesL_ (some 11) rfl rfl Tryd.func82 (by kernel_rfl) rfl #[.agg #[.int .i64 a0_0, .slice A0_1 l0_1.length c0_1]] rfl ma_ ?_; (with_reducible refine (spec_l02Twos.calls k a0_0 _ _ l0_1 t197 _ ?side1 ?side2 A9.out).mono ?_); (case side1 => exact cb_ HR0_1 HB); (case side2 => exact HC0_1.out); rintro e w15 ⟨rfl, hb⟩; refine ⟨_, rfl, ?_⟩; replace BK195 := am_ (blk_below (bk_ BK195) hb); replace BK196 := am_ (blk_below (bk_ BK196) hb); replace HB := am_ (below_step (bl_ HB) hb); (try clear hb); (try clear hb2); (try clear hk); (try clear hi); have hcz16_0 : w15.cell? ⟨gb195, 0, none⟩ = some (.int .i64 a0_0) := bc_ BK195 0; have hcz16_1 : w15.cell? ⟨gb195, 1, none⟩ = some (.slice A0_1 l0_1.length c0_1) := bc_ BK195 1; have hfz16_0 := blk_frozen BK195.out 0; have hfz16_1 := blk_frozen BK195.out 1) | ((with_reducible refine gate_callee (f := 83) rfl ?_); refine goesL_ (some 14) rfl rfl Tryd.func83 (by kernel_rfl) rfl #[.agg #[.int .i64 a0_0, .slice A0_1 l0_1.length c0_1], .int .i64 t197] rfl ma_ ?_; (with_reducible refine (spec_l02Cut.calls k a0_0 _ _ l0_1 t197 t198 t199 _ ?side1 ?side2 A10.out).mono ?_); (case side1 => exact cb_ HR0_1 HB); (case side2 => exact HC0_1.out); rintro e w17 ⟨v200, rfl, ho0, hb⟩; refine ⟨_, rfl, ?_⟩; have HO201 := am_ (Kd.R_lower ho0 (below_size (bl_ HB))); replace BK195 := am_ (blk_below (bk_ BK195) hb); replace BK196 := am_ (blk_below (bk_ BK196) hb); replace HB := am_ (below_step (bl_ HB) hb); (try clear hb); (try clear hb2); (try clear hk); (try clear hi); (try clear ho0); obtain ⟨Ao18, co18, eo18⟩ := Kd.R_slice HO201.out; subst eo18; have hcz19_0 : w17.cell? ⟨gb196, 0, none⟩ = some (.int .i64 0) := bc_ BK196 0; have hcz19_1 : w17.cell? ⟨gb196, 1, none⟩ = some (.slice none 0 0) := bc_ BK196 1; have hcz19_2 : w17.cell? ⟨gb196, 2, none⟩ = some (.int .i64 0) := bc_ BK196 2; have hfz19_0 := blk_frozen BK196.out 0; have hfz19_1 := blk_frozen BK196.out 1; have hfz19_2 := blk_frozen BK196.out 2))
  refine bodyPost_ret (results_cell_row rfl _ _ gb196 30 #[.int .i64 t198, .slice Ao18 t199.length co18, .int .i64 (wrap64 (a1 + t197))] (0, 0) _ rfl (bp3_ BK196) Tryd.underlying30 rfl (by kernel_rfl)) rfl ?_
  exact ⟨_, by first | rfl | (simp [errW_none, errW_some] <;> rfl) | (simp [*, errW_none, errW_some] <;> rfl), by (with_reducible repeat (first | apply Kd.R_alloc | apply Kd.R_drewN | apply Kd.R_drew)); exact Kd.R_mono (Kd.R_far (p := ⟨gb196, 2, none⟩) (Kd.R_far (p := ⟨gb196, 1, none⟩) (Kd.R_far (p := ⟨gb196, 0, none⟩) (Kd.R_types HO201.out BK196.out (by decide)) (fun _ hk => hk.2) (.int .i64 t198)) (fun _ hk => hk.2) (.slice Ao18 t199.length co18)) (fun _ hk => hk.2) (.int .i64 (wrap64 (a1 + t197)))) (fun _ hk => trivial), bl_ HB⟩

/-! ### spec_l02Mul: function 86 -/
mutual
def spec_l02Mul.l0 : Nat → List Int → Int → Int → List Int → Int → List Int → Option (Int × List Int)
  | 0, _, _, _, _, _, _ => none
  | k + 1, x5, x6, x203000, x203001, x204000, x204001 => if x6 < (x203001.length : Int) then (spec_l02Mul.l1 k x5 x6 0 0 x203000 x203001 x204000 x204001) else ((spec_l02Make.f k (wrap64 (x203000 * x204000)) x5).bind fun bt208 => (some (bt208.1, bt208.2)))
def spec_l02Mul.l1 : Nat → List Int → Int → Int → Int → Int → List Int → Int → List Int → Option (Int × List Int)
  | 0, _, _, _, _, _, _, _, _ => none
  | k + 1, x5, x6, x7, x8, x203000, x203001, x204000, x204001 => if x8 < (x204001.length : Int) then (if 0 ≤ (wrap64 (x6 + x8)) then (if (wrap64 (x6 + x8)) < (x5.length : Int) then (if 0 ≤ x6 then (if x6 < (x203001.length : Int) then (if 0 ≤ x8 then (spec_l02Mul.l1 k (x5.set ((wrap64 (x6 + x8)) : Int).toNat (Int.tmod (wrap64 ((wrap64 (x7 + (rd x5 (wrap64 (x6 + x8))))) + (wrap64 ((rd x203001 x6) * (rd x204001 x8))))) 16777216)) x6 (wrap64 (Int.tdiv (wrap64 ((wrap64 (x7 + (rd x5 (wrap64 (x6 + x8))))) + (wrap64 ((rd x203001 x6) * (rd x204001 x8))))) 16777216)) (wrap64 (x8 + 1)) x203000 x203001 x204000 x204001) else (none)) else (none)) else (none)) else (none)) else (none)) else (if 0 ≤ (wrap64 (x6 + (x204001.length : Int))) then (if (wrap64 (x6 + (x204001.length : Int))) < (x5.length : Int) then (spec_l02Mul.l0 k (x5.set ((wrap64 (x6 + (x204001.length : Int))) : Int).toNat x7) (wrap64 (x6 + 1)) x203000 x203001 x204000 x204001) else (none)) else (none))
end
def spec_l02Mul.f (k : Nat) (a0_0 : Int) (l0_1 : List Int) (a1_0 : Int) (l1_1 : List Int) : Option (Int × List Int) := if 0 ≤ (wrap64 ((wrap64 ((l0_1.length : Int) + (l1_1.length : Int))) + 1)) then (if (wrap64 ((wrap64 ((l0_1.length : Int) + (l1_1.length : Int))) + 1) : Int).toNat ≤ 35184372088832 then (spec_l02Mul.l0 k (List.replicate (wrap64 ((wrap64 ((l0_1.length : Int) + (l1_1.length : Int))) + 1) : Int).toNat 0) 0 a0_0 l0_1 a1_0 l1_1) else (none)) else (none)
theorem spec_l02Mul.mono_l : ∀ k, (∀ y0 y1 y2 y3 y4 y5, LeO (spec_l02Mul.l0 k y0 y1 y2 y3 y4 y5) (spec_l02Mul.l0 (k + 1) y0 y1 y2 y3 y4 y5)) ∧ (∀ y0 y1 y2 y3 y4 y5 y6 y7, LeO (spec_l02Mul.l1 k y0 y1 y2 y3 y4 y5 y6 y7) (spec_l02Mul.l1 (k + 1) y0 y1 y2 y3 y4 y5 y6 y7))
  | 0 => ⟨fun _ _ _ _ _ _ r h => by simp [spec_l02Mul.l0] at h, fun _ _ _ _ _ _ _ _ r h => by simp [spec_l02Mul.l1] at h⟩
  | k + 1 => by
    obtain ⟨ih0, ih1⟩ := spec_l02Mul.mono_l k
    refine ⟨?_, ?_⟩
    · intro y0 y1 y2 y3 y4 y5
      unfold spec_l02Mul.l0
      repeat' first
      | (with_reducible exact ih0 _ _ _ _ _ _)
      | (with_reducible exact ih1 _ _ _ _ _ _ _ _)
      | (with_reducible exact spec_l02Make.mono _ _ _)
      | (with_reducible exact LeO.refl _)
      | (with_reducible exact LeO.none _)
      | (with_reducible refine LeO.ite ?_ ?_)
      | (with_reducible refine LeO.bind ?_ (fun _ => ?_))
      | exact ih0 _ _ _ _ _ _
      | exact ih1 _ _ _ _ _ _ _ _
      | exact spec_l02Make.mono _ _ _
      | exact LeO.none _
      | refine LeO.ite ?_ ?_
      | refine LeO.bind ?_ (fun _ => ?_)
    · intro y0 y1 y2 y3 y4 y5 y6 y7
      unfold spec_l02Mul.l1
      repeat' first
      | (with_reducible exact ih0 _ _ _ _ _ _)
      | (with_reducible exact ih1 _ _ _ _ _ _ _ _)
      | (with_reducible exact spec_l02Make.mono _ _ _)
      | (with_reducible exact LeO.refl _)
      | (with_reducible exact LeO.none _)
      | (with_reducible refine LeO.ite ?_ ?_)
      | (with_reducible refine LeO.bind ?_ (fun _ => ?_))
      | exact ih0 _ _ _ _ _ _
      | exact ih1 _ _ _ _ _ _ _ _
      | exact spec_l02Make.mono _ _ _
      | exact LeO.none _
      | refine LeO.ite ?_ ?_
      | refine LeO.bind ?_ (fun _ => ?_)
theorem spec_l02Mul.mono : ∀ a0 a1 a2 a3 k, LeO (spec_l02Mul.f k a0 a1 a2 a3) (spec_l02Mul.f (k + 1) a0 a1 a2 a3) := by
  intro a0 a1 a2 a3 k
  obtain ⟨ih0, ih1⟩ := spec_l02Mul.mono_l k
  unfold spec_l02Mul.f
  repeat' first
      | (with_reducible exact ih0 _ _ _ _ _ _)
      | (with_reducible exact ih1 _ _ _ _ _ _ _ _)
      | (with_reducible exact spec_l02Make.mono _ _ _)
      | (with_reducible exact LeO.refl _)
      | (with_reducible exact LeO.none _)
      | (with_reducible refine LeO.ite ?_ ?_)
      | (with_reducible refine LeO.bind ?_ (fun _ => ?_))
      | exact ih0 _ _ _ _ _ _
      | exact ih1 _ _ _ _ _ _ _ _
      | exact spec_l02Make.mono _ _ _
      | exact LeO.none _
      | refine LeO.ite ?_ ?_
      | refine LeO.bind ?_ (fun _ => ?_)
set_option maxHeartbeats 8000000 in
set_option maxRecDepth 100000 in
theorem spec_l02Mul.calls (k : Nat) (a0_0 : Int) (A0_1 : Option Addr) (c0_1 : Nat) (l0_1 : List Int) (a1_0 : Int) (A1_1 : Option Addr) (c1_1 : Nat) (l1_1 : List Int) (r1 : Int) (r2 : List Int) (w : World) (hr0_1 : Kd.C (Kd.int .i64) w A0_1 l0_1.length l0_1) (hc0_1 : l0_1.length ≤ c0_1) (hr1_1 : Kd.C (Kd.int .i64) w A1_1 l1_1.length l1_1) (hc1_1 : l1_1.length ≤ c1_1) (h : spec_l02Mul.f k a0_0 l0_1 a1_0 l1_1 = some (r1, r2)) :
  Calls Tryd.prog 86 #[.agg #[.int .i64 a0_0, .slice A0_1 l0_1.length c0_1], .agg #[.int .i64 a1_0, .slice A1_1 l1_1.length c1_1]] w fun e w' => ∃ v1_ : Value, e = .returned (.agg #[.int .i64 r1, v1_]) ∧ Kd.R (Kd.int .i64) 2 w' w.heap.size (fun _ => True) v1_ r2 ∧ Below w.heap.size w w' := by
 have hu28 := Tryd.underlying28; have HR0_1 := Aside0.mk hr0_1; have HC0_1 := Aside0.mk hc0_1; clear hr0_1 hc0_1; have HR1_1 := Aside0.mk hr1_1; have HC1_1 := Aside0.mk hc1_1; clear hr1_1 hc1_1; have HB := am_ (Below.refl w.heap.size w)
 have H : (if 0 ≤ (wrap64 ((wrap64 ((l0_1.length : Int) + (l1_1.length : Int))) + 1)) then (if (wrap64 ((wrap64 ((l0_1.length : Int) + (l1_1.length : Int))) + 1) : Int).toNat ≤ 35184372088832 then (spec_l02Mul.l0 k (List.replicate (wrap64 ((wrap64 ((l0_1.length : Int) + (l1_1.length : Int))) + 1) : Int).toNat 0) 0 a0_0 l0_1 a1_0 l1_1) else (none)) else (none)) = some (r1, r2) := h
 clear h
 obtain ⟨ji3, hji3⟩ : ∃ j_ : Int, (wrap64 ((wrap64 ((l0_1.length : Int) + (l1_1.length : Int))) + 1)) = j_ := ⟨_, rfl⟩
 replace H : (if 0 ≤ (ji3) then (if (ji3 : Int).toNat ≤ 35184372088832 then (spec_l02Mul.l0 k (List.replicate (ji3 : Int).toNat 0) 0 a0_0 l0_1 a1_0 l1_1) else (none)) else (none)) = some (r1, r2) := by first | (rw [hji3] at H; exact H) | (simp only [hji3] at H ⊢; exact H)
 have hji3w : (IntKind.i64.wrap ((wrap64 ((l0_1.length : Int) + (l1_1.length : Int))) + 1)) = ji3 := (i64_w _).trans hji3
 by_cases c4 : 0 ≤ (ji3)
 ·rw [if_pos c4] at H
  have c4b0 := eq_true c4
  have c4b1 : decide (0 ≤ (ji3)) = true := decide_eq_true c4
  clear c4
  by_cases c5 : (ji3 : Int).toNat ≤ 35184372088832
  ·rw [if_pos c5] at H
   have c5b0 := eq_true c5
   have c5b1 : decide ((ji3 : Int).toNat ≤ 35184372088832) = true := decide_eq_true c5
   clear c5
   obtain ⟨y205, hy205⟩ : ∃ y_ : List Int, y_ = (List.replicate (ji3 : Int).toNat 0) := ⟨_, rfl⟩
   replace H : (spec_l02Mul.l0 k y205 0 a0_0 l0_1 a1_0 l1_1) = some (r1, r2) := by first | (rw [hy205]; with_reducible exact H) | (have H2_ := (Option.bind_some _ _).symm.trans H; rw [hy205]; with_reducible exact H2_) | (have H2_ := (Option.bind_some _ _).symm.trans H; with_reducible exact H2_) | with_reducible exact H | (rw [hy205]; exact H) | exact H
   have Ny205 := Aside0.mk hy205; clear hy205
   have H' := Aside0.mk H
   clear H
   go_enter Tryd.func86, Tryd.ntmps86
   go_wp2_with (first | ((with_reducible refine gate_dst (N := 2) rfl ?_); refine box_event ?hg (N := 2) ?hd (cs := #[.int .i64 a0_0, .slice A0_1 l0_1.length c0_1]) (t := 28) ?hr ?_; (case hd => rfl); (case hg => rfl); (case hr => first | (go_simp; done) | (go_simp; rfl)); intro gb202 hg w6 hbox hb; have BK202 := am_ (hbox); have GW202 := am_ (gs_ hg HB); have GE202 := am_ (gs_ hg HB); replace HB := am_ (below_step (bl_ HB) hb); clear hb hbox hg) | ((with_reducible refine gate_dst (N := 3) rfl ?_); refine box_event ?hg (N := 3) ?hd (cs := #[.int .i64 a1_0, .slice A1_1 l1_1.length c1_1]) (t := 28) ?hr ?_; (case hd => rfl); (case hg => rfl); (case hr => first | (go_simp; done) | (go_simp; rfl)); intro gb203 hg w7 hbox hb; have BK203 := am_ (hbox); have GW203 := am_ (gs_ hg HB); have GE203 := am_ (gs_ hg HB); have NB202_203 := am_ (nl_ hg BK202); have NB203_202 := am_ (ng_ hg BK202); replace BK202 := am_ (blk_below (bk_ BK202) hb); replace HB := am_ (below_step (bl_ HB) hb); clear hb hbox hg) | ((with_reducible refine gate_dst (N := 4) rfl ?_); refine box_event ?hg (N := 4) ?hd (cs := #[.int .i64 0, .slice none 0 0]) (t := 28) ?hr ?_; (case hd => rfl); (case hg => rfl); (case hr => first | (go_simp; done) | (go_simp; rfl)); intro gb204 hg w8 hbox hb; have BK204 := am_ (hbox); have GW204 := am_ (gs_ hg HB); have GE204 := am_ (gs_ hg HB); have NB202_204 := am_ (nl_ hg BK202); have NB204_202 := am_ (ng_ hg BK202); have NB203_204 := am_ (nl_ hg BK203); have NB204_203 := am_ (ng_ hg BK203); replace BK202 := am_ (blk_below (bk_ BK202) hb); replace BK203 := am_ (blk_below (bk_ BK203) hb); replace HB := am_ (below_step (bl_ HB) hb); clear hb hbox hg; have hnb9 := NB202_203.out; have hnc9 := NB203_202.out; have hnb10 := NB202_204.out; have hnc10 := NB204_202.out; have hcz11_0 : w8.cell? ⟨gb202, 0, none⟩ = some (.int .i64 a0_0) := bc_ BK202 0; have hcz11_1 : w8.cell? ⟨gb202, 1, none⟩ = some (.slice A0_1 l0_1.length c0_1) := bc_ BK202 1; have hfz11_0 := blk_frozen BK202.out 0; have hfz11_1 := blk_frozen BK202.out 1; have hnb12 := NB203_204.out; have hnc12 := NB204_203.out; have hcz13_0 : w8.cell? ⟨gb203, 0, none⟩ = some (.int .i64 a1_0) := bc_ BK203 0; have hcz13_1 : w8.cell? ⟨gb203, 1, none⟩ = some (.slice A1_1 l1_1.length c1_1) := bc_ BK203 1; have hfz13_0 := blk_frozen BK203.out 0; have hfz13_1 := blk_frozen BK203.out 1) | ((with_reducible refine gate_dst (N := 17) rfl ?_); refine Kd.R_make (Kd.int .i64) _ 2 rfl (N := 17) rfl 22 _ _ rfl ji3 rfl rfl Tryd.underlying22 (.int .i64 0) 8 info2 rfl (by decide) (by omega) 0 (ok := fun _ => True) (okp := fun _ => True) rfl (fun _ hk => hk) trivial (of_decide_eq_true (by first | (with_reducible assumption) | assumption)) (Nat.le_trans (Nat.mul_le_mul_right _ (of_decide_eq_true (by first | (with_reducible assumption) | assumption) : ji3.toNat ≤ 35184372088832)) (by omega)) (Below.refl _ _) (Nat.le_refl _) ?_; intro v206 w14 ho15 hb hg_ hnew_; clear hg_ hnew_; (first | rw [← Ny205.out] at ho15 | (simp only [Int.reduceToNat] at ho15; rw [← Ny205.out] at ho15)); have HO207 := am_ (Kd.R_lower ho15 (below_size (bl_ HB))); replace BK202 := am_ (blk_below (bk_ BK202) hb); replace BK203 := am_ (blk_below (bk_ BK203) hb); replace BK204 := am_ (blk_below (bk_ BK204) hb); replace HB := am_ (below_step (bl_ HB) hb); clear hb ho15))
   repeat (go_quiet (first | ((with_reducible refine gate_dst (N := 2) rfl ?_); refine box_event ?hg (N := 2) ?hd (cs := #[.int .i64 a0_0, .slice A0_1 l0_1.length c0_1]) (t := 28) ?hr ?_; (case hd => rfl); (case hg => rfl); (case hr => first | (go_simp; done) | (go_simp; rfl)); intro gb202 hg w6 hbox hb; have BK202 := am_ (hbox); have GW202 := am_ (gs_ hg HB); have GE202 := am_ (gs_ hg HB); replace HB := am_ (below_step (bl_ HB) hb); clear hb hbox hg) | ((with_reducible refine gate_dst (N := 3) rfl ?_); refine box_event ?hg (N := 3) ?hd (cs := #[.int .i64 a1_0, .slice A1_1 l1_1.length c1_1]) (t := 28) ?hr ?_; (case hd => rfl); (case hg => rfl); (case hr => first | (go_simp; done) | (go_simp; rfl)); intro gb203 hg w7 hbox hb; have BK203 := am_ (hbox); have GW203 := am_ (gs_ hg HB); have GE203 := am_ (gs_ hg HB); have NB202_203 := am_ (nl_ hg BK202); have NB203_202 := am_ (ng_ hg BK202); replace BK202 := am_ (blk_below (bk_ BK202) hb); replace HB := am_ (below_step (bl_ HB) hb); clear hb hbox hg) | ((with_reducible refine gate_dst (N := 4) rfl ?_); refine box_event ?hg (N := 4) ?hd (cs := #[.int .i64 0, .slice none 0 0]) (t := 28) ?hr ?_; (case hd => rfl); (case hg => rfl); (case hr => first | (go_simp; done) | (go_simp; rfl)); intro gb204 hg w8 hbox hb; have BK204 := am_ (hbox); have GW204 := am_ (gs_ hg HB); have GE204 := am_ (gs_ hg HB); have NB202_204 := am_ (nl_ hg BK202); have NB204_202 := am_ (ng_ hg BK202); have NB203_204 := am_ (nl_ hg BK203); have NB204_203 := am_ (ng_ hg BK203); replace BK202 := am_ (blk_below (bk_ BK202) hb); replace BK203 := am_ (blk_below (bk_ BK203) hb); replace HB := am_ (below_step (bl_ HB) hb); clear hb hbox hg; have hnb9 := NB202_203.out; have hnc9 := NB203_202.out; have hnb10 := NB202_204.out; have hnc10 := NB204_202.out; have hcz11_0 : w8.cell? ⟨gb202, 0, none⟩ = some (.int .i64 a0_0) := bc_ BK202 0; have hcz11_1 : w8.cell? ⟨gb202, 1, none⟩ = some (.slice A0_1 l0_1.length c0_1) := bc_ BK202 1; have hfz11_0 := blk_frozen BK202.out 0; have hfz11_1 := blk_frozen BK202.out 1; have hnb12 := NB203_204.out; have hnc12 := NB204_203.out; have hcz13_0 : w8.cell? ⟨gb203, 0, none⟩ = some (.int .i64 a1_0) := bc_ BK203 0; have hcz13_1 : w8.cell? ⟨gb203, 1, none⟩ = some (.slice A1_1 l1_1.length c1_1) := bc_ BK203 1; have hfz13_0 := blk_frozen BK203.out 0; have hfz13_1 := blk_frozen BK203.out 1) | ((with_reducible refine gate_dst (N := 17) rfl ?_); refine Kd.R_make (Kd.int .i64) _ 2 rfl (N := 17) rfl 22 _ _ rfl ji3 rfl rfl Tryd.underlying22 (.int .i64 0) 8 info2 rfl (by decide) (by omega) 0 (ok := fun _ => True) (okp := fun _ => True) rfl (fun _ hk => hk) trivial (of_decide_eq_true (by first | (with_reducible assumption) | assumption)) (Nat.le_trans (Nat.mul_le_mul_right _ (of_decide_eq_true (by first | (with_reducible assumption) | assumption) : ji3.toNat ≤ 35184372088832)) (by omega)) (Below.refl _ _) (Nat.le_refl _) ?_; intro v206 w14 ho15 hb hg_ hnew_; clear hg_ hnew_; (first | rw [← Ny205.out] at ho15 | (simp only [Int.reduceToNat] at ho15; rw [← Ny205.out] at ho15)); have HO207 := am_ (Kd.R_lower ho15 (below_size (bl_ HB))); replace BK202 := am_ (blk_below (bk_ BK202) hb); replace BK203 := am_ (blk_below (bk_ BK203) hb); replace BK204 := am_ (blk_below (bk_ BK204) hb); replace HB := am_ (below_step (bl_ HB) hb); clear hb ho15)); try go_wp2_with (first | ((with_reducible refine gate_dst (N := 2) rfl ?_); refine box_event ?hg (N := 2) ?hd (cs := #[.int .i64 a0_0, .slice A0_1 l0_1.length c0_1]) (t := 28) ?hr ?_; (case hd => rfl); (case hg => rfl); (case hr => first | (go_simp; done) | (go_simp; rfl)); intro gb202 hg w6 hbox hb; have BK202 := am_ (hbox); have GW202 := am_ (gs_ hg HB); have GE202 := am_ (gs_ hg HB); replace HB := am_ (below_step (bl_ HB) hb); clear hb hbox hg) | ((with_reducible refine gate_dst (N := 3) rfl ?_); refine box_event ?hg (N := 3) ?hd (cs := #[.int .i64 a1_0, .slice A1_1 l1_1.length c1_1]) (t := 28) ?hr ?_; (case hd => rfl); (case hg => rfl); (case hr => first | (go_simp; done) | (go_simp; rfl)); intro gb203 hg w7 hbox hb; have BK203 := am_ (hbox); have GW203 := am_ (gs_ hg HB); have GE203 := am_ (gs_ hg HB); have NB202_203 := am_ (nl_ hg BK202); have NB203_202 := am_ (ng_ hg BK202); replace BK202 := am_ (blk_below (bk_ BK202) hb); replace HB := am_ (below_step (bl_ HB) hb); clear hb hbox hg) | ((with_reducible refine gate_dst (N := 4) rfl ?_); refine box_event ?hg (N := 4) ?hd (cs := #[.int .i64 0, .slice none 0 0]) (t := 28) ?hr ?_; (case hd => rfl); (case hg => rfl); (case hr => first | (go_simp; done) | (go_simp; rfl)); intro gb204 hg w8 hbox hb; have BK204 := am_ (hbox); have GW204 := am_ (gs_ hg HB); have GE204 := am_ (gs_ hg HB); have NB202_204 := am_ (nl_ hg BK202); have NB204_202 := am_ (ng_ hg BK202); have NB203_204 := am_ (nl_ hg BK203); have NB204_203 := am_ (ng_ hg BK203); replace BK202 := am_ (blk_below (bk_ BK202) hb); replace BK203 := am_ (blk_below (bk_ BK203) hb); replace HB := am_ (below_step (bl_ HB) hb); clear hb hbox hg; have hnb9 := NB202_203.out; have hnc9 := NB203_202.out; have hnb10 := NB202_204.out; have hnc10 := NB204_202.out; have hcz11_0 : w8.cell? ⟨gb202, 0, none⟩ = some (.int .i64 a0_0) := bc_ BK202 0; have hcz11_1 : w8.cell? ⟨gb202, 1, none⟩ = some (.slice A0_1 l0_1.length c0_1) := bc_ BK202 1; have hfz11_0 := blk_frozen BK202.out 0; have hfz11_1 := blk_frozen BK202.out 1; have hnb12 := NB203_204.out; have hnc12 := NB204_203.out; have hcz13_0 : w8.cell? ⟨gb203, 0, none⟩ = some (.int .i64 a1_0) := bc_ BK203 0; have hcz13_1 : w8.cell? ⟨gb203, 1, none⟩ = some (.slice A1_1 l1_1.length c1_1) := bc_ BK203 1; have hfz13_0 := blk_frozen BK203.out 0; have hfz13_1 := blk_frozen BK203.out 1) | ((with_reducible refine gate_dst (N := 17) rfl ?_); refine Kd.R_make (Kd.int .i64) _ 2 rfl (N := 17) rfl 22 _ _ rfl ji3 rfl rfl Tryd.underlying22 (.int .i64 0) 8 info2 rfl (by decide) (by omega) 0 (ok := fun _ => True) (okp := fun _ => True) rfl (fun _ hk => hk) trivial (of_decide_eq_true (by first | (with_reducible assumption) | assumption)) (Nat.le_trans (Nat.mul_le_mul_right _ (of_decide_eq_true (by first | (with_reducible assumption) | assumption) : ji3.toNat ≤ 35184372088832)) (by omega)) (Below.refl _ _) (Nat.le_refl _) ?_; intro v206 w14 ho15 hb hg_ hnew_; clear hg_ hnew_; (first | rw [← Ny205.out] at ho15 | (simp only [Int.reduceToNat] at ho15; rw [← Ny205.out] at ho15)); have HO207 := am_ (Kd.R_lower ho15 (below_size (bl_ HB))); replace BK202 := am_ (blk_below (bk_ BK202) hb); replace BK203 := am_ (blk_below (bk_ BK203) hb); replace BK204 := am_ (blk_below (bk_ BK204) hb); replace HB := am_ (below_step (bl_ HB) hb); clear hb ho15)))
   go_loopg [6] k (fun kq v6 w' => ∃ (x5_1 : List Int) (x6_1 : Int), v6 = .int .i64 x6_1 ∧ Aside0 (spec_l02Mul.l0 kq x5_1 x6_1 a0_0 l0_1 a1_0 l1_1 = some (r1, r2)) ∧ Aside0 (kq ≤ k) ∧ Aside0 (Kd.R (Kd.int .i64) 2 w' w.heap.size (fun _ => True) v206 x5_1) ∧ Aside0 (w'.heap[gb202]? = some (.cells #[.int .i64 a0_0, (.slice A0_1 l0_1.length c0_1)] 28 (0, 0))) ∧ Aside0 (w'.heap[gb203]? = some (.cells #[.int .i64 a1_0, (.slice A1_1 l1_1.length c1_1)] 28 (0, 0))) ∧ Aside0 (w'.heap[gb204]? = some (.cells #[.int .i64 0, (.slice none 0 0)] 28 (0, 0))) ∧ Aside0 (Below w.heap.size w w'))
   case atStart => exact ⟨(y205), (0), (by first | rfl | (simp; done) | (simp [*]; done)), H', ⟨Nat.le_refl _⟩, ⟨kr_ HO207⟩, ⟨bk_ BK202⟩, ⟨bk_ BK203⟩, ⟨bk_ BK204⟩, ⟨bl_ HB⟩⟩
   case round =>
    clear H'; try clear c1; try clear p2; try clear c4; try clear c4b0; try clear c4b1; try clear c5; try clear c5b0; try clear c5b1; try clear p6; try clear c8; try clear c9; try clear c10; try clear c12; try clear hcz11_0; try clear hcz11_1; try clear hcz13_0; try clear hcz13_1; try clear hfz11_0; try clear hfz11_1; try clear hfz13_0; try clear hfz13_1
    obtain ⟨x5_1, x6_1, rfl, HA, HK1, HO_5, BK202, BK203, BK204, HB⟩ := hrel
    cases gk with
    | zero => exact absurd HA.out (by simp [spec_l02Mul.l0])
    | succ k1 =>
     have H := HA.out; clear HA
     simp only [spec_l02Mul.l0] at H
     by_cases c16 : x6_1 < (l0_1.length : Int)
     ·rw [if_pos c16] at H
      have c16b0 : decide (x6_1 < (l0_1.length : Int)) = true := decide_eq_true c16
      clear c16
      have H' := Aside0.mk H
      clear H; have hnb17 := NB202_203.out; have hnc17 := NB203_202.out; have hnb18 := NB202_204.out; have hnc18 := NB204_202.out
      have hcz19_0 : wr.cell? ⟨gb202, 0, none⟩ = some (.int .i64 a0_0) := bc_ BK202 0
      have hcz19_1 : wr.cell? ⟨gb202, 1, none⟩ = some (.slice A0_1 l0_1.length c0_1) := bc_ BK202 1
      have hfz19_0 := blk_frozen BK202.out 0; have hfz19_1 := blk_frozen BK202.out 1
      go_wp2
      repeat (go_quiet (fail); try go_wp2)
      go_loopg [7, 8] k1 (fun kq v7 v8 w' => ∃ (x5_2 : List Int) (x7_2 : Int) (x8_2 : Int), v7 = .int .i64 x7_2 ∧ v8 = .int .i64 x8_2 ∧ Aside0 (spec_l02Mul.l1 kq x5_2 x6_1 x7_2 x8_2 a0_0 l0_1 a1_0 l1_1 = some (r1, r2)) ∧ Aside0 (kq ≤ k1) ∧ Aside0 (Kd.R (Kd.int .i64) 2 w' w.heap.size (fun _ => True) v206 x5_2) ∧ Aside0 (w'.heap[gb202]? = some (.cells #[.int .i64 a0_0, (.slice A0_1 l0_1.length c0_1)] 28 (0, 0))) ∧ Aside0 (w'.heap[gb203]? = some (.cells #[.int .i64 a1_0, (.slice A1_1 l1_1.length c1_1)] 28 (0, 0))) ∧ Aside0 (w'.heap[gb204]? = some (.cells #[.int .i64 0, (.slice none 0 0)] 28 (0, 0))) ∧ Aside0 (Below w.heap.size w w'))
      case atStart => exact ⟨(x5_1), (0), (0), (by first | rfl | (simp; done) | (simp [*]; done)), (by first | rfl | (simp; done) | (simp [*]; done)), H', ⟨Nat.le_refl _⟩, ⟨kr_ HO_5⟩, ⟨bk_ BK202⟩, ⟨bk_ BK203⟩, ⟨bk_ BK204⟩, ⟨bl_ HB⟩⟩
      case round =>
       clear H'; try clear c1; try clear p2; try clear c4; try clear c4b0; try clear c4b1; try clear c5; try clear c5b0; try clear c5b1; try clear p6; try clear c8; try clear c9; try clear c10; try clear c12; try clear c16; try clear c16b0; try clear c17; try clear c18; try clear hcz11_0; try clear hcz11_1; try clear hcz13_0; try clear hcz13_1; try clear hcz19_0; try clear hcz19_1; try clear hfz11_0; try clear hfz11_1; try clear hfz13_0; try clear hfz13_1; try clear hfz19_0; try clear hfz19_1; try clear p2; try clear p6
       obtain ⟨x5_2, x7_2, x8_2, rfl, rfl, HA, HK2, HO_5, BK202, BK203, BK204, HB⟩ := hrel
       cases gk with
       | zero => exact absurd HA.out (by simp [spec_l02Mul.l1])
       | succ k2 =>
        have H := HA.out; clear HA
        simp only [spec_l02Mul.l1] at H
        by_cases c20 : x8_2 < (l1_1.length : Int)
        ·rw [if_pos c20] at H
         have c20b0 : decide (x8_2 < (l1_1.length : Int)) = true := decide_eq_true c20
         clear c20
         obtain ⟨ji21, hji21⟩ : ∃ j_ : Int, (wrap64 (x6_1 + x8_2)) = j_ := ⟨_, rfl⟩
         replace H : (if 0 ≤ (ji21) then (if (ji21) < (x5_2.length : Int) then (if 0 ≤ x6_1 then (if x6_1 < (l0_1.length : Int) then (if 0 ≤ x8_2 then (spec_l02Mul.l1 k2 (x5_2.set ((ji21) : Int).toNat (Int.tmod (wrap64 ((wrap64 (x7_2 + (rd x5_2 (ji21)))) + (wrap64 ((rd l0_1 x6_1) * (rd l1_1 x8_2))))) 16777216)) x6_1 (wrap64 (Int.tdiv (wrap64 ((wrap64 (x7_2 + (rd x5_2 (ji21)))) + (wrap64 ((rd l0_1 x6_1) * (rd l1_1 x8_2))))) 16777216)) (wrap64 (x8_2 + 1)) a0_0 l0_1 a1_0 l1_1) else (none)) else (none)) else (none)) else (none)) else (none)) = some (r1, r2) := by first | (rw [hji21] at H; exact H) | (simp only [hji21] at H ⊢; exact H)
         have hji21w : (IntKind.i64.wrap (x6_1 + x8_2)) = ji21 := (i64_w _).trans hji21
         by_cases c22 : 0 ≤ (ji21)
         ·rw [if_pos c22] at H
          have c22b0 : decide (0 ≤ (ji21)) = true := decide_eq_true c22
          clear c22
          by_cases c23 : (ji21) < (x5_2.length : Int)
          ·rw [if_pos c23] at H
           have c23b0 : decide ((ji21) < (x5_2.length : Int)) = true := decide_eq_true c23
           clear c23
           by_cases c24 : 0 ≤ x6_1
           ·rw [if_pos c24] at H
            have c24b0 : decide (0 ≤ x6_1) = true := decide_eq_true c24
            clear c24
            by_cases c25 : x6_1 < (l0_1.length : Int)
            ·rw [if_pos c25] at H
             have c25b0 : decide (x6_1 < (l0_1.length : Int)) = true := decide_eq_true c25
             clear c25
             by_cases c26 : 0 ≤ x8_2
             ·rw [if_pos c26] at H
              have c26b0 : decide (0 ≤ x8_2) = true := decide_eq_true c26
              clear c26
              obtain ⟨y215, hy215⟩ : ∃ y_ : List Int, y_ = (x5_2.set ((ji21) : Int).toNat (Int.tmod (wrap64 ((wrap64 (x7_2 + (rd x5_2 (ji21)))) + (wrap64 ((rd l0_1 x6_1) * (rd l1_1 x8_2))))) 16777216)) := ⟨_, rfl⟩
              replace H : (spec_l02Mul.l1 k2 y215 x6_1 (wrap64 (Int.tdiv (wrap64 ((wrap64 (x7_2 + (rd x5_2 (ji21)))) + (wrap64 ((rd l0_1 x6_1) * (rd l1_1 x8_2))))) 16777216)) (wrap64 (x8_2 + 1)) a0_0 l0_1 a1_0 l1_1) = some (r1, r2) := by first | (rw [hy215]; with_reducible exact H) | (have H2_ := (Option.bind_some _ _).symm.trans H; rw [hy215]; with_reducible exact H2_) | (have H2_ := (Option.bind_some _ _).symm.trans H; with_reducible exact H2_) | with_reducible exact H | (rw [hy215]; exact H) | exact H
              have Ny215 := Aside0.mk hy215; clear hy215
              have H' := Aside0.mk H
              clear H; have hnb28 := NB203_202.out; have hnc28 := NB202_203.out; have hnb29 := NB203_204.out; have hnc29 := NB204_203.out
              have hcz30_0 : wr.cell? ⟨gb203, 0, none⟩ = some (.int .i64 a1_0) := bc_ BK203 0
              have hcz30_1 : wr.cell? ⟨gb203, 1, none⟩ = some (.slice A1_1 l1_1.length c1_1) := bc_ BK203 1
              have hfz30_0 := blk_frozen BK203.out 0; have hfz30_1 := blk_frozen BK203.out 1
              obtain ⟨Ao31, co31, eo31⟩ := Kd.R_slice HO_5.out
              subst eo31
              have p212 : 0 ≤ ((ji21) : Int) := of_decide_eq_true (by first | (with_reducible assumption) | assumption)
              have q212 : (ji21) < (x5_2.length : Int) := of_decide_eq_true (by first | (with_reducible assumption) | assumption)
              obtain ⟨ad212, e212, hx212_0⟩ := Kd.at_int (Kd.R_reads' HO_5.out).2.2 (ji21) p212 q212
              cases e212
              replace p212 := eq_true p212
              replace q212 := eq_true q212
              have hnb32 := NB202_204.out; have hnc32 := NB204_202.out
              have hcz33_0 : wr.cell? ⟨gb202, 0, none⟩ = some (.int .i64 a0_0) := bc_ BK202 0
              have hcz33_1 : wr.cell? ⟨gb202, 1, none⟩ = some (.slice A0_1 l0_1.length c0_1) := bc_ BK202 1
              have hfz33_0 := blk_frozen BK202.out 0; have hfz33_1 := blk_frozen BK202.out 1
              have p213 : 0 ≤ (x6_1 : Int) := of_decide_eq_true (by first | (with_reducible assumption) | assumption)
              have q213 : x6_1 < (l0_1.length : Int) := of_decide_eq_true (by first | (with_reducible assumption) | assumption)
              obtain ⟨ad213, e213, hx213_0⟩ := Kd.at_int HR0_1.out x6_1 p213 q213
              cases e213
              replace hx213_0 := (HB.out.cell (World.block_lt_of_cell? w _ hx213_0)).trans hx213_0
              replace p213 := eq_true p213
              replace q213 := eq_true q213
              have p214 : 0 ≤ (x8_2 : Int) := of_decide_eq_true (by first | (with_reducible assumption) | assumption)
              have q214 : x8_2 < (l1_1.length : Int) := of_decide_eq_true (by first | (with_reducible assumption) | assumption)
              obtain ⟨ad214, e214, hx214_0⟩ := Kd.at_int HR1_1.out x8_2 p214 q214
              cases e214
              replace hx214_0 := (HB.out.cell (World.block_lt_of_cell? w _ hx214_0)).trans hx214_0
              replace p214 := eq_true p214
              replace q214 := eq_true q214
              have p27 : 0 ≤ ((ji21) : Int) := of_decide_eq_true (by first | (with_reducible assumption) | assumption)
              have q27 : ((ji21) : Int) < ((x5_2.length : Int) : Int) := of_decide_eq_true (by first | (with_reducible assumption) | assumption)
              obtain ⟨go27, co27, eo27, gb27, gl27, cl27, HG27⟩ := Kd.R_form HO_5.out (by omega)
              (first | cases eo27 | (injection eo27 with ea_ en_ ec_; (first | subst ea_ | (injection ea_ with ea_; subst ea_)); subst ec_; clear en_))
              have GB27 := Aside0.mk gb27; have GG27 := Aside0.mk HG27; clear gb27 gl27 HG27
              (first | simp only [add_plain] at hx212_0 | skip)
              obtain ⟨hx27_0, hf27_0⟩ := Kd.R_celln 0 HO_5.out ((ji21) : Int) p27 q27
              replace p27 := eq_true p27
              replace q27 := eq_true q27
              have HP34 := Kd.R_putg HO_5.out ((ji21) : Int) (Int.tmod (wrap64 ((wrap64 (x7_2 + (rd x5_2 (ji21)))) + (wrap64 ((rd l0_1 x6_1) * (rd l1_1 x8_2))))) 16777216)
              go_wp2_with (first | ((with_reducible refine gate_store (t := 2) (p := 58) rfl ?_); (try (rw [drewN_self wr]; generalize hq_ : World.drewN wr _ = wr; have n0_ := am_ (Kd.R_at hq_ HO_5.out); have n1_ := am_ (blk_at hq_ BK202.out); have n2_ := am_ (blk_at hq_ BK203.out); have n3_ := am_ (blk_at hq_ BK204.out); have n4_ := am_ (below_at hq_ HB.out); clear hq_ HO_5 BK202 BK203 BK204 HB; have HO_5 := n0_; have BK202 := n1_; have BK203 := n2_; have BK204 := n3_; have HB := n4_; clear n0_ n1_ n2_ n3_ n4_; (try (have HP34 := Kd.R_putg HO_5.out ((ji21) : Int) (Int.tmod (wrap64 ((wrap64 (x7_2 + (rd x5_2 (ji21)))) + (wrap64 ((rd l0_1 x6_1) * (rd l1_1 x8_2))))) 16777216))); (try (obtain ⟨hx27_0, hf27_0⟩ := Kd.R_celln 0 HO_5.out ((ji21) : Int) (of_eq_true p27) (of_eq_true q27))))); refine store_event (t := 2) (p := 58) (v := ?vo_w35) (w1 := (wr.setCell ⟨go27, ((ji21) : Int).toNat, none⟩ (.int .i64 (Int.tmod (wrap64 ((wrap64 (x7_2 + (rd x5_2 (ji21)))) + (wrap64 ((rd l0_1 x6_1) * (rd l1_1 x8_2))))) 16777216)))) ?hg ?ho ?hn ?hr ?_; (case ho => rfl); (case hg => rfl); (case hn => rfl); (case hr => first | (go_simp; done) | (go_simp; rfl)); intro w35 hw; have hg : wr.grownBy w35 (some go27) := (by rw [hw]; exact HP34.2); have hp_ : Kd.R (Kd.int .i64) 2 w35 w.heap.size (fun _ => True) (.slice (some ⟨go27, 0, none⟩) x5_2.length co31) y215 := (by rw [hw, Ny215.out]; exact HP34.1); clear HP34; have n0_ := am_ (hp_); have n1_ := am_ (blk_grown (g := gb202) (o := .cells #[.int .i64 a0_0, .slice (some ad213) l0_1.length c0_1] 28 (0, 0)) (bk_ BK202) hg (Kd.R_ne HO_5.out BK202.out (by decide))); have n2_ := am_ (blk_grown (g := gb203) (o := .cells #[.int .i64 a1_0, .slice (some ad214) l1_1.length c1_1] 28 (0, 0)) (bk_ BK203) hg (Kd.R_ne HO_5.out BK203.out (by decide))); have n3_ := am_ (blk_grown (g := gb204) (o := .cells #[.int .i64 0, .slice none 0 0] 28 (0, 0)) (bk_ BK204) hg (Kd.R_ne HO_5.out BK204.out (by decide))); have n4_ := am_ ((by rw [hw]; exact below_set (HB.out) GB27.out : Below w.heap.size w w35)); clear HO_5; clear BK202; clear BK203; clear BK204; clear HB; have HO_5 := n0_; have BK202 := n1_; have BK203 := n2_; have BK204 := n3_; have HB := n4_; clear n0_ n1_ n2_ n3_ n4_; clear hg hw hp_))
              repeat (go_quiet (first | ((with_reducible refine gate_store (t := 2) (p := 58) rfl ?_); (try (rw [drewN_self wr]; generalize hq_ : World.drewN wr _ = wr; have n0_ := am_ (Kd.R_at hq_ HO_5.out); have n1_ := am_ (blk_at hq_ BK202.out); have n2_ := am_ (blk_at hq_ BK203.out); have n3_ := am_ (blk_at hq_ BK204.out); have n4_ := am_ (below_at hq_ HB.out); clear hq_ HO_5 BK202 BK203 BK204 HB; have HO_5 := n0_; have BK202 := n1_; have BK203 := n2_; have BK204 := n3_; have HB := n4_; clear n0_ n1_ n2_ n3_ n4_; (try (have HP34 := Kd.R_putg HO_5.out ((ji21) : Int) (Int.tmod (wrap64 ((wrap64 (x7_2 + (rd x5_2 (ji21)))) + (wrap64 ((rd l0_1 x6_1) * (rd l1_1 x8_2))))) 16777216))); (try (obtain ⟨hx27_0, hf27_0⟩ := Kd.R_celln 0 HO_5.out ((ji21) : Int) (of_eq_true p27) (of_eq_true q27))))); refine store_event (t := 2) (p := 58) (v := ?vo_w35) (w1 := (wr.setCell ⟨go27, ((ji21) : Int).toNat, none⟩ (.int .i64 (Int.tmod (wrap64 ((wrap64 (x7_2 + (rd x5_2 (ji21)))) + (wrap64 ((rd l0_1 x6_1) * (rd l1_1 x8_2))))) 16777216)))) ?hg ?ho ?hn ?hr ?_; (case ho => rfl); (case hg => rfl); (case hn => rfl); (case hr => first | (go_simp; done) | (go_simp; rfl)); intro w35 hw; have hg : wr.grownBy w35 (some go27) := (by rw [hw]; exact HP34.2); have hp_ : Kd.R (Kd.int .i64) 2 w35 w.heap.size (fun _ => True) (.slice (some ⟨go27, 0, none⟩) x5_2.length co31) y215 := (by rw [hw, Ny215.out]; exact HP34.1); clear HP34; have n0_ := am_ (hp_); have n1_ := am_ (blk_grown (g := gb202) (o := .cells #[.int .i64 a0_0, .slice (some ad213) l0_1.length c0_1] 28 (0, 0)) (bk_ BK202) hg (Kd.R_ne HO_5.out BK202.out (by decide))); have n2_ := am_ (blk_grown (g := gb203) (o := .cells #[.int .i64 a1_0, .slice (some ad214) l1_1.length c1_1] 28 (0, 0)) (bk_ BK203) hg (Kd.R_ne HO_5.out BK203.out (by decide))); have n3_ := am_ (blk_grown (g := gb204) (o := .cells #[.int .i64 0, .slice none 0 0] 28 (0, 0)) (bk_ BK204) hg (Kd.R_ne HO_5.out BK204.out (by decide))); have n4_ := am_ ((by rw [hw]; exact below_set (HB.out) GB27.out : Below w.heap.size w w35)); clear HO_5; clear BK202; clear BK203; clear BK204; clear HB; have HO_5 := n0_; have BK202 := n1_; have BK203 := n2_; have BK204 := n3_; have HB := n4_; clear n0_ n1_ n2_ n3_ n4_; clear hg hw hp_)); try go_wp2_with (first | ((with_reducible refine gate_store (t := 2) (p := 58) rfl ?_); (try (rw [drewN_self wr]; generalize hq_ : World.drewN wr _ = wr; have n0_ := am_ (Kd.R_at hq_ HO_5.out); have n1_ := am_ (blk_at hq_ BK202.out); have n2_ := am_ (blk_at hq_ BK203.out); have n3_ := am_ (blk_at hq_ BK204.out); have n4_ := am_ (below_at hq_ HB.out); clear hq_ HO_5 BK202 BK203 BK204 HB; have HO_5 := n0_; have BK202 := n1_; have BK203 := n2_; have BK204 := n3_; have HB := n4_; clear n0_ n1_ n2_ n3_ n4_; (try (have HP34 := Kd.R_putg HO_5.out ((ji21) : Int) (Int.tmod (wrap64 ((wrap64 (x7_2 + (rd x5_2 (ji21)))) + (wrap64 ((rd l0_1 x6_1) * (rd l1_1 x8_2))))) 16777216))); (try (obtain ⟨hx27_0, hf27_0⟩ := Kd.R_celln 0 HO_5.out ((ji21) : Int) (of_eq_true p27) (of_eq_true q27))))); refine store_event (t := 2) (p := 58) (v := ?vo_w35) (w1 := (wr.setCell ⟨go27, ((ji21) : Int).toNat, none⟩ (.int .i64 (Int.tmod (wrap64 ((wrap64 (x7_2 + (rd x5_2 (ji21)))) + (wrap64 ((rd l0_1 x6_1) * (rd l1_1 x8_2))))) 16777216)))) ?hg ?ho ?hn ?hr ?_; (case ho => rfl); (case hg => rfl); (case hn => rfl); (case hr => first | (go_simp; done) | (go_simp; rfl)); intro w35 hw; have hg : wr.grownBy w35 (some go27) := (by rw [hw]; exact HP34.2); have hp_ : Kd.R (Kd.int .i64) 2 w35 w.heap.size (fun _ => True) (.slice (some ⟨go27, 0, none⟩) x5_2.length co31) y215 := (by rw [hw, Ny215.out]; exact HP34.1); clear HP34; have n0_ := am_ (hp_); have n1_ := am_ (blk_grown (g := gb202) (o := .cells #[.int .i64 a0_0, .slice (some ad213) l0_1.length c0_1] 28 (0, 0)) (bk_ BK202) hg (Kd.R_ne HO_5.out BK202.out (by decide))); have n2_ := am_ (blk_grown (g := gb203) (o := .cells #[.int .i64 a1_0, .slice (some ad214) l1_1.length c1_1] 28 (0, 0)) (bk_ BK203) hg (Kd.R_ne HO_5.out BK203.out (by decide))); have n3_ := am_ (blk_grown (g := gb204) (o := .cells #[.int .i64 0, .slice none 0 0] 28 (0, 0)) (bk_ BK204) hg (Kd.R_ne HO_5.out BK204.out (by decide))); have n4_ := am_ ((by rw [hw]; exact below_set (HB.out) GB27.out : Below w.heap.size w w35)); clear HO_5; clear BK202; clear BK203; clear BK204; clear HB; have HO_5 := n0_; have BK202 := n1_; have BK203 := n2_; have BK204 := n3_; have HB := n4_; clear n0_ n1_ n2_ n3_ n4_; clear hg hw hp_)))
              go_roundg k2
              case measure => have := HK1.out; have := HK2.out; omega
              case rel => exact ⟨(y215), (wrap64 (Int.tdiv (wrap64 ((wrap64 (x7_2 + (rd x5_2 (ji21)))) + (wrap64 ((rd l0_1 x6_1) * (rd l1_1 x8_2))))) 16777216)), (wrap64 (x8_2 + 1)), (by first | rfl | (simp; done) | (simp only [← hji21] <;> (first | rfl | simp)) | (simp [*]; done)), (by first | rfl | (simp; done) | (simp [*]; done)), H', ⟨by have := HK1.out; have := HK2.out; omega⟩, ⟨kr_ HO_5⟩, ⟨bk_ BK202⟩, ⟨bk_ BK203⟩, ⟨bk_ BK204⟩, ⟨bl_ HB⟩⟩
             ·rw [if_neg c26] at H
              exact absurd H (by simp)
            ·rw [if_neg c25] at H
             exact absurd H (by simp)
           ·rw [if_neg c24] at H
            exact absurd H (by simp)
          ·rw [if_neg c23] at H
           exact absurd H (by simp)
         ·rw [if_neg c22] at H
          exact absurd H (by simp)
        ·rw [if_neg c20] at H
         have c20b0 : decide (x8_2 < (l1_1.length : Int)) = false := decide_eq_false c20
         clear c20
         obtain ⟨ji36, hji36⟩ : ∃ j_ : Int, (wrap64 (x6_1 + (l1_1.length : Int))) = j_ := ⟨_, rfl⟩
         replace H : (if 0 ≤ (ji36) then (if (ji36) < (x5_2.length : Int) then (spec_l02Mul.l0 k2 (x5_2.set ((ji36) : Int).toNat x7_2) (wrap64 (x6_1 + 1)) a0_0 l0_1 a1_0 l1_1) else (none)) else (none)) = some (r1, r2) := by first | (rw [hji36] at H; exact H) | (simp only [hji36] at H ⊢; exact H)
         have hji36w : (IntKind.i64.wrap (x6_1 + (l1_1.length : Int))) = ji36 := (i64_w _).trans hji36
         by_cases c37 : 0 ≤ (ji36)
         ·rw [if_pos c37] at H
          have c37b0 : decide (0 ≤ (ji36)) = true := decide_eq_true c37
          clear c37
          by_cases c38 : (ji36) < (x5_2.length : Int)
          ·rw [if_pos c38] at H
           have c38b0 : decide ((ji36) < (x5_2.length : Int)) = true := decide_eq_true c38
           clear c38
           obtain ⟨y216, hy216⟩ : ∃ y_ : List Int, y_ = (x5_2.set ((ji36) : Int).toNat x7_2) := ⟨_, rfl⟩
           replace H : (spec_l02Mul.l0 k2 y216 (wrap64 (x6_1 + 1)) a0_0 l0_1 a1_0 l1_1) = some (r1, r2) := by first | (rw [hy216]; with_reducible exact H) | (have H2_ := (Option.bind_some _ _).symm.trans H; rw [hy216]; with_reducible exact H2_) | (have H2_ := (Option.bind_some _ _).symm.trans H; with_reducible exact H2_) | with_reducible exact H | (rw [hy216]; exact H) | exact H
           have Ny216 := Aside0.mk hy216; clear hy216
           have H' := Aside0.mk H
           clear H; have hnb40 := NB203_202.out; have hnc40 := NB202_203.out; have hnb41 := NB203_204.out; have hnc41 := NB204_203.out
           have hcz42_0 : wr.cell? ⟨gb203, 0, none⟩ = some (.int .i64 a1_0) := bc_ BK203 0
           have hcz42_1 : wr.cell? ⟨gb203, 1, none⟩ = some (.slice A1_1 l1_1.length c1_1) := bc_ BK203 1
           have hfz42_0 := blk_frozen BK203.out 0; have hfz42_1 := blk_frozen BK203.out 1
           have p39 : 0 ≤ ((ji36) : Int) := of_decide_eq_true (by first | (with_reducible assumption) | assumption)
           have q39 : ((ji36) : Int) < ((x5_2.length : Int) : Int) := of_decide_eq_true (by first | (with_reducible assumption) | assumption)
           obtain ⟨go39, co39, eo39, gb39, gl39, cl39, HG39⟩ := Kd.R_form HO_5.out (by omega)
           (first | cases eo39 | (injection eo39 with ea_ en_ ec_; (first | subst ea_ | (injection ea_ with ea_; subst ea_)); subst ec_; clear en_))
           have GB39 := Aside0.mk gb39; have GG39 := Aside0.mk HG39; clear gb39 gl39 HG39
           obtain ⟨hx39_0, hf39_0⟩ := Kd.R_celln 0 HO_5.out ((ji36) : Int) p39 q39
           replace p39 := eq_true p39
           replace q39 := eq_true q39
           have HP43 := Kd.R_putg HO_5.out ((ji36) : Int) x7_2
           go_wp2_with (first | ((with_reducible refine gate_store (t := 2) (p := 68) rfl ?_); (try (rw [drewN_self wr]; generalize hq_ : World.drewN wr _ = wr; have n0_ := am_ (Kd.R_at hq_ HO_5.out); have n1_ := am_ (blk_at hq_ BK202.out); have n2_ := am_ (blk_at hq_ BK203.out); have n3_ := am_ (blk_at hq_ BK204.out); have n4_ := am_ (below_at hq_ HB.out); clear hq_ HO_5 BK202 BK203 BK204 HB; have HO_5 := n0_; have BK202 := n1_; have BK203 := n2_; have BK204 := n3_; have HB := n4_; clear n0_ n1_ n2_ n3_ n4_; (try (have HP43 := Kd.R_putg HO_5.out ((ji36) : Int) x7_2)); (try (obtain ⟨hx39_0, hf39_0⟩ := Kd.R_celln 0 HO_5.out ((ji36) : Int) (of_eq_true p39) (of_eq_true q39))))); refine store_event (t := 2) (p := 68) (v := ?vo_w44) (w1 := (wr.setCell ⟨go39, ((ji36) : Int).toNat, none⟩ (.int .i64 x7_2))) ?hg ?ho ?hn ?hr ?_; (case ho => rfl); (case hg => rfl); (case hn => rfl); (case hr => first | (go_simp; done) | (go_simp; rfl)); intro w44 hw; have hg : wr.grownBy w44 (some go39) := (by rw [hw]; exact HP43.2); have hp_ : Kd.R (Kd.int .i64) 2 w44 w.heap.size (fun _ => True) (.slice (some ⟨go39, 0, none⟩) x5_2.length co39) y216 := (by rw [hw, Ny216.out]; exact HP43.1); clear HP43; have n0_ := am_ (hp_); have n1_ := am_ (blk_grown (g := gb202) (o := .cells #[.int .i64 a0_0, .slice A0_1 l0_1.length c0_1] 28 (0, 0)) (bk_ BK202) hg (Kd.R_ne HO_5.out BK202.out (by decide))); have n2_ := am_ (blk_grown (g := gb203) (o := .cells #[.int .i64 a1_0, .slice A1_1 l1_1.length c1_1] 28 (0, 0)) (bk_ BK203) hg (Kd.R_ne HO_5.out BK203.out (by decide))); have n3_ := am_ (blk_grown (g := gb204) (o := .cells #[.int .i64 0, .slice none 0 0] 28 (0, 0)) (bk_ BK204) hg (Kd.R_ne HO_5.out BK204.out (by decide))); have n4_ := am_ ((by rw [hw]; exact below_set (HB.out) GB39.out : Below w.heap.size w w44)); clear HO_5; clear BK202; clear BK203; clear BK204; clear HB; have HO_5 := n0_; have BK202 := n1_; have BK203 := n2_; have BK204 := n3_; have HB := n4_; clear n0_ n1_ n2_ n3_ n4_; clear hg hw hp_))
           repeat (go_quiet (first | ((with_reducible refine gate_store (t := 2) (p := 68) rfl ?_); (try (rw [drewN_self wr]; generalize hq_ : World.drewN wr _ = wr; have n0_ := am_ (Kd.R_at hq_ HO_5.out); have n1_ := am_ (blk_at hq_ BK202.out); have n2_ := am_ (blk_at hq_ BK203.out); have n3_ := am_ (blk_at hq_ BK204.out); have n4_ := am_ (below_at hq_ HB.out); clear hq_ HO_5 BK202 BK203 BK204 HB; have HO_5 := n0_; have BK202 := n1_; have BK203 := n2_; have BK204 := n3_; have HB := n4_; clear n0_ n1_ n2_ n3_ n4_; (try (have HP43 := Kd.R_putg HO_5.out ((ji36) : Int) x7_2)); (try (obtain ⟨hx39_0, hf39_0⟩ := Kd.R_celln 0 HO_5.out ((ji36) : Int) (of_eq_true p39) (of_eq_true q39))))); refine store_event (t := 2) (p := 68) (v := ?vo_w44) (w1 := (wr.setCell ⟨go39, ((ji36) : Int).toNat, none⟩ (.int .i64 x7_2))) ?hg ?ho ?hn ?hr ?_; (case ho => rfl); (case hg => rfl); (case hn => rfl); (case hr => first | (go_simp; done) | (go_simp; rfl)); intro w44 hw; have hg : wr.grownBy w44 (some go39) := (by rw [hw]; exact HP43.2); have hp_ : Kd.R (Kd.int .i64) 2 w44 w.heap.size (fun _ => True) (.slice (some ⟨go39, 0, none⟩) x5_2.length co39) y216 := (by rw [hw, Ny216.out]; exact HP43.1); clear HP43; have n0_ := am_ (hp_); have n1_ := am_ (blk_grown (g := gb202) (o := .cells #[.int .i64 a0_0, .slice A0_1 l0_1.length c0_1] 28 (0, 0)) (bk_ BK202) hg (Kd.R_ne HO_5.out BK202.out (by decide))); have n2_ := am_ (blk_grown (g := gb203) (o := .cells #[.int .i64 a1_0, .slice A1_1 l1_1.length c1_1] 28 (0, 0)) (bk_ BK203) hg (Kd.R_ne HO_5.out BK203.out (by decide))); have n3_ := am_ (blk_grown (g := gb204) (o := .cells #[.int .i64 0, .slice none 0 0] 28 (0, 0)) (bk_ BK204) hg (Kd.R_ne HO_5.out BK204.out (by decide))); have n4_ := am_ ((by rw [hw]; exact below_set (HB.out) GB39.out : Below w.heap.size w w44)); clear HO_5; clear BK202; clear BK203; clear BK204; clear HB; have HO_5 := n0_; have BK202 := n1_; have BK203 := n2_; have BK204 := n3_; have HB := n4_; clear n0_ n1_ n2_ n3_ n4_; clear hg hw hp_)); try go_wp2_with (first | ((with_reducible refine gate_store (t := 2) (p := 68) rfl ?_); (try (rw [drewN_self wr]; generalize hq_ : World.drewN wr _ = wr; have n0_ := am_ (Kd.R_at hq_ HO_5.out); have n1_ := am_ (blk_at hq_ BK202.out); have n2_ := am_ (blk_at hq_ BK203.out); have n3_ := am_ (blk_at hq_ BK204.out); have n4_ := am_ (below_at hq_ HB.out); clear hq_ HO_5 BK202 BK203 BK204 HB; have HO_5 := n0_; have BK202 := n1_; have BK203 := n2_; have BK204 := n3_; have HB := n4_; clear n0_ n1_ n2_ n3_ n4_; (try (have HP43 := Kd.R_putg HO_5.out ((ji36) : Int) x7_2)); (try (obtain ⟨hx39_0, hf39_0⟩ := Kd.R_celln 0 HO_5.out ((ji36) : Int) (of_eq_true p39) (of_eq_true q39))))); refine store_event (t := 2) (p := 68) (v := ?vo_w44) (w1 := (wr.setCell ⟨go39, ((ji36) : Int).toNat, none⟩ (.int .i64 x7_2))) ?hg ?ho ?hn ?hr ?_; (case ho => rfl); (case hg => rfl); (case hn => rfl); (case hr => first | (go_simp; done) | (go_simp; rfl)); intro w44 hw; have hg : wr.grownBy w44 (some go39) := (by rw [hw]; exact HP43.2); have hp_ : Kd.R (Kd.int .i64) 2 w44 w.heap.size (fun _ => True) (.slice (some ⟨go39, 0, none⟩) x5_2.length co39) y216 := (by rw [hw, Ny216.out]; exact HP43.1); clear HP43; have n0_ := am_ (hp_); have n1_ := am_ (blk_grown (g := gb202) (o := .cells #[.int .i64 a0_0, .slice A0_1 l0_1.length c0_1] 28 (0, 0)) (bk_ BK202) hg (Kd.R_ne HO_5.out BK202.out (by decide))); have n2_ := am_ (blk_grown (g := gb203) (o := .cells #[.int .i64 a1_0, .slice A1_1 l1_1.length c1_1] 28 (0, 0)) (bk_ BK203) hg (Kd.R_ne HO_5.out BK203.out (by decide))); have n3_ := am_ (blk_grown (g := gb204) (o := .cells #[.int .i64 0, .slice none 0 0] 28 (0, 0)) (bk_ BK204) hg (Kd.R_ne HO_5.out BK204.out (by decide))); have n4_ := am_ ((by rw [hw]; exact below_set (HB.out) GB39.out : Below w.heap.size w w44)); clear HO_5; clear BK202; clear BK203; clear BK204; clear HB; have HO_5 := n0_; have BK202 := n1_; have BK203 := n2_; have BK204 := n3_; have HB := n4_; clear n0_ n1_ n2_ n3_ n4_; clear hg hw hp_)))
           go_roundg k2
           case measure => have := HK1.out; have := HK2.out; omega
           case rel => exact ⟨(y216), (wrap64 (x6_1 + 1)), (by first | rfl | (simp; done) | (simp [*]; done)), H', ⟨by have := HK1.out; have := HK2.out; omega⟩, ⟨kr_ HO_5⟩, ⟨bk_ BK202⟩, ⟨bk_ BK203⟩, ⟨bk_ BK204⟩, ⟨bl_ HB⟩⟩
          ·rw [if_neg c38] at H
           exact absurd H (by simp)
         ·rw [if_neg c37] at H
          exact absurd H (by simp)
     ·rw [if_neg c16] at H
      have c16b0 : decide (x6_1 < (l0_1.length : Int)) = false := decide_eq_false c16
      clear c16
      replace H := Option.bind_eq_some_iff.mp H
      obtain ⟨⟨t208, t209⟩, A450, H⟩ := H
      replace H : (some (t208, t209)) = some (r1, r2) := H
      have A45 := Aside0.mk A450; clear A450
      simp only [Option.some.injEq, Prod.mk.injEq] at H
      obtain ⟨rfl, rfl⟩ := H
      have hnb46 := NB202_203.out; have hnc46 := NB203_202.out; have hnb47 := NB202_204.out; have hnc47 := NB204_202.out
      have hcz48_0 : wr.cell? ⟨gb202, 0, none⟩ = some (.int .i64 a0_0) := bc_ BK202 0
      have hcz48_1 : wr.cell? ⟨gb202, 1, none⟩ = some (.slice A0_1 l0_1.length c0_1) := bc_ BK202 1
      have hfz48_0 := blk_frozen BK202.out 0; have hfz48_1 := blk_frozen BK202.out 1; have hnb49 := NB203_204.out; have hnc49 := NB204_203.out
      have hcz50_0 : wr.cell? ⟨gb203, 0, none⟩ = some (.int .i64 a1_0) := bc_ BK203 0
      have hcz50_1 : wr.cell? ⟨gb203, 1, none⟩ = some (.slice A1_1 l1_1.length c1_1) := bc_ BK203 1
      have hfz50_0 := blk_frozen BK203.out 0; have hfz50_1 := blk_frozen BK203.out 1
      obtain ⟨Ao51, co51, eo51⟩ := Kd.R_slice HO_5.out
      subst eo51
      go_wp2_with (first | (go_at_call 89; (with_reducible refine (spec_l02Make.calls k1 (wrap64 (a0_0 * a1_0)) _ _ x5_1 t208 t209 _ ?side1 ?side2 A45.out).mono ?_); (case side1 => exact cr_ HO_5); (case side2 => exact (Kd.R_reads' HO_5.out).2.1); rintro e w52 ⟨v210, rfl, ho0, hb⟩; have HO211 := am_ (Kd.R_lower (Kd.R_new' ho0 (Kd.R_lt (kr_ HO_5))) (below_size (bl_ HB))); replace HO_5 := am_ (Kd.R_elder' (kr_ HO_5) (Kd.R_base ho0) hb); replace BK202 := am_ (blk_below (bk_ BK202) hb); replace BK203 := am_ (blk_below (bk_ BK203) hb); replace BK204 := am_ (blk_below (bk_ BK204) hb); replace HB := am_ (below_step (bl_ HB) hb); (try clear hb); (try clear hb2); (try clear hk); (try clear hi); (try clear ho0); have hcz53_0 : w52.cell? ⟨gb204, 0, none⟩ = some (.int .i64 0) := bc_ BK204 0; have hcz53_1 : w52.cell? ⟨gb204, 1, none⟩ = some (.slice none 0 0) := bc_ BK204 1; have hfz53_0 := blk_frozen BK204.out 0; have hfz53_1 := blk_frozen BK204.out 1; obtain ⟨Ao54, co54, eo54⟩ := Kd.R_slice HO211.out; subst eo54))
      repeat (go_quiet (first | (go_at_call 89; (with_reducible refine (spec_l02Make.calls k1 (wrap64 (a0_0 * a1_0)) _ _ x5_1 t208 t209 _ ?side1 ?side2 A45.out).mono ?_); (case side1 => exact cr_ HO_5); (case side2 => exact (Kd.R_reads' HO_5.out).2.1); rintro e w52 ⟨v210, rfl, ho0, hb⟩; have HO211 := am_ (Kd.R_lower (Kd.R_new' ho0 (Kd.R_lt (kr_ HO_5))) (below_size (bl_ HB))); replace HO_5 := am_ (Kd.R_elder' (kr_ HO_5) (Kd.R_base ho0) hb); replace BK202 := am_ (blk_below (bk_ BK202) hb); replace BK203 := am_ (blk_below (bk_ BK203) hb); replace BK204 := am_ (blk_below (bk_ BK204) hb); replace HB := am_ (below_step (bl_ HB) hb); (try clear hb); (try clear hb2); (try clear hk); (try clear hi); (try clear ho0); have hcz53_0 : w52.cell? ⟨gb204, 0, none⟩ = some (.int .i64 0) := bc_ BK204 0; have hcz53_1 : w52.cell? ⟨gb204, 1, none⟩ = some (.slice none 0 0) := bc_ BK204 1; have hfz53_0 := blk_frozen BK204.out 0; have hfz53_1 := blk_frozen BK204.out 1; obtain ⟨Ao54, co54, eo54⟩ := Kd.R_slice HO211.out; subst eo54)); try go_wp2_with (first | (go_at_call 89; (with_reducible refine (spec_l02Make.calls k1 (wrap64 (a0_0 * a1_0)) _ _ x5_1 t208 t209 _ ?side1 ?side2 A45.out).mono ?_); (case side1 => exact cr_ HO_5); (case side2 => exact (Kd.R_reads' HO_5.out).2.1); rintro e w52 ⟨v210, rfl, ho0, hb⟩; have HO211 := am_ (Kd.R_lower (Kd.R_new' ho0 (Kd.R_lt (kr_ HO_5))) (below_size (bl_ HB))); replace HO_5 := am_ (Kd.R_elder' (kr_ HO_5) (Kd.R_base ho0) hb); replace BK202 := am_ (blk_below (bk_ BK202) hb); replace BK203 := am_ (blk_below (bk_ BK203) hb); replace BK204 := am_ (blk_below (bk_ BK204) hb); replace HB := am_ (below_step (bl_ HB) hb); (try clear hb); (try clear hb2); (try clear hk); (try clear hi); (try clear ho0); have hcz53_0 : w52.cell? ⟨gb204, 0, none⟩ = some (.int .i64 0) := bc_ BK204 0; have hcz53_1 : w52.cell? ⟨gb204, 1, none⟩ = some (.slice none 0 0) := bc_ BK204 1; have hfz53_0 := blk_frozen BK204.out 0; have hfz53_1 := blk_frozen BK204.out 1; obtain ⟨Ao54, co54, eo54⟩ := Kd.R_slice HO211.out; subst eo54)))
      refine bodyPost_ret (results_cell_row rfl _ _ gb204 28 #[.int .i64 t208, .slice Ao54 t209.length co54] (0, 0) _ rfl (bp2_ BK204) Tryd.underlying28 rfl (by kernel_rfl)) rfl ?_
      exact ⟨_, by first | rfl | (simp [errW_none, errW_some] <;> rfl) | (simp only [← hji3]; first | rfl | (simp [errW_none, errW_some] <;> rfl)) | (simp [*, errW_none, errW_some] <;> rfl), rt_ HO211 BK204, bl_ HB⟩
  ·rw [if_neg c5] at H
   exact absurd H (by simp)
 ·rw [if_neg c4] at H
  exact absurd H (by simp)

/-! ### spec_l03Mul: function 63 -/
def spec_l03Mul.f (k : Nat) (a0_0 : Int) (l0_1 : List Int) (a0_2 : Int) (a1_0 : Int) (l1_1 : List Int) (a1_2 : Int) : Option (Int × List Int × Int) := (spec_l02Mul.f k a0_0 l0_1 a1_0 l1_1).bind fun bt220 => ((spec_l03Make.f k bt220.1 bt220.2 (wrap64 (a0_2 + a1_2))).bind fun bt224 => (some (bt224.1, bt224.2.1, bt224.2.2)))
theorem spec_l03Mul.mono : ∀ a0 a1 a2 a3 a4 a5 k, LeO (spec_l03Mul.f k a0 a1 a2 a3 a4 a5) (spec_l03Mul.f (k + 1) a0 a1 a2 a3 a4 a5) := by
  intro a0 a1 a2 a3 a4 a5 k
  unfold spec_l03Mul.f
  repeat' first
      | (with_reducible exact spec_l02Mul.mono _ _ _ _ _)
      | (with_reducible exact spec_l03Make.mono _ _ _ _)
      | (with_reducible exact LeO.refl _)
      | (with_reducible exact LeO.none _)
      | (with_reducible refine LeO.ite ?_ ?_)
      | (with_reducible refine LeO.bind ?_ (fun _ => ?_))
      | exact spec_l02Mul.mono _ _ _ _ _
      | exact spec_l03Make.mono _ _ _ _
      | exact LeO.none _
      | refine LeO.ite ?_ ?_
      | refine LeO.bind ?_ (fun _ => ?_)
def spec_l03Mul.T1 : Bool × List (List Nat × List Nat) := (true, [([], []), ([0], [0]), ([], []), ([2], [2]), ([1, 3], [1, 3]), ([], []), ([5], [5]), ([], []), ([7], [7]), ([6, 8], [6, 8]), ([4, 9, 4], [4, 9]), ([10, 10, 0, 1, 2, 3, 4, 5, 6, 7, 8, 9, 10], [10])])
def spec_l03Mul.B1 : List Nat := [0, 1, 0, 4, 15, 0, 32, 0, 128, 480, 1023, 2047]
theorem spec_l03Mul.tab1 : rtab .any (opsOf Tryd.f63 1) = spec_l03Mul.T1 := by kernel_rfl
theorem spec_l03Mul.bits1 : waitsOk spec_l03Mul.T1.2 spec_l03Mul.B1 = true := by kernel_rfl
set_option maxHeartbeats 8000000 in
set_option maxRecDepth 100000 in
theorem spec_l03Mul.calls (k : Nat) (a0_0 : Int) (A0_1 : Option Addr) (c0_1 : Nat) (l0_1 : List Int) (a0_2 : Int) (a1_0 : Int) (A1_1 : Option Addr) (c1_1 : Nat) (l1_1 : List Int) (a1_2 : Int) (r1 : Int) (r2 : List Int) (r3 : Int) (w : World) (hr0_1 : Kd.C (Kd.int .i64) w A0_1 l0_1.length l0_1) (hc0_1 : l0_1.length ≤ c0_1) (hr1_1 : Kd.C (Kd.int .i64) w A1_1 l1_1.length l1_1) (hc1_1 : l1_1.length ≤ c1_1) (h : spec_l03Mul.f k a0_0 l0_1 a0_2 a1_0 l1_1 a1_2 = some (r1, r2, r3)) :
  Calls Tryd.prog 63 #[.agg #[.int .i64 a0_0, .slice A0_1 l0_1.length c0_1, .int .i64 a0_2], .agg #[.int .i64 a1_0, .slice A1_1 l1_1.length c1_1, .int .i64 a1_2]] w fun e w' => ∃ v1_ : Value, e = .returned (.agg #[.int .i64 r1, v1_, .int .i64 r3]) ∧ Kd.R (Kd.int .i64) 2 w' w.heap.size (fun _ => True) v1_ r2 ∧ Below w.heap.size w w' := by
 have hu30 := Tryd.underlying30; have hu28 := Tryd.underlying28; have HR0_1 := Aside0.mk hr0_1; have HC0_1 := Aside0.mk hc0_1; clear hr0_1 hc0_1; have HR1_1 := Aside0.mk hr1_1; have HC1_1 := Aside0.mk hc1_1; clear hr1_1 hc1_1; have HB := am_ (Below.refl w.heap.size w)
 have H : ((spec_l02Mul.f k a0_0 l0_1 a1_0 l1_1).bind fun bt220 => ((spec_l03Make.f k bt220.1 bt220.2 (wrap64 (a0_2 + a1_2))).bind fun bt224 => (some (bt224.1, bt224.2.1, bt224.2.2)))) = some (r1, r2, r3) := h
 clear h
 replace H := Option.bind_eq_some_iff.mp H
 obtain ⟨⟨t220, t221⟩, A30, H⟩ := H
 replace H : ((spec_l03Make.f k t220 t221 (wrap64 (a0_2 + a1_2))).bind fun bt224 => (some (bt224.1, bt224.2.1, bt224.2.2))) = some (r1, r2, r3) := H
 have A3 := Aside0.mk A30; clear A30
 replace H := Option.bind_eq_some_iff.mp H
 obtain ⟨⟨t224, t225, t228⟩, A40, H⟩ := H
 replace H : (some (t224, t225, t228)) = some (r1, r2, r3) := H
 have A4 := Aside0.mk A40; clear A40
 simp only [Option.some.injEq, Prod.mk.injEq] at H
 obtain ⟨rfl, rfl, rfl⟩ := H
 go_enter Tryd.func63, Tryd.ntmps63
 try go_wp2_with (first | ((with_reducible refine gate_dst (N := 2) rfl ?_); refine box_event ?hg (N := 2) ?hd (cs := #[.int .i64 a0_0, .slice A0_1 l0_1.length c0_1, .int .i64 a0_2]) (t := 30) ?hr ?_; (case hd => rfl); (case hg => rfl); (case hr => first | (go_simp; done) | (go_simp; rfl)); intro gb217 hg w5 hbox hb; have BK217 := am_ (hbox); have GW217 := am_ (gs_ hg HB); have GE217 := am_ (gs_ hg HB); replace HB := am_ (below_step (bl_ HB) hb); clear hb hbox hg) | ((with_reducible refine gate_dst (N := 3) rfl ?_); refine box_event ?hg (N := 3) ?hd (cs := #[.int .i64 a1_0, .slice A1_1 l1_1.length c1_1, .int .i64 a1_2]) (t := 30) ?hr ?_; (case hd => rfl); (case hg => rfl); (case hr => first | (go_simp; done) | (go_simp; rfl)); intro gb218 hg w6 hbox hb; have BK218 := am_ (hbox); have GW218 := am_ (gs_ hg HB); have GE218 := am_ (gs_ hg HB); have NB217_218 := am_ (nl_ hg BK217); have NB218_217 := am_ (ng_ hg BK217); replace BK217 := am_ (blk_below (bk_ BK217) hb); replace HB := am_ (below_step (bl_ HB) hb); clear hb hbox hg) | ((with_reducible refine gate_dst (N := 4) rfl ?_); refine box_event ?hg (N := 4) ?hd (cs := #[.int .i64 0, .slice none 0 0, .int .i64 0]) (t := 30) ?hr ?_; (case hd => rfl); (case hg => rfl); (case hr => first | (go_simp; done) | (go_simp; rfl)); intro gb219 hg w7 hbox hb; have BK219 := am_ (hbox); have GW219 := am_ (gs_ hg HB); have GE219 := am_ (gs_ hg HB); have NB217_219 := am_ (nl_ hg BK217); have NB219_217 := am_ (ng_ hg BK217); have NB218_219 := am_ (nl_ hg BK218); have NB219_218 := am_ (ng_ hg BK218); replace BK217 := am_ (blk_below (bk_ BK217) hb); replace BK218 := am_ (blk_below (bk_ BK218) hb); replace HB := am_ (below_step (bl_ HB) hb); clear hb hbox hg))
 have n0_ := am_ (blk_drew BK217.out); have n1_ := am_ (blk_drew BK218.out); have n2_ := am_ (blk_drew BK219.out); have n3_ := am_ (below_drew1 HB.out); clear BK217 BK218 BK219 HB; have BK217 := n0_; have BK218 := n1_; have BK219 := n2_; have HB := n3_; clear n0_ n1_ n2_ n3_
 refine start_ (n := 12) (S := fun w' => w'.cell? ⟨gb217, 0, none⟩ = some (.int .i64 a0_0) ∧ w'.cell? ⟨gb217, 1, none⟩ = some (.slice A0_1 l0_1.length c0_1) ∧ w'.cell? ⟨gb217, 2, none⟩ = some (.int .i64 a0_2) ∧ w'.cell? ⟨gb218, 0, none⟩ = some (.int .i64 a1_0) ∧ w'.cell? ⟨gb218, 1, none⟩ = some (.slice A1_1 l1_1.length c1_1) ∧ w'.cell? ⟨gb218, 2, none⟩ = some (.int .i64 a1_2)) (ds := []) #[false, false, false, false, false, false, false, false, false, false, false, false] (by kernel_rfl) rfl rfl ⟨bc_ BK217 0, bc_ BK217 1, bc_ BK217 2, bc_ BK218 0, bc_ BK218 1, bc_ BK218 2⟩ (fun hHeld => ?_); refine with_tabW spec_l03Mul.tab1 spec_l03Mul.bits1 (fun HT_ HW_ => ?_)
 generalize w7.drew = w8 at BK217 BK218 BK219 HB hHeld ⊢
 refine pure_ (i := 0) (N := some 5) (v := ?_) (a' := ?_) #[true, false, false, false, false, false, false, false, false, false, false, false] rfl rfl (any_of HT_.out (by kernel_rfl)) (fun _ _ _ h => h) (Or.inl ⟨by rfl, ?_⟩) ?_ ?_
 rotate_left
 ·intro w'
  go_simp
  with_reducible rfl
 rotate_left
 ·exact nm_
 refine pure_ (i := 2) (N := some 7) (v := ?_) (a' := ?_) #[true, false, true, false, false, false, false, false, false, false, false, false] rfl rfl (any_of HT_.out (by kernel_rfl)) (fun _ _ _ h => h) (Or.inl ⟨by rfl, ?_⟩) ?_ ?_
 rotate_left
 ·intro w'
  go_simp
  with_reducible rfl
 rotate_left
 ·exact nm_
 refine pure_ (i := 5) (N := some 10) (v := ?_) (a' := ?_) #[true, false, true, false, false, true, false, false, false, false, false, false] rfl rfl (any_of HT_.out (by kernel_rfl)) (fun _ _ _ h => h) (Or.inl ⟨by rfl, ?_⟩) ?_ ?_
 rotate_left
 ·intro w'
  go_simp
  with_reducible rfl
 rotate_left
 ·exact nm_
 refine pure_ (i := 7) (N := some 12) (v := ?_) (a' := ?_) #[true, false, true, false, false, true, false, true, false, false, false, false] rfl rfl (any_of HT_.out (by kernel_rfl)) (fun _ _ _ h => h) (Or.inl ⟨by rfl, ?_⟩) ?_ ?_
 rotate_left
 ·intro w'
  go_simp
  with_reducible rfl
 rotate_left
 ·exact nm_
 refine take_ (i := 1) (N := some 6) (v := ?_) (a' := ?_) #[true, true, true, false, false, true, false, true, false, false, false, false] rfl rfl (take_ofW HT_.out HW_.out (by kernel_rfl)) (fun _ _ _ h => h) (Or.inl ⟨by rfl, ?_⟩) hHeld ?_ ?_
 rotate_left
 ·rintro w' ⟨s0, s1, s2, s3, s4, s5⟩
  go_simp
  with_reducible rfl
 rotate_left
 ·exact nm_
 refine take_ (i := 3) (N := some 8) (v := ?_) (a' := ?_) #[true, true, true, true, false, true, false, true, false, false, false, false] rfl rfl (take_ofW HT_.out HW_.out (by kernel_rfl)) (fun _ _ _ h => h) (Or.inl ⟨by rfl, ?_⟩) hHeld ?_ ?_
 rotate_left
 ·rintro w' ⟨s0, s1, s2, s3, s4, s5⟩
  go_simp
  with_reducible rfl
 rotate_left
 ·exact nm_
 refine take_ (i := 6) (N := some 11) (v := ?_) (a' := ?_) #[true, true, true, true, false, true, true, true, false, false, false, false] rfl rfl (take_ofW HT_.out HW_.out (by kernel_rfl)) (fun _ _ _ h => h) (Or.inl ⟨by rfl, ?_⟩) hHeld ?_ ?_
 rotate_left
 ·rintro w' ⟨s0, s1, s2, s3, s4, s5⟩
  go_simp
  with_reducible rfl
 rotate_left
 ·exact nm_
 refine take_ (i := 8) (N := some 13) (v := ?_) (a' := ?_) #[true, true, true, true, false, true, true, true, true, false, false, false] rfl rfl (take_ofW HT_.out HW_.out (by kernel_rfl)) (fun _ _ _ h => h) (Or.inl ⟨by rfl, ?_⟩) hHeld ?_ ?_
 rotate_left
 ·rintro w' ⟨s0, s1, s2, s3, s4, s5⟩
  go_simp
  with_reducible rfl
 rotate_left
 ·exact nm_
 refine pure_ (i := 9) (N := some 14) (v := ?_) (a' := ?_) #[true, true, true, true, false, true, true, true, true, true, false, false] rfl rfl (any_of HT_.out (by kernel_rfl)) (fun _ _ _ h => h) (Or.inl ⟨by rfl, ?_⟩) ?_ ?_
 rotate_left
 ·intro w'
  go_simp
  with_reducible rfl
 rotate_left
 ·exact nm_
 refine one_ (i := 4) (N := some 9) #[true, true, true, true, true, true, true, true, true, true, false, false] rfl rfl (one_of HT_.out (by kernel_rfl)) (by decide) (fun K hK => ?_)
 refine goes_ Tryd.func86 (by kernel_rfl) rfl #[.agg #[.int .i64 a0_0, .slice A0_1 l0_1.length c0_1], .agg #[.int .i64 a1_0, .slice A1_1 l1_1.length c1_1]] (by rfl) rfl rfl ma_ ?_
 with_reducible refine (spec_l02Mul.calls k a0_0 _ _ l0_1 a1_0 _ _ l1_1 t220 t221 _ ?side1 ?side2 ?side3 ?side4 A3.out).mono ?_
 (case side1 => exact cb_ HR0_1 HB)
 (case side2 => exact HC0_1.out)
 (case side3 => exact cb_ HR1_1 HB)
 (case side4 => exact HC1_1.out)
 rintro e w9 ⟨v222, rfl, ho0, hb⟩
 refine ⟨_, rfl, ?_⟩
 have n0_ := am_ (Kd.R_lower ho0 (below_size (bl_ HB))); have n1_ := am_ (blk_below (bk_ BK217) hb); have n2_ := am_ (blk_below (bk_ BK218) hb); have n3_ := am_ (blk_below (bk_ BK219) hb); have n4_ := am_ (below_step (bl_ HB) hb); clear BK217 BK218 BK219 HB; have HO223 := n0_; have BK217 := n1_; have BK218 := n2_; have BK219 := n3_; have HB := n4_; clear n0_ n1_ n2_ n3_ n4_; (try clear hb); (try clear hb2); (try clear hk); (try clear hi); (try clear ho0)
 obtain ⟨Ao10, co10, eo10⟩ := Kd.R_slice HO223.out
 (first | subst eo10 | (injection eo10 with f1_ f2_ f3_; have f4_ := f1_.symm; have f5_ := f3_.symm; clear f1_ f2_ f3_; subst f4_; subst f5_))
 refine hK.out _ _ ⟨bc_ BK217 0, bc_ BK217 1, bc_ BK217 2, bc_ BK218 0, bc_ BK218 1, bc_ BK218 2⟩ (fun hHeld => ?_)
 clear hK K
 refine norm_ (a' := ?_) ?_ ?_
 rotate_left
 ·show Act.put _ (some 9) _ = _
  exact nm_
 refine one_ (i := 10) (N := some 15) #[true, true, true, true, true, true, true, true, true, true, true, false] rfl rfl (one_of HT_.out (by kernel_rfl)) (by decide) (fun K hK => ?_)
 refine goes_ Tryd.func56 (by kernel_rfl) rfl #[.agg #[.int .i64 t220, .slice Ao10 t221.length co10], .int .i64 (wrap64 (a0_2 + a1_2))] (by rfl) rfl rfl ma_ ?_
 with_reducible refine (spec_l03Make.calls k t220 _ _ t221 (wrap64 (a0_2 + a1_2)) t224 t225 t228 _ ?side1 ?side2 A4.out).mono ?_
 (case side1 => exact cr_ HO223)
 (case side2 => exact (Kd.R_reads' HO223.out).2.1)
 rintro e w11 ⟨v226, rfl, ho0, hb⟩
 refine ⟨_, rfl, ?_⟩
 have n0_ := am_ (Kd.R_elder' (kr_ HO223) (Kd.R_base ho0) hb); have n1_ := am_ (Kd.R_lower (Kd.R_new' ho0 (Kd.R_lt (kr_ HO223))) (below_size (bl_ HB))); have n2_ := am_ (blk_below (bk_ BK217) hb); have n3_ := am_ (blk_below (bk_ BK218) hb); have n4_ := am_ (blk_below (bk_ BK219) hb); have n5_ := am_ (below_step (bl_ HB) hb); clear HO223 BK217 BK218 BK219 HB; have HO223 := n0_; have HO227 := n1_; have BK217 := n2_; have BK218 := n3_; have BK219 := n4_; have HB := n5_; clear n0_ n1_ n2_ n3_ n4_ n5_; (try clear hb); (try clear hb2); (try clear hk); (try clear hi); (try clear ho0)
 obtain ⟨Ao13, co13, eo13⟩ := Kd.R_slice HO227.out
 (first | subst eo13 | (injection eo13 with f1_ f2_ f3_; have f4_ := f1_.symm; have f5_ := f3_.symm; clear f1_ f2_ f3_; subst f4_; subst f5_))
 refine hK.out _ _ ⟨bc_ BK217 0, bc_ BK217 1, bc_ BK217 2, bc_ BK218 0, bc_ BK218 1, bc_ BK218 2⟩ (fun hHeld => ?_)
 clear hK K
 refine norm_ (a' := ?_) ?_ ?_
 rotate_left
 ·show Act.put _ (some 15) _ = _
  exact nm_
 refine one_ (i := 11) (N := none) #[true, true, true, true, true, true, true, true, true, true, true, true] rfl rfl (one_of HT_.out (by kernel_rfl)) (by decide) (fun K hK => ?_)
 have hs12 : w11.cell? ⟨gb219, 0, none⟩ = some (.int .i64 0) := bc_ BK219 0
 have hfs12 := blk_frozen BK219.out 0; have hns12_0 := NB217_219.out; have hns12_1 := NB218_219.out; have hms12_0 := NB219_217.out; have hms12_1 := NB219_218.out
 have hs14 : w11.cell? ⟨gb219, 1, none⟩ = some (.slice none 0 0) := bc_ BK219 1
 have hfs14 := blk_frozen BK219.out 1; have hns14_0 := NB217_219.out; have hns14_1 := NB218_219.out; have hms14_0 := NB219_217.out; have hms14_1 := NB219_218.out
 have hs15 : w11.cell? ⟨gb219, 2, none⟩ = some (.int .i64 0) := bc_ BK219 2
 have hfs15 := blk_frozen BK219.out 2; have hns15_0 := NB217_219.out; have hns15_1 := NB218_219.out; have hms15_0 := NB219_217.out; have hms15_1 := NB219_218.out
 refine skip_ (w1 := ?_) (by rfl) rfl ?_ ?_
 rotate_left
 ·go_simp
  rfl
 refine hK.out _ _ ⟨((cell_far (p := ⟨gb219, _, none⟩) NB217_219.out _).trans (((cell_far (p := ⟨gb219, _, none⟩) NB217_219.out _).trans (((cell_far (p := ⟨gb219, _, none⟩) NB217_219.out _).trans (hHeld.1)))))), ((cell_far (p := ⟨gb219, _, none⟩) NB217_219.out _).trans (((cell_far (p := ⟨gb219, _, none⟩) NB217_219.out _).trans (((cell_far (p := ⟨gb219, _, none⟩) NB217_219.out _).trans (hHeld.2.1)))))), ((cell_far (p := ⟨gb219, _, none⟩) NB217_219.out _).trans (((cell_far (p := ⟨gb219, _, none⟩) NB217_219.out _).trans (((cell_far (p := ⟨gb219, _, none⟩) NB217_219.out _).trans (hHeld.2.2.1)))))), ((cell_far (p := ⟨gb219, _, none⟩) NB218_219.out _).trans (((cell_far (p := ⟨gb219, _, none⟩) NB218_219.out _).trans (((cell_far (p := ⟨gb219, _, none⟩) NB218_219.out _).trans (hHeld.2.2.2.1)))))), ((cell_far (p := ⟨gb219, _, none⟩) NB218_219.out _).trans (((cell_far (p := ⟨gb219, _, none⟩) NB218_219.out _).trans (((cell_far (p := ⟨gb219, _, none⟩) NB218_219.out _).trans (hHeld.2.2.2.2.1)))))), ((cell_far (p := ⟨gb219, _, none⟩) NB218_219.out _).trans (((cell_far (p := ⟨gb219, _, none⟩) NB218_219.out _).trans (((cell_far (p := ⟨gb219, _, none⟩) NB218_219.out _).trans (hHeld.2.2.2.2.2))))))⟩ (fun hHeld => ?_)
 clear hK K
 refine done_ (done_of HT_.out (by kernel_rfl)) ?_
 try go_wp2
 refine bodyPost_ret (results_cell_row rfl _ _ gb219 30 #[.int .i64 t224, .slice Ao13 t225.length co13, .int .i64 t228] (0, 0) _ rfl (bp3_ BK219) Tryd.underlying30 rfl (by kernel_rfl)) rfl ?_
 exact ⟨_, by first | rfl | (simp [errW_none, errW_some] <;> rfl) | (simp [*, errW_none, errW_some] <;> rfl), ru_ HO227 BK219, bl_ HB⟩

/-! ### spec_MultiplyDyadics: function 30 -/
def spec_MultiplyDyadics.f (k : Nat) (a0_0 : Int) (l0_1 : List Int) (a0_2 : Int) (a1_0 : Int) (l1_1 : List Int) (a1_2 : Int) : Option (Int × List Int × Int × Int) := (spec_l03Both.f k a0_0 l0_1 a0_2 a1_0 l1_1 a1_2).bind fun t232 => (if t232 = 0 then ((spec_l03Mul.f k a0_0 l0_1 a0_2 a1_0 l1_1 a1_2).bind fun bt233 => ((spec_l03Fit.f k bt233.1 bt233.2.1 bt233.2.2).bind fun bt238 => (some (bt238.1, bt238.2.1, bt238.2.2.1, bt238.2.2.2)))) else (some (0, ([] : List Int), 0, t232)))
theorem spec_MultiplyDyadics.mono : ∀ a0 a1 a2 a3 a4 a5 k, LeO (spec_MultiplyDyadics.f k a0 a1 a2 a3 a4 a5) (spec_MultiplyDyadics.f (k + 1) a0 a1 a2 a3 a4 a5) := by
  intro a0 a1 a2 a3 a4 a5 k
  unfold spec_MultiplyDyadics.f
  repeat' first
      | (with_reducible exact spec_l03Both.mono _ _ _ _ _ _ _)
      | (with_reducible exact spec_l03Fit.mono _ _ _ _)
      | (with_reducible exact spec_l03Mul.mono _ _ _ _ _ _ _)
      | (with_reducible exact LeO.refl _)
      | (with_reducible exact LeO.none _)
      | (with_reducible refine LeO.ite ?_ ?_)
      | (with_reducible refine LeO.bind ?_ (fun _ => ?_))
      | exact spec_l03Both.mono _ _ _ _ _ _ _
      | exact spec_l03Fit.mono _ _ _ _
      | exact spec_l03Mul.mono _ _ _ _ _ _ _
      | exact LeO.none _
      | refine LeO.ite ?_ ?_
      | refine LeO.bind ?_ (fun _ => ?_)
set_option maxHeartbeats 8000000 in
set_option maxRecDepth 100000 in
theorem spec_MultiplyDyadics.calls (k : Nat) (a0_0 : Int) (A0_1 : Option Addr) (c0_1 : Nat) (l0_1 : List Int) (a0_2 : Int) (a1_0 : Int) (A1_1 : Option Addr) (c1_1 : Nat) (l1_1 : List Int) (a1_2 : Int) (r1 : Int) (r2 : List Int) (r3 : Int) (r4 : Int) (w : World) (hr0_1 : Kd.C (Kd.int .i64) w A0_1 l0_1.length l0_1) (hc0_1 : l0_1.length ≤ c0_1) (hr1_1 : Kd.C (Kd.int .i64) w A1_1 l1_1.length l1_1) (hc1_1 : l1_1.length ≤ c1_1) (h : spec_MultiplyDyadics.f k a0_0 l0_1 a0_2 a1_0 l1_1 a1_2 = some (r1, r2, r3, r4)) :
  Calls Tryd.prog 30 #[.agg #[.int .i64 a0_0, .slice A0_1 l0_1.length c0_1, .int .i64 a0_2], .agg #[.int .i64 a1_0, .slice A1_1 l1_1.length c1_1, .int .i64 a1_2]] w fun e w' => ∃ v1_ : Value, e = .returned (.tuple #[.agg #[.int .i64 r1, v1_, .int .i64 r3], .int .i64 r4]) ∧ Kd.R (Kd.int .i64) 2 w' w.heap.size (fun _ => True) v1_ r2 ∧ Below w.heap.size w w' := by
 have hu30 := Tryd.underlying30; have HR0_1 := Aside0.mk hr0_1; have HC0_1 := Aside0.mk hc0_1; clear hr0_1 hc0_1; have HR1_1 := Aside0.mk hr1_1; have HC1_1 := Aside0.mk hc1_1; clear hr1_1 hc1_1; have HB := am_ (Below.refl w.heap.size w)
 have H : ((spec_l03Both.f k a0_0 l0_1 a0_2 a1_0 l1_1 a1_2).bind fun t232 => (if t232 = 0 then ((spec_l03Mul.f k a0_0 l0_1 a0_2 a1_0 l1_1 a1_2).bind fun bt233 => ((spec_l03Fit.f k bt233.1 bt233.2.1 bt233.2.2).bind fun bt238 => (some (bt238.1, bt238.2.1, bt238.2.2.1, bt238.2.2.2)))) else (some (0, ([] : List Int), 0, t232)))) = some (r1, r2, r3, r4) := h
 clear h
 replace H := Option.bind_eq_some_iff.mp H
 obtain ⟨t232, A30, H⟩ := H
 replace H : (if t232 = 0 then ((spec_l03Mul.f k a0_0 l0_1 a0_2 a1_0 l1_1 a1_2).bind fun bt233 => ((spec_l03Fit.f k bt233.1 bt233.2.1 bt233.2.2).bind fun bt238 => (some (bt238.1, bt238.2.1, bt238.2.2.1, bt238.2.2.2)))) else (some (0, ([] : List Int), 0, t232))) = some (r1, r2, r3, r4) := H
 have A3 := Aside0.mk A30; clear A30
 by_cases c4 : t232 = 0
 ·rw [if_pos c4] at H
  have c4b0 : (t232 == 0) = true := beq_iff_eq.mpr c4
  have c4b1 : (t232 != 0) = false := bne_eq_false_iff_eq.mpr c4
  clear c4
  replace H := Option.bind_eq_some_iff.mp H
  obtain ⟨⟨t233, t234, t237⟩, A50, H⟩ := H
  replace H : ((spec_l03Fit.f k t233 t234 t237).bind fun bt238 => (some (bt238.1, bt238.2.1, bt238.2.2.1, bt238.2.2.2))) = some (r1, r2, r3, r4) := H
  have A5 := Aside0.mk A50; clear A50
  replace H := Option.bind_eq_some_iff.mp H
  obtain ⟨⟨t238, t239, t242, t243⟩, A60, H⟩ := H
  replace H : (some (t238, t239, t242, t243)) = some (r1, r2, r3, r4) := H
  have A6 := Aside0.mk A60; clear A60
  simp only [Option.some.injEq, Prod.mk.injEq] at H
  obtain ⟨rfl, rfl, rfl, rfl⟩ := H
  go_enter Tryd.func30, Tryd.ntmps30
  go_wp2_with (first | ((with_reducible refine gate_dst (N := 2) rfl ?_); refine box_event ?hg (N := 2) ?hd (cs := #[.int .i64 a0_0, .slice A0_1 l0_1.length c0_1, .int .i64 a0_2]) (t := 30) ?hr ?_; (case hd => rfl); (case hg => rfl); (case hr => first | (go_simp; done) | (go_simp; rfl)); intro gb229 hg w7 hbox hb; have BK229 := am_ (hbox); have GW229 := am_ (gs_ hg HB); have GE229 := am_ (gs_ hg HB); replace HB := am_ (below_step (bl_ HB) hb); clear hb hbox hg) | ((with_reducible refine gate_dst (N := 3) rfl ?_); refine box_event ?hg (N := 3) ?hd (cs := #[.int .i64 a1_0, .slice A1_1 l1_1.length c1_1, .int .i64 a1_2]) (t := 30) ?hr ?_; (case hd => rfl); (case hg => rfl); (case hr => first | (go_simp; done) | (go_simp; rfl)); intro gb230 hg w8 hbox hb; have BK230 := am_ (hbox); have GW230 := am_ (gs_ hg HB); have GE230 := am_ (gs_ hg HB); have NB229_230 := am_ (nl_ hg BK229); have NB230_229 := am_ (ng_ hg BK229); replace BK229 := am_ (blk_below (bk_ BK229) hb); replace HB := am_ (below_step (bl_ HB) hb); clear hb hbox hg) | ((with_reducible refine gate_dst (N := 4) rfl ?_); refine box_event ?hg (N := 4) ?hd (cs := #[.int .i64 0, .slice none 0 0, .int .i64 0]) (t := 30) ?hr ?_; (case hd => rfl); (case hg => rfl); (case hr => first | (go_simp; done) | (go_simp; rfl)); intro gb231 hg w9 hbox hb; have BK231 := am_ (hbox); have GW231 := am_ (gs_ hg HB); have GE231 := am_ (gs_ hg HB); have NB229_231 := am_ (nl_ hg BK229); have NB231_229 := am_ (ng_ hg BK229); have NB230_231 := am_ (nl_ hg BK230); have NB231_230 := am_ (ng_ hg BK230); replace BK229 := am_ (blk_below (bk_ BK229) hb); replace BK230 := am_ (blk_below (bk_ BK230) hb); replace HB := am_ (below_step (bl_ HB) hb); clear hb hbox hg; have hnb10 := NB229_230.out; have hnc10 := NB230_229.out; have hnb11 := NB229_231.out; have hnc11 := NB231_229.out; have hcz12_0 : w9.cell? ⟨gb229, 0, none⟩ = some (.int .i64 a0_0) := bc_ BK229 0; have hcz12_1 : w9.cell? ⟨gb229, 1, none⟩ = some (.slice A0_1 l0_1.length c0_1) := bc_ BK229 1; have hcz12_2 : w9.cell? ⟨gb229, 2, none⟩ = some (.int .i64 a0_2) := bc_ BK229 2; have hfz12_0 := blk_frozen BK229.out 0; have hfz12_1 := blk_frozen BK229.out 1; have hfz12_2 := blk_frozen BK229.out 2; have hnb13 := NB230_231.out; have hnc13 := NB231_230.out; have hcz14_0 : w9.cell? ⟨gb230, 0, none⟩ = some (.int .i64 a1_0) := bc_ BK230 0; have hcz14_1 : w9.cell? ⟨gb230, 1, none⟩ = some (.slice A1_1 l1_1.length c1_1) := bc_ BK230 1; have hcz14_2 : w9.cell? ⟨gb230, 2, none⟩ = some (.int .i64 a1_2) := bc_ BK230 2; have hfz14_0 := blk_frozen BK230.out 0; have hfz14_1 := blk_frozen BK230.out 1; have hfz14_2 := blk_frozen BK230.out 2) | ((with_reducible refine gate_callee (f := 36) rfl ?_); refine goesL_ (some 11) rfl rfl Tryd.func36 (by kernel_rfl) rfl #[.agg #[.int .i64 a0_0, .slice A0_1 l0_1.length c0_1, .int .i64 a0_2], .agg #[.int .i64 a1_0, .slice A1_1 l1_1.length c1_1, .int .i64 a1_2]] rfl ma_ ?_; (with_reducible refine (spec_l03Both.calls k a0_0 _ _ l0_1 a0_2 a1_0 _ _ l1_1 a1_2 t232 _ ?side1 ?side2 ?side3 ?side4 A3.out).mono ?_); (case side1 => exact cb_ HR0_1 HB); (case side2 => exact HC0_1.out); (case side3 => exact cb_ HR1_1 HB); (case side4 => exact HC1_1.out); rintro e w15 ⟨rfl, hb⟩; refine ⟨_, rfl, ?_⟩; replace BK229 := am_ (blk_below (bk_ BK229) hb); replace BK230 := am_ (blk_below (bk_ BK230) hb); replace BK231 := am_ (blk_below (bk_ BK231) hb); replace HB := am_ (below_step (bl_ HB) hb); (try clear hb); (try clear hb2); (try clear hk); (try clear hi); have hcz16_0 : w15.cell? ⟨gb229, 0, none⟩ = some (.int .i64 a0_0) := bc_ BK229 0; have hcz16_1 : w15.cell? ⟨gb229, 1, none⟩ = some (.slice A0_1 l0_1.length c0_1) := bc_ BK229 1; have hcz16_2 : w15.cell? ⟨gb229, 2, none⟩ = some (.int .i64 a0_2) := bc_ BK229 2; have hfz16_0 := blk_frozen BK229.out 0; have hfz16_1 := blk_frozen BK229.out 1; have hfz16_2 := blk_frozen BK229.out 2; have hcz17_0 : w15.cell? ⟨gb230, 0, none⟩ = some (.int .i64 a1_0) := bc_ BK230 0; have hcz17_1 : w15.cell? ⟨gb230, 1, none⟩ = some (.slice A1_1 l1_1.length c1_1) := bc_ BK230 1; have hcz17_2 : w15.cell? ⟨gb230, 2, none⟩ = some (.int .i64 a1_2) := bc_ BK230 2; have hfz17_0 := blk_frozen BK230.out 0; have hfz17_1 := blk_frozen BK230.out 1; have hfz17_2 := blk_frozen BK230.out 2) | ((with_reducible refine gate_callee (f := 63) rfl ?_); refine goesL_ (some 19) rfl rfl Tryd.func63 (by kernel_rfl) rfl #[.agg #[.int .i64 a0_0, .slice A0_1 l0_1.length c0_1, .int .i64 a0_2], .agg #[.int .i64 a1_0, .slice A1_1 l1_1.length c1_1, .int .i64 a1_2]] rfl ma_ ?_; (with_reducible refine (spec_l03Mul.calls k a0_0 _ _ l0_1 a0_2 a1_0 _ _ l1_1 a1_2 t233 t234 t237 _ ?side1 ?side2 ?side3 ?side4 A5.out).mono ?_); (case side1 => exact cb_ HR0_1 HB); (case side2 => exact HC0_1.out); (case side3 => exact cb_ HR1_1 HB); (case side4 => exact HC1_1.out); rintro e w18 ⟨v235, rfl, ho0, hb⟩; refine ⟨_, rfl, ?_⟩; have HO236 := am_ (Kd.R_lower ho0 (below_size (bl_ HB))); replace BK229 := am_ (blk_below (bk_ BK229) hb); replace BK230 := am_ (blk_below (bk_ BK230) hb); replace BK231 := am_ (blk_below (bk_ BK231) hb); replace HB := am_ (below_step (bl_ HB) hb); (try clear hb); (try clear hb2); (try clear hk); (try clear hi); (try clear ho0); obtain ⟨Ao19, co19, eo19⟩ := Kd.R_slice HO236.out; subst eo19) | ((with_reducible refine gate_callee (f := 37) rfl ?_); refine goesL_ (some 20) rfl rfl Tryd.func37 (by kernel_rfl) rfl #[.agg #[.int .i64 t233, .slice Ao19 t234.length co19, .int .i64 t237]] rfl ma_ ?_; (with_reducible refine (spec_l03Fit.calls k t233 (fun k_ => some k_ = (.slice Ao19 t234.length co19 : Value).ownBlock) (.slice Ao19 t234.length co19) t234 t237 t238 t239 t242 t243 w _ ?side1 ?side2 A6.out).mono ?_); (case side1 => exact bl_ HB); (case side2 => exact Kd.R_tight rfl HO236.out); rintro e w20 ⟨v240, rfl, ho0, hb, hkp⟩; refine ⟨_, rfl, ?_⟩; have n0_ := am_ (blk_kept (bk_ BK229) hkp (fun hs_ => (fun e_ => (Kd.R_ne HO236.out BK229.out (by decide)) e_) hs_)); have n1_ := am_ (blk_kept (bk_ BK230) hkp (fun hs_ => (fun e_ => (Kd.R_ne HO236.out BK230.out (by decide)) e_) hs_)); have n2_ := am_ (blk_kept (bk_ BK231) hkp (fun hs_ => (fun e_ => (Kd.R_ne HO236.out BK231.out (by decide)) e_) hs_)); have n3_ := am_ (Kd.R_mono (ok' := fun k_ => True) ho0 (fun k_ hk_ => trivial)); have n4_ := am_ (hb); clear BK229; clear BK230; clear BK231; clear HB; clear HO236; have BK229 := n0_; have BK230 := n1_; have BK231 := n2_; have HO241 := n3_; have HB := n4_; clear n0_ n1_ n2_ n3_ n4_; (try clear hb); (try clear hkp); (try clear ho0)) | ((with_reducible refine gate_dst (N := 7) rfl ?_); refine box_event ?hg (N := 7) ?hd (cs := #[.int .i64 0, .slice none 0 0, .int .i64 0]) (t := 30) ?hr ?_; (case hd => rfl); (case hg => rfl); (case hr => first | (go_simp; done) | (go_simp; rfl)); intro gb244 hg w21 hbox hb; have BK244 := am_ (hbox); have GW244 := am_ (gs_ hg HB); have GE244 := am_ (gs_ hg HB); have NB229_244 := am_ (nl_ hg BK229); have NB244_229 := am_ (ng_ hg BK229); have NB230_244 := am_ (nl_ hg BK230); have NB244_230 := am_ (ng_ hg BK230); have NB231_244 := am_ (nl_ hg BK231); have NB244_231 := am_ (ng_ hg BK231); replace HO241 := am_ (Kd.R_below (kr_ HO241) hb); replace BK229 := am_ (blk_below (bk_ BK229) hb); replace BK230 := am_ (blk_below (bk_ BK230) hb); replace BK231 := am_ (blk_below (bk_ BK231) hb); replace HB := am_ (below_step (bl_ HB) hb); clear hb hbox hg; have hnb22 := NB244_229.out; have hnc22 := NB229_244.out; have hnb23 := NB244_230.out; have hnc23 := NB230_244.out; have hnb24 := NB244_231.out; have hnc24 := NB231_244.out; have hcz25_0 : w21.cell? ⟨gb244, 0, none⟩ = some (.int .i64 0) := bc_ BK244 0; have hcz25_1 : w21.cell? ⟨gb244, 1, none⟩ = some (.slice none 0 0) := bc_ BK244 1; have hcz25_2 : w21.cell? ⟨gb244, 2, none⟩ = some (.int .i64 0) := bc_ BK244 2; have hfz25_0 := blk_frozen BK244.out 0; have hfz25_1 := blk_frozen BK244.out 1; have hfz25_2 := blk_frozen BK244.out 2; obtain ⟨Ao26, co26, eo26⟩ := Kd.R_slice HO241.out; subst eo26; have hcz27_0 : w21.cell? ⟨gb231, 0, none⟩ = some (.int .i64 0) := bc_ BK231 0; have hcz27_1 : w21.cell? ⟨gb231, 1, none⟩ = some (.slice none 0 0) := bc_ BK231 1; have hcz27_2 : w21.cell? ⟨gb231, 2, none⟩ = some (.int .i64 0) := bc_ BK231 2; have hfz27_0 := blk_frozen BK231.out 0; have hfz27_1 := blk_frozen BK231.out 1; have hfz27_2 := blk_frozen BK231.out 2))
  refine bodyPost_ret (results_ct rfl _ _ gb231 30 #[.int .i64 t238, .slice Ao26 t239.length co26, .int .i64 t242] (0, 0) _ rfl (by (with_reducible repeat (first | refine blk_drewN ?_ _ | refine blk_drew ?_ | refine blk_alloc ?_ _)); refine blk_put (cs := #[.int .i64 t238, .slice Ao26 t239.length co26, .int .i64 0]) ?_ 2 _ rfl; (with_reducible repeat (first | refine blk_drewN ?_ _ | refine blk_drew ?_ | refine blk_alloc ?_ _)); refine blk_put (cs := #[.int .i64 t238, .slice none 0 0, .int .i64 0]) ?_ 1 _ rfl; (with_reducible repeat (first | refine blk_drewN ?_ _ | refine blk_drew ?_ | refine blk_alloc ?_ _)); refine blk_put (cs := #[.int .i64 0, .slice none 0 0, .int .i64 0]) ?_ 0 _ rfl; (with_reducible repeat (first | refine blk_drewN ?_ _ | refine blk_drew ?_ | refine blk_alloc ?_ _)); refine blk_far ?_ NB231_244.out _; (with_reducible repeat (first | refine blk_drewN ?_ _ | refine blk_drew ?_ | refine blk_alloc ?_ _)); refine blk_far ?_ NB231_244.out _; (with_reducible repeat (first | refine blk_drewN ?_ _ | refine blk_drew ?_ | refine blk_alloc ?_ _)); refine blk_far ?_ NB231_244.out _; (with_reducible repeat (first | refine blk_drewN ?_ _ | refine blk_drew ?_ | refine blk_alloc ?_ _)); exact BK231.out) Tryd.underlying30 rfl (by kernel_rfl)) rfl ?_
  exact ⟨_, by first | rfl | (simp [errW_none, errW_some] <;> rfl) | (simp [*, errW_none, errW_some] <;> rfl), by (with_reducible repeat (first | apply Kd.R_alloc | apply Kd.R_drewN | apply Kd.R_drew)); exact Kd.R_mono (Kd.R_far (p := ⟨gb231, 2, none⟩) (Kd.R_far (p := ⟨gb231, 1, none⟩) (Kd.R_far (p := ⟨gb231, 0, none⟩) (Kd.R_far (p := ⟨gb244, 2, none⟩) (Kd.R_far (p := ⟨gb244, 1, none⟩) (Kd.R_far (p := ⟨gb244, 0, none⟩) (Kd.R_types (Kd.R_types HO241.out BK244.out (by decide)) BK231.out (by decide)) (fun _ hk => hk.1.2) (.int .i64 t238)) (fun _ hk => hk.1.2) (.slice Ao26 t239.length co26)) (fun _ hk => hk.1.2) (.int .i64 t242)) (fun _ hk => hk.2) (.int .i64 t238)) (fun _ hk => hk.2) (.slice Ao26 t239.length co26)) (fun _ hk => hk.2) (.int .i64 t242)) (fun _ hk => trivial), bl_ HB⟩
 ·rw [if_neg c4] at H
  have c4b0 : (t232 == 0) = false := beq_eq_false_iff_ne.mpr c4
  have c4b1 : (t232 != 0) = true := bne_iff_ne.mpr c4
  simp only [Option.some.injEq, Prod.mk.injEq] at H
  obtain ⟨rfl, rfl, rfl, rfl⟩ := H
  go_enter Tryd.func30, Tryd.ntmps30
  go_wp2_with (first | ((with_reducible refine gate_dst (N := 2) rfl ?_); refine box_event ?hg (N := 2) ?hd (cs := #[.int .i64 a0_0, .slice A0_1 l0_1.length c0_1, .int .i64 a0_2]) (t := 30) ?hr ?_; (case hd => rfl); (case hg => rfl); (case hr => first | (go_simp; done) | (go_simp; rfl)); intro gb229 hg w28 hbox hb; have BK229 := am_ (hbox); have GW229 := am_ (gs_ hg HB); have GE229 := am_ (gs_ hg HB); replace HB := am_ (below_step (bl_ HB) hb); clear hb hbox hg) | ((with_reducible refine gate_dst (N := 3) rfl ?_); refine box_event ?hg (N := 3) ?hd (cs := #[.int .i64 a1_0, .slice A1_1 l1_1.length c1_1, .int .i64 a1_2]) (t := 30) ?hr ?_; (case hd => rfl); (case hg => rfl); (case hr => first | (go_simp; done) | (go_simp; rfl)); intro gb230 hg w29 hbox hb; have BK230 := am_ (hbox); have GW230 := am_ (gs_ hg HB); have GE230 := am_ (gs_ hg HB); have NB229_230 := am_ (nl_ hg BK229); have NB230_229 := am_ (ng_ hg BK229); replace BK229 := am_ (blk_below (bk_ BK229) hb); replace HB := am_ (below_step (bl_ HB) hb); clear hb hbox hg) | ((with_reducible refine gate_dst (N := 4) rfl ?_); refine box_event ?hg (N := 4) ?hd (cs := #[.int .i64 0, .slice none 0 0, .int .i64 0]) (t := 30) ?hr ?_; (case hd => rfl); (case hg => rfl); (case hr => first | (go_simp; done) | (go_simp; rfl)); intro gb231 hg w30 hbox hb; have BK231 := am_ (hbox); have GW231 := am_ (gs_ hg HB); have GE231 := am_ (gs_ hg HB); have NB229_231 := am_ (nl_ hg BK229); have NB231_229 := am_ (ng_ hg BK229); have NB230_231 := am_ (nl_ hg BK230); have NB231_230 := am_ (ng_ hg BK230); replace BK229 := am_ (blk_below (bk_ BK229) hb); replace BK230 := am_ (blk_below (bk_ BK230) hb); replace HB := am_ (below_step (bl_ HB) hb); clear hb hbox hg; have hnb31 := NB229_230.out; have hnc31 := NB230_229.out; have hnb32 := NB229_231.out; have hnc32 := NB231_229.out; have hcz33_0 : w30.cell? ⟨gb229, 0, none⟩ = some (.int .i64 a0_0) := bc_ BK229 0; have hcz33_1 : w30.cell? ⟨gb229, 1, none⟩ = some (.slice A0_1 l0_1.length c0_1) := bc_ BK229 1; have hcz33_2 : w30.cell? ⟨gb229, 2, none⟩ = some (.int .i64 a0_2) := bc_ BK229 2; have hfz33_0 := blk_frozen BK229.out 0; have hfz33_1 := blk_frozen BK229.out 1; have hfz33_2 := blk_frozen BK229.out 2; have hnb34 := NB230_231.out; have hnc34 := NB231_230.out; have hcz35_0 : w30.cell? ⟨gb230, 0, none⟩ = some (.int .i64 a1_0) := bc_ BK230 0; have hcz35_1 : w30.cell? ⟨gb230, 1, none⟩ = some (.slice A1_1 l1_1.length c1_1) := bc_ BK230 1; have hcz35_2 : w30.cell? ⟨gb230, 2, none⟩ = some (.int .i64 a1_2) := bc_ BK230 2; have hfz35_0 := blk_frozen BK230.out 0; have hfz35_1 := blk_frozen BK230.out 1; have hfz35_2 := blk_frozen BK230.out 2) | ((with_reducible refine gate_callee (f := 36) rfl ?_); refine goesL_ (some 11) rfl rfl Tryd.func36 (by kernel_rfl) rfl #[.agg #[.int .i64 a0_0, .slice A0_1 l0_1.length c0_1, .int .i64 a0_2], .agg #[.int .i64 a1_0, .slice A1_1 l1_1.length c1_1, .int .i64 a1_2]] rfl ma_ ?_; (with_reducible refine (spec_l03Both.calls k a0_0 _ _ l0_1 a0_2 a1_0 _ _ l1_1 a1_2 t232 _ ?side1 ?side2 ?side3 ?side4 A3.out).mono ?_); (case side1 => exact cb_ HR0_1 HB); (case side2 => exact HC0_1.out); (case side3 => exact cb_ HR1_1 HB); (case side4 => exact HC1_1.out); rintro e w36 ⟨rfl, hb⟩; refine ⟨_, rfl, ?_⟩; replace BK229 := am_ (blk_below (bk_ BK229) hb); replace BK230 := am_ (blk_below (bk_ BK230) hb); replace BK231 := am_ (blk_below (bk_ BK231) hb); replace HB := am_ (below_step (bl_ HB) hb); (try clear hb); (try clear hb2); (try clear hk); (try clear hi); have hcz37_0 : w36.cell? ⟨gb231, 0, none⟩ = some (.int .i64 0) := bc_ BK231 0; have hcz37_1 : w36.cell? ⟨gb231, 1, none⟩ = some (.slice none 0 0) := bc_ BK231 1; have hcz37_2 : w36.cell? ⟨gb231, 2, none⟩ = some (.int .i64 0) := bc_ BK231 2; have hfz37_0 := blk_frozen BK231.out 0; have hfz37_1 := blk_frozen BK231.out 1; have hfz37_2 := blk_frozen BK231.out 2))
  refine bodyPost_ret (results_ct rfl _ _ gb231 30 #[.int .i64 0, .slice none 0 0, .int .i64 0] (0, 0) _ rfl (bp3_ BK231) Tryd.underlying30 rfl (by kernel_rfl)) rfl ?_
  exact ⟨_, by first | rfl | (simp [errW_none, errW_some] <;> rfl) | (simp [*, errW_none, errW_some] <;> rfl), by first | exact Kd.R_nil _ _ _ _ _ | exact Kd.N_nil _ _ _ _ _ | exact Kd.V_nil _ _ _ _ _ | exact Kd.Q_nil _ _ _ _ _ | exact Kd.S_nil _ _ _ _ _, bl_ HB⟩

end Go.Proofs.YthddlechoibdkaaDoor.X
