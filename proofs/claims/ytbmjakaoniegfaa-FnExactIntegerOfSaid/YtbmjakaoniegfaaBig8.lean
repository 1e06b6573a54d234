/- The walks of BitLen and Whole.value. Conditions: the pointers lead to bigInts of at most 1000000 digits; the limbs are limbs, at most 900000. -/
import Derived.Test.YtbmjakaoniegfaaBig7
import Derived.Test.YtbmjakaoniegfaaMath2
import Derived.Test.YtbmjakaoniegfaaShelf0
namespace Go.Proofs.Ytbmjakaoniegfaa.Big
open Go.RowKit Go.Proofs.YtbmjakaoniegfaaW.PrintWords Go.Proofs.YtbmjakaoniegfaaW.PrintLast Go.Proofs.YtbmjakaoniegfaaW.PrintMore Go.Proofs.Ytbmjakaoniegfaa.Math
set_option linter.unusedVariables false
set_option linter.unusedSimpArgs false

theorem Big.fit {w : World} {b : Nat} {n : Int} {m k : Nat} (h : Big w b n m) (hl : -4294967296 ^ k < n) (hr : n < 4294967296 ^ k) : Big w b n k := by
  obtain ⟨neg, xs, h1, h2, h3, h4, h5, h6⟩ := h
  refine ⟨neg, xs, h1, h2, h3, h4, tight_length h2 h3 ?_, h6⟩
  have := val_nonneg h2
  cases neg <;> simp only [bval, Bool.false_eq_true, if_false, if_true] at h6 <;> omega

set_option maxHeartbeats 400000 in
theorem bitLen_calls (x : Nat) (n : Int) (m : Nat) (w : World) (hx : Big w x n m) (hm : m ≤ 1000000) :
    Calls Try.prog 31 #[.pointer (some ⟨x, 0, none⟩)] w fun e w' => e = .returned (.int .i64 (blen n)) ∧ w' = w := by
  obtain ⟨nx, xs, A, c, hxo, rfl, hlx⟩ := hx.opd hm
  have HX := Aside0.mk hxo
  obtain ⟨c0, c1, -, -, -, -, hl6⟩ := hxo
  clear hx
  rcases snoc_cases xs with rfl | ⟨ys, y, rfl⟩
  · have hv : blen (bval nx []) = 0 := by cases nx <;> rfl
    have HV := Aside0.mk hv
    clear hv
    go_enter Try.func31, Try.ntmps31
    go_wp2
    go_ret
    exact ⟨by rw [HV.out]; rfl, rfl⟩
  · have hv : blen (bval nx (ys ++ [y])) = 32 * ys.length + Lib.bitLen y.toNat := by
      have hy : y ≠ 0 := by simpa using HX.out.ti (by simp)
      have h := blen_digits HX.out.ok hy
      cases nx <;> simp only [bval, Bool.false_eq_true, if_false, if_true, blen_neg] <;> exact h
    have hb := HX.out.ok.right.head
    have hbl : Lib.bitLen y.toNat ≤ 32 := by
      rw [bitLen_log2 (by have : (2 : Nat) ^ 64 = 18446744073709551616 := by decide
                          omega)]
      split
      · omega
      · rename_i h
        have := (Nat.log2_lt h (k := 32)).2 (by have : (2 : Nat) ^ 32 = 4294967296 := by decide
                                                omega)
        omega
    obtain ⟨hn, g, rfl, hcell, hb1, hb2⟩ := HX.out.d.last
    have HV := Aside0.mk hv
    have el : (ys ++ [y]).length = ys.length + 1 := by simp
    rw [el] at c1 hl6
    have EL := Aside0.mk el
    have hne : (((ys.length : Int) + 1) == 0) = false := by simp; omega
    clear hv hn el
    go_enter Try.func31, Try.ntmps31
    go_wp2_with fail
    refine (Shelf.bits_Len32 y _ hb.1 (by omega)).mono ?_
    rintro e w' ⟨rfl, rfl⟩
    go_wp2
    go_ret
    exact ⟨by rw [HV.out, Int.natCast_add, Int.natCast_mul]; rfl, rfl⟩

/-- What value knows of its limbs. -/
structure Lims (w : World) (A : Option Addr) (ls : List Int) : Prop where
  r : Kd.C (Kd.int .i64) w A ls.length ls
  ok : Okl ls
  len : ls.length ≤ 900000
theorem Lims.below {w w1 : World} {A : Option Addr} {ls : List Int} (h : Lims w A ls) (hb : Below w.heap.size w w1) : Lims w1 A ls := ⟨Kd.C_below h.r hb, h.ok, h.len⟩
theorem Lims.at_ {w : World} {A : Option Addr} {ls : List Int} (h : Lims w A ls) {k : Nat} (hk : k < ls.length) : ∃ a, A = some a ∧ w.cell? (a.add k) = some (.int .i64 (ls.getD k 0)) := by
  obtain ⟨ad, c, ha, hl, hc, hall⟩ := h.r.get_ 0 (k : Int) (by omega) (by omega)
  have e : c = [.int .i64 (ls.getD ((k : Int)).toNat 0)] := hc
  rw [Int.toNat_natCast] at e
  refine ⟨ad, ha, ?_⟩
  have := hall 0 (.int .i64 (ls.getD k 0)) (by rw [e]; rfl)
  have h1 : (Kd.int .i64).sz = 1 := rfl
  rw [h1, Int.toNat_natCast, Nat.mul_one, Nat.add_zero] at this
  exact this

theorem ten24 : (2 : Int) ^ 24 = 16777216 := by decide

/-- What stands in memory at the head of a round of value. -/
structure ValInv (w wr : World) (s : Int) (A : Option Addr) (c : Nat) (ls : List Int) (n : Int) : Prop where
  b : Below w.heap.size w wr
  box : wr.heap[w.heap.size]? = some (.cells #[.int .i64 s, .slice A ls.length c] 27 (0, 0))
  big : Big wr (w.heap.size + 1) n ls.length
theorem ValInv.start (w : World) (s : Int) (A : Option Addr) (c : Nat) (ls : List Int) :
    ValInv w ((w.alloc (.cells #[.int .i64 s, .slice A ls.length c] 27)).alloc (.cells #[.bool false, .slice none 0 0] 59)) s A c ls 0 := by
  refine ⟨((Below.refl _ _).alloc (Nat.le_refl _) _).alloc (by simp) _, blk_alloc (heap_alloc_new w _) _, ⟨false, [], ⟨.slice none 0 0, ?_, own_nil _ _ _ _⟩, Okd.nil, (fun h => absurd rfl h), (fun h => by cases h), Nat.zero_le _, rfl⟩⟩
  have := heap_alloc_new (w.alloc (.cells #[.int .i64 s, .slice A ls.length c] 27)) (.cells #[.bool false, .slice none 0 0] 59)
  simpa using this
theorem ValInv.cells {w wr : World} {s : Int} {A : Option Addr} {c : Nat} {ls : List Int} {n : Int} (h : ValInv w wr s A c ls n) :
    wr.cell? ⟨w.heap.size, 0, none⟩ = some (.int .i64 s) ∧ wr.cell? ⟨w.heap.size, 1, none⟩ = some (.slice A ls.length c) :=
  ⟨(blk_cell h.box 0).trans rfl, (blk_cell h.box 1).trans rfl⟩
theorem below_box {w w1 w2 : World} (h : Below w.heap.size w w1) (hg : w1.grownBy w2 (some (w.heap.size + 1))) : Below w.heap.size w w2 := below_of_grown h hg (Nat.le_succ _)
theorem box_grown {w w1 : World} {g : Nat} {o : Obj} (h : w.heap[g]? = some o) (hg : w.grownBy w1 (some (g + 1))) : w1.heap[g]? = some o := blk_grown h hg (by intro e; injection e with e; omega)

set_option maxHeartbeats 4000000 in
theorem value_calls (s : Int) (A : Option Addr) (c : Nat) (ls : List Int) (w : World) (h : Lims w A ls) :
    Calls Try.prog 30 #[.agg #[.int .i64 s, .slice A ls.length c]] w fun e w' => ∃ b, e = .returned (.pointer (some ⟨b, 0, none⟩)) ∧ w.heap.size ≤ b ∧ Big w' b (wv s ls) ls.length ∧ Below w.heap.size w w' := by
  have HL := Aside0.mk h
  have hlen := h.len
  have H0 := Aside0.mk (ValInv.start w s A c ls)
  clear h
  go_enter Try.func30, Try.ntmps30
  go_wp2
  go_loopw [4] (fun i wr => ∃ k : Nat, k ≤ ls.length ∧ i = .int .i64 ((k : Int) - 1) ∧ Aside0 (ValInv w wr s A c ls (lv (ls.drop k)))) (fun i _ => (intOf i + 1).toNat)
  case atStart => exact ⟨ls.length, Nat.le_refl _, rfl, ⟨by rw [List.drop_of_length_le (Nat.le_refl _)]; exact H0.out⟩⟩
  case round =>
    obtain ⟨k, hk, rfl, hR⟩ := hrel
    obtain ⟨q0, q1⟩ := hR.out.cells
    cases k with
    | zero =>
      have hz0 := hR.out.big.is
      by_cases hs : s < 0
      · go_wp2_with fail
        refine (neg_calls _ _ _ _ _ hR.out.big.is hR.out.big (by omega)).mono ?_
        rintro e w' ⟨rfl, hb, hg⟩
        have HB := Aside0.mk hb
        have HG := Aside0.mk (below_box hR.out.b hg)
        clear hb hg
        go_wp2
        go_ret
        refine ⟨_, rfl, Nat.le_succ _, ?_, HG.out⟩
        have := HB.out
        rw [wv, if_pos (by omega)]
        simpa using this
      · go_wp2
        go_ret
        refine ⟨_, rfl, Nat.le_succ _, ?_, hR.out.b⟩
        have := hR.out.big
        rw [wv, if_neg (by omega)]
        simpa using this
    | succ k =>
      have ek : ((k + 1 : Nat) : Int) - 1 = (k : Int) := by omega
      rw [ek]
      clear ek
      go_wp2_with fail
      refine (lsh_calls _ _ 24 _ _ _ hR.out.big.is hR.out.big (by omega) (by omega)).mono ?_
      rintro e w1 ⟨rfl, hb1, hg1⟩
      have HB1 := Aside0.mk hb1
      have b1 := below_box hR.out.b hg1
      have x1 := box_grown hR.out.box hg1
      have X1 := Aside0.mk x1
      have B1 := Aside0.mk b1
      have r1 : w1.cell? ⟨w.heap.size, 1, none⟩ = some (.slice A ls.length c) := (blk_cell x1 1).trans rfl
      obtain ⟨ad, rfl, hcell⟩ := (HL.out.below b1).at_ (k := k) (by omega)
      clear hb1 hg1 b1 x1 q0 q1
      have hlb : 0 ≤ ls.getD k 0 ∧ ls.getD k 0 < 16777216 := HL.out.ok _ (by rw [List.getD_eq_getElem?_getD, List.getElem?_eq_getElem (show k < ls.length from by omega)]; exact List.getElem_mem _)
      have hdrop := lv_drop (xs := ls) (k := k) (by omega)
      obtain ⟨l, hle⟩ : ∃ l, l = ls.getD k 0 := ⟨_, rfl⟩
      rw [← hle] at hcell hlb hdrop
      have HDR := Aside0.mk hdrop
      clear hle hdrop
      go_wp2_with fail
      refine (newBig_calls l _ (by omega) (by omega)).mono ?_
      rintro e w2 ⟨rfl, hb2, hg2⟩
      have HB2 := Aside0.mk hb2
      have HZ2 := Aside0.mk (HB1.out.below hg2)
      have B2 := Aside0.mk (B1.out.trans (hg2.mono B1.out.size))
      have X2 := Aside0.mk (blk_below X1.out hg2)
      clear hb2 hg2
      go_wp2_with fail
      refine (add_calls _ _ _ _ _ _ _ _ HZ2.out.is HZ2.out (by omega) HB2.out (by omega)).mono ?_
      rintro e w3 ⟨rfl, hb3, hg3⟩
      have fin : ValInv w w3 s (some ad) c ls (lv (ls.drop k)) := by
        refine ⟨below_box B2.out hg3, box_grown X2.out hg3, ?_⟩
        rw [ten24] at hb3
        rw [HDR.out, Int.add_comm l, Int.mul_comm 16777216]
        have h1 := lv_nonneg (okl_drop HL.out.ok k)
        have h2 := lv_lt (okl_drop HL.out.ok k)
        rw [HDR.out] at h1 h2
        have h3 := lpow_le (ls.drop k).length
        have h4 := pow_mono (show (ls.drop k).length ≤ ls.length from by rw [List.length_drop]; omega)
        have h5 := pow_pos' ls.length
        exact hb3.fit (by omega) (by omega)
      have FIN := Aside0.mk fin
      clear hb3 hg3 fin
      go_wp2
      go_roundw
      case rel => exact ⟨k, by omega, by go_num, ⟨FIN.out⟩⟩
      case measure => simp [intOf]
end Go.Proofs.Ytbmjakaoniegfaa.Big
