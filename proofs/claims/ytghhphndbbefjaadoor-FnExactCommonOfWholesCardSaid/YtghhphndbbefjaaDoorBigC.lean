/- The walk of Lsh: a number times a power of 2. Conditions: the pointers lead to bigInts, of at most 900000 digits, the shift is at most 1000000. -/
/- The library's LeadingZeros32, by the kit's proved contract, at this translation's numbers. No conditions but the argument's range. -/
/- The walks of BitLen and Whole.value. Conditions: the pointers lead to bigInts of at most 1000000 digits; the limbs are limbs, at most 900000. -/
/- The walks of Int64 and IsInt64. Conditions: the pointer leads to a bigInt of at most 1000000 digits. -/
import Derived.Test.YtghhphndbbefjaaDoorBig6
import Derived.Test.YtghhphndbbefjaaDoorMathM
import Derived.Shelf.Small.Bits
import Derived.Test.YtghhphndbbefjaaDoorProg
import Derived.Test.YtghhphndbbefjaaDoorBigA
namespace Go.Proofs.YtghhphndbbefjaaDoor.Big
open Go.RowKit Go.Proofs.YtghhphndbbefjaaDoorW.PrintWords Go.Proofs.YtghhphndbbefjaaDoorW.PrintLast Go.Proofs.YtghhphndbbefjaaDoorW.PrintMore Go.Proofs.YtghhphndbbefjaaDoor.Math
set_option linter.unusedVariables false
set_option linter.unusedSimpArgs false

set_option maxHeartbeats 2000000 in
theorem lsh_walk (z x n : Nat) (nx : Bool) (xs : List Int) (A : Option Addr) (c : Nat) (w : World) (hz : IsBig w z) (hx : Opd w x nx xs A c) (hn : n ≤ 1000000) :
    Calls Tryd.prog 91 #[.pointer (some ⟨z, 0, none⟩), .pointer (some ⟨x, 0, none⟩), .int .u64 n] w fun e w' => e = .returned (.pointer (some ⟨z, 0, none⟩)) ∧ Big w' z (bval nx xs * 2 ^ n) (xs.length + n / 32 + 1) ∧ w.grownBy w' (some z) := by
  have HZ := Aside0.mk hz
  have HX := Aside0.mk hx
  obtain ⟨c0, c1, -, -, -, -, hlen⟩ := hx
  have c1' := fun o => pw_cell_below (below_alloc (Below.refl w.heap.size w) o) c1
  clear hz
  have hmk := fun W => run_make_row' (P := Tryd.prog) 71 118 (.int .u32 0) 4 Tryd.underlying71 info32 rfl .i64 .i64 (xs.length + n / 32 + 1) (by omega) (by omega) W
  have ec : ((xs.length + n / 32 + 1 : Nat) : Int) = (xs.length : Int) + (n : Int) / 32 + 1 := by omega
  rw [ec] at hmk
  clear ec
  have D0 := Aside0.mk (Digs.made w (xs.length + n / 32 + 1) (by omega))
  go_enter Tryd.func91, Tryd.ntmps91
  go_wp2
  have hr : n % 32 ≤ 31 := by omega
  go_loopw [27] (fun i wr => ∃ (k : Nat), k ≤ xs.length ∧ i = .int .i64 k ∧
      Aside0 (∃ (top : Int) (ds : List Int), LshRel xs (n % 32) k top ds ∧ Digs wr (.slice (some ⟨w.heap.size, 0, none⟩) (xs.length + n / 32 + 1) (xs.length + n / 32 + 1)) (List.replicate (n / 32) 0 ++ ds ++ [top] ++ List.replicate (xs.length - k) 0) ∧ Below w.heap.size w wr)) (fun i _ => xs.length - (intOf i).toNat)
  case atStart =>
    refine ⟨0, Nat.zero_le _, rfl, ⟨0, [], LshRel.start _ _, ?_, (Below.refl _ _).alloc (Nat.le_refl _) _⟩⟩
    have h := D0.out
    rw [show List.replicate (xs.length + n / 32 + 1) (0 : Int) = List.replicate (n / 32) 0 ++ [] ++ [0] ++ List.replicate (xs.length - 0) 0 from by
      rw [List.append_nil, Nat.sub_zero, show ([0] : List Int) = List.replicate 1 0 from rfl, List.replicate_append_replicate, List.replicate_append_replicate]
      congr 1
      omega] at h
    exact h
  case round =>
    obtain ⟨k, hk, rfl, ⟨top, ds, hrl, hdg, hbl⟩⟩ := hrel
    have hl := hrl.len
    have hpl : (List.replicate (n / 32) (0 : Int) ++ ds).length = k + n / 32 := by simp [hl]; omega
    have HPL := Aside0.mk hpl
    have HR := Aside0.mk hrl
    have HD := Aside0.mk hdg
    have HB := Aside0.mk hbl
    clear hrl hdg hbl hl hpl
    by_cases hlt : k < xs.length
    · obtain ⟨g, c', he, hg⟩ := HX.out.d.form (by omega)
      obtain ⟨he1, he3⟩ : A = some ⟨g, 0, none⟩ ∧ c = c' := ⟨(Value.slice.inj he).1, (Value.slice.inj he).2.2⟩
      subst he1 he3
      have hgw : g ≠ w.heap.size := by omega
      have hcx := ((HX.out.d.below HB.out).at_ hlt).1
      have hbx := getD_ok HX.out.ok k
      have hst := HR.out.step HX.out.ok hr hlt
      obtain ⟨x0, hxe⟩ : ∃ x0, x0 = xs.getD k 0 := ⟨_, rfl⟩
      rw [← hxe] at hcx hbx hst
      have HST := Aside0.mk hst
      clear hxe he hst
      have ho : (wr.cell? ⟨w.heap.size, k + n / 32, none⟩ = some (.int .u32 top) ∧ wr.frozen? ⟨w.heap.size, k + n / 32, none⟩ = false) ∧ wr.cell? ⟨w.heap.size, k + n / 32 + 1, none⟩ = some (.int .u32 0) ∧ wr.frozen? ⟨w.heap.size, k + n / 32 + 1, none⟩ = false := by
        have hd := HD.out
        have hg := getD_two (List.replicate (n / 32) (0 : Int) ++ ds) top (xs.length - (k + 1))
        rw [show xs.length - k = xs.length - (k + 1) + 1 from by omega] at hd
        rw [HPL.out] at hg
        have h1 := hd.at_ (k := k + n / 32) (by rw [List.length_append, List.length_append, HPL.out]; simp; omega)
        have h2 := hd.at_ (k := k + n / 32 + 1) (by rw [List.length_append, List.length_append, HPL.out]; simp)
        rw [hg.1] at h1
        rw [hg.2] at h2
        exact ⟨h1, h2⟩
      obtain ⟨⟨o1, o1f⟩, o2, o2f⟩ := ho
      have fin : Digs ((wr.setCell ⟨w.heap.size, k + n / 32, none⟩ (.int .u32 (bits BinOp.or IntKind.u32 top (IntKind.u64.wrap (x0 * 2 ^ (n % 32)) % 4294967296)))).setCell ⟨w.heap.size, k + n / 32 + 1, none⟩ (.int .u32 (IntKind.u64.wrap (x0 * 2 ^ (n % 32)) / 4294967296 % 4294967296)))
          (.slice (some ⟨w.heap.size, 0, none⟩) (xs.length + n / 32 + 1) (xs.length + n / 32 + 1)) (List.replicate (n / 32) 0 ++ (ds ++ [top + (x0 * 2 ^ (n % 32)) % 4294967296]) ++ [x0 * 2 ^ (n % 32) / 4294967296] ++ List.replicate (xs.length - (k + 1)) 0) := by
        obtain ⟨q1, q2, q3, q4⟩ := lsh_wide hr hbx.1 hbx.2
        have hs := HR.out.small hr
        rw [q1, or_low hr HR.out.c.1 HR.out.c.2 hbx.1, Int.emod_eq_of_lt (a := x0 * 2 ^ (n % 32) / 4294967296) (by omega) (by omega)]
        have hd := HD.out
        rw [show xs.length - k = xs.length - (k + 1) + 1 from by omega] at hd
        have hd1 := (hd.put (by rw [List.length_append, List.length_append, HPL.out]; simp; omega) (k + n / 32) (top + (x0 * 2 ^ (n % 32)) % 4294967296)).1
        have hd2 := (hd1.put (by rw [List.length_set, List.length_append, List.length_append, HPL.out]; simp; omega) (k + n / 32 + 1) (x0 * 2 ^ (n % 32) / 4294967296)).1
        have hse := set_two (List.replicate (n / 32) (0 : Int) ++ ds) top (top + (x0 * 2 ^ (n % 32)) % 4294967296) (x0 * 2 ^ (n % 32) / 4294967296) (xs.length - (k + 1))
        rw [HPL.out] at hse
        rw [hse, List.append_assoc (List.replicate (n / 32) (0 : Int)) ds] at hd2
        exact hd2
      have FIN := Aside0.mk fin
      have hts := HR.out.small hr
      clear fin
      go_wp2
      go_roundw
      case rel => exact ⟨k + 1, by omega, by go_num, ⟨_, _, HST.out.1, FIN.out, (HB.out.setCell (Nat.le_refl _) _).setCell (Nat.le_refl _) _⟩⟩
      case measure => simp [intOf]; omega
    · obtain rfl : k = xs.length := by omega
      have k0 := pw_cell_below HB.out c0
      have hd := HD.out
      rw [Nat.sub_self, List.replicate_zero, List.append_nil] at hd
      have HD2 := Aside0.mk hd
      clear hd c0 c1 c1'
      go_wp2_with fail
      refine (put_big z nx _ _ _ (HZ.out.below HB.out) HD2.out (HR.out.done hr (n / 32)).1).mono ?_
      rintro e w' ⟨rfl, hb, hg⟩
      have HB2 := Aside0.mk hb
      have HG := Aside0.mk (below_z HB.out hg)
      clear hb hg
      go_wp2
      go_ret
      refine ⟨rfl, ?_, HG.out⟩
      have h := HB2.out
      have hv := (HR.out.done hr (n / 32)).2
      rw [show 32 * (n / 32) + n % 32 = n from by omega] at hv
      have he : bval nx (List.replicate (n / 32) 0 ++ ds ++ [top]) = bval nx xs * 2 ^ n := by
        cases nx <;> simp only [bval, Bool.false_eq_true, if_false, if_true, hv, Int.neg_mul]
      rw [he] at h
      refine h.more ?_
      rw [List.length_append, HPL.out]
      simp

theorem lsh_calls (z x n : Nat) (k : Int) (m : Nat) (w : World) (hz : IsBig w z) (hx : Big w x k m) (hm : m ≤ 1000000) (hn : n ≤ 1000000) :
    Calls Tryd.prog 91 #[.pointer (some ⟨z, 0, none⟩), .pointer (some ⟨x, 0, none⟩), .int .u64 n] w fun e w' => e = .returned (.pointer (some ⟨z, 0, none⟩)) ∧ Big w' z (k * 2 ^ n) (m + n / 32 + 1) ∧ w.grownBy w' (some z) := by
  obtain ⟨nx, xs, A, c, hxo, rfl, hlx⟩ := hx.opd hm
  refine (lsh_walk z x n nx xs A c w hz hxo hn).mono ?_
  rintro e w' ⟨h1, h2, h3⟩
  exact ⟨h1, h2.more (by omega), h3⟩
end Go.Proofs.YtghhphndbbefjaaDoor.Big

namespace Go.Proofs.YtghhphndbbefjaaDoor.Shelf
open Go.Shelf
def lays133_ren : Go.Shelf.Ren := ⟨fun | 133 => 126 | 128 => 128 | n => n, fun | 51 => 118 | 3 => 3 | 4 => 4 | 46 => 113 | 5 => 5 | 9 => 9 | n => n, fun | n => n⟩
theorem lays133 : Go.Proofs.Lays.n133 Tryd.prog lays133_ren := {
  mixed := by kernel_rfl
  f128 := Tryd.func128.trans (congrArg some (by kernel_rfl))
  f133 := Tryd.func126.trans (congrArg some (by kernel_rfl))
  t3 := Tryd.underlying3
  a3 := Tryd.isAgg3
  z3 := Tryd.sizeOf3
  v3 := Tryd.zeroValue3
  t4 := Tryd.underlying4
  a4 := Tryd.isAgg4
  z4 := Tryd.sizeOf4
  v4 := Tryd.zeroValue4
  t5 := Tryd.underlying5
  a5 := Tryd.isAgg5
  z5 := Tryd.sizeOf5
  v5 := Tryd.zeroValue5
  t9 := Tryd.underlying9
  a9 := Tryd.isAgg9
  z9 := Tryd.sizeOf9
  v9 := Tryd.zeroValue9
  t46 := Tryd.underlying113
  a46 := Tryd.isAgg113
  z46 := Tryd.sizeOf113
  v46 := Tryd.zeroValue113
  t51 := Tryd.underlying118
  a51 := Tryd.isAgg118
  z51 := Tryd.sizeOf118
  v51 := Tryd.zeroValue118 }
theorem bits_LeadingZeros32 (x : Int) (w : World) (h0 : 0 ≤ x) (h1 : x ≤ 4294967295) :
    Calls Tryd.prog 126 #[.int .u32 x] w fun e w' => e = .returned (.int .i64 (32 - (Lib.bitLen x.toNat : Int))) ∧ w' = w := Any.bits_LeadingZeros32 lays133 x w h0 h1
end Go.Proofs.YtghhphndbbefjaaDoor.Shelf

namespace Go.Proofs.YtghhphndbbefjaaDoor.Big
open Go.RowKit Go.Proofs.YtghhphndbbefjaaDoorW.PrintWords Go.Proofs.YtghhphndbbefjaaDoorW.PrintLast Go.Proofs.YtghhphndbbefjaaDoorW.PrintMore Go.Proofs.YtghhphndbbefjaaDoor.Math
set_option linter.unusedVariables false
set_option linter.unusedSimpArgs false

theorem Big.fit {w : World} {b : Nat} {n : Int} {m k : Nat} (h : Big w b n m) (hl : -4294967296 ^ k < n) (hr : n < 4294967296 ^ k) : Big w b n k := by
  obtain ⟨neg, xs, h1, h2, h3, h4, h5, h6⟩ := h
  refine ⟨neg, xs, h1, h2, h3, h4, tight_length h2 h3 ?_, h6⟩
  have := val_nonneg h2
  cases neg <;> simp only [bval, Bool.false_eq_true, if_false, if_true] at h6 <;> omega

set_option maxHeartbeats 400000 in
theorem bitLen_calls (x : Nat) (n : Int) (m : Nat) (w : World) (hx : Big w x n m) (hm : m ≤ 1000000) :
    Calls Tryd.prog 94 #[.pointer (some ⟨x, 0, none⟩)] w fun e w' => e = .returned (.int .i64 (blen n)) ∧ w' = w := by
  obtain ⟨nx, xs, A, c, hxo, rfl, hlx⟩ := hx.opd hm
  have HX := Aside0.mk hxo
  obtain ⟨c0, c1, -, -, -, -, hl6⟩ := hxo
  clear hx
  rcases snoc_cases xs with rfl | ⟨ys, y, rfl⟩
  · have hv : blen (bval nx []) = 0 := by cases nx <;> rfl
    have HV := Aside0.mk hv
    clear hv
    go_enter Tryd.func94, Tryd.ntmps94
    go_wp2
    go_ret
    exact ⟨by rw [HV.out]; rfl, rfl⟩
  · have hv : blen (bval nx (ys ++ [y])) = 32 * ys.length + Lib.bitLen y.toNat := by
      have hy : y ≠ 0 := by simpa using HX.out.ti (by simp)
      have h := blen_digits HX.out.ok hy
      cases nx <;> simp only [bval, Bool.false_eq_true, if_false, if_true, blen_neg] <;> exact h
    have hb := HX.out.ok.right.head
    have hbl : Lib.bitLen y.toNat ≤ 32 := by
      rw [bitLen_log2 (by have : (2 : Nat) ^ 64 = 18446744073709551616 := by decide
                          omega)]
      split
      · omega
      · rename_i h
        have := (Nat.log2_lt h (k := 32)).2 (by have : (2 : Nat) ^ 32 = 4294967296 := by decide
                                                omega)
        omega
    obtain ⟨hn, g, rfl, hcell, hb1, hb2⟩ := HX.out.d.last
    have HV := Aside0.mk hv
    have el : (ys ++ [y]).length = ys.length + 1 := by simp
    rw [el] at c1 hl6
    have EL := Aside0.mk el
    have hne : (((ys.length : Int) + 1) == 0) = false := by simp; omega
    clear hv hn el
    go_enter Tryd.func94, Tryd.ntmps94
    go_wp2_with fail
    refine (Shelf.bits_Len32 y _ hb.1 (by omega)).mono ?_
    rintro e w' ⟨rfl, rfl⟩
    go_wp2
    go_ret
    exact ⟨by rw [HV.out, Int.natCast_add, Int.natCast_mul]; rfl, rfl⟩

/-- What value knows of its limbs. -/
structure Lims (w : World) (A : Option Addr) (ls : List Int) : Prop where
  r : Kd.C (Kd.int .i64) w A ls.length ls
  ok : Okl ls
  len : ls.length ≤ 900000
theorem Lims.below {w w1 : World} {A : Option Addr} {ls : List Int} (h : Lims w A ls) (hb : Below w.heap.size w w1) : Lims w1 A ls := ⟨Kd.C_below h.r hb, h.ok, h.len⟩
theorem Lims.at_ {w : World} {A : Option Addr} {ls : List Int} (h : Lims w A ls) {k : Nat} (hk : k < ls.length) : ∃ a, A = some a ∧ w.cell? (a.add k) = some (.int .i64 (ls.getD k 0)) := by
  obtain ⟨ad, c, ha, hl, hc, hall⟩ := h.r.get_ 0 (k : Int) (by omega) (by omega)
  have e : c = [.int .i64 (ls.getD ((k : Int)).toNat 0)] := hc
  rw [Int.toNat_natCast] at e
  refine ⟨ad, ha, ?_⟩
  have := hall 0 (.int .i64 (ls.getD k 0)) (by rw [e]; rfl)
  have h1 : (Kd.int .i64).sz = 1 := rfl
  rw [h1, Int.toNat_natCast, Nat.mul_one, Nat.add_zero] at this
  exact this

theorem ten24 : (2 : Int) ^ 24 = 16777216 := by decide

/-- What stands in memory at the head of a round of value. -/
structure ValInv (w wr : World) (s : Int) (A : Option Addr) (c : Nat) (ls : List Int) (n : Int) : Prop where
  b : Below w.heap.size w wr
  box : wr.heap[w.heap.size]? = some (.cells #[.int .i64 s, .slice A ls.length c] 26 (0, 0))
  big : Big wr (w.heap.size + 1) n ls.length
theorem ValInv.start (w : World) (s : Int) (A : Option Addr) (c : Nat) (ls : List Int) :
    ValInv w ((w.alloc (.cells #[.int .i64 s, .slice A ls.length c] 26)).alloc (.cells #[.bool false, .slice none 0 0] 73)) s A c ls 0 := by
  refine ⟨((Below.refl _ _).alloc (Nat.le_refl _) _).alloc (by simp) _, blk_alloc (heap_alloc_new w _) _, ⟨false, [], ⟨.slice none 0 0, ?_, own_nil _ _ _ _⟩, Okd.nil, (fun h => absurd rfl h), (fun h => by cases h), Nat.zero_le _, rfl⟩⟩
  have := heap_alloc_new (w.alloc (.cells #[.int .i64 s, .slice A ls.length c] 26)) (.cells #[.bool false, .slice none 0 0] 73)
  simpa using this
theorem ValInv.cells {w wr : World} {s : Int} {A : Option Addr} {c : Nat} {ls : List Int} {n : Int} (h : ValInv w wr s A c ls n) :
    wr.cell? ⟨w.heap.size, 0, none⟩ = some (.int .i64 s) ∧ wr.cell? ⟨w.heap.size, 1, none⟩ = some (.slice A ls.length c) :=
  ⟨(blk_cell h.box 0).trans rfl, (blk_cell h.box 1).trans rfl⟩
theorem below_box {w w1 w2 : World} (h : Below w.heap.size w w1) (hg : w1.grownBy w2 (some (w.heap.size + 1))) : Below w.heap.size w w2 := below_of_grown h hg (Nat.le_succ _)
theorem box_grown {w w1 : World} {g : Nat} {o : Obj} (h : w.heap[g]? = some o) (hg : w.grownBy w1 (some (g + 1))) : w1.heap[g]? = some o := blk_grown h hg (by intro e; injection e with e; omega)

set_option maxHeartbeats 4000000 in
theorem value_calls (s : Int) (A : Option Addr) (c : Nat) (ls : List Int) (w : World) (h : Lims w A ls) :
    Calls Tryd.prog 48 #[.agg #[.int .i64 s, .slice A ls.length c]] w fun e w' => ∃ b, e = .returned (.pointer (some ⟨b, 0, none⟩)) ∧ w.heap.size ≤ b ∧ Big w' b (wv s ls) ls.length ∧ Below w.heap.size w w' := by
  have HL := Aside0.mk h
  have hlen := h.len
  have H0 := Aside0.mk (ValInv.start w s A c ls)
  clear h
  go_enter Tryd.func48, Tryd.ntmps48
  go_wp2
  go_loopw [4] (fun i wr => ∃ k : Nat, k ≤ ls.length ∧ i = .int .i64 ((k : Int) - 1) ∧ Aside0 (ValInv w wr s A c ls (lv (ls.drop k)))) (fun i _ => (intOf i + 1).toNat)
  case atStart => exact ⟨ls.length, Nat.le_refl _, rfl, ⟨by rw [List.drop_of_length_le (Nat.le_refl _)]; exact H0.out⟩⟩
  case round =>
    obtain ⟨k, hk, rfl, hR⟩ := hrel
    obtain ⟨q0, q1⟩ := hR.out.cells
    cases k with
    | zero =>
      have hz0 := hR.out.big.is
      by_cases hs : s < 0
      · go_wp2_with fail
        refine (neg_calls _ _ _ _ _ hR.out.big.is hR.out.big (by omega)).mono ?_
        rintro e w' ⟨rfl, hb, hg⟩
        have HB := Aside0.mk hb
        have HG := Aside0.mk (below_box hR.out.b hg)
        clear hb hg
        go_wp2
        go_ret
        refine ⟨_, rfl, Nat.le_succ _, ?_, HG.out⟩
        have := HB.out
        rw [wv, if_pos (by omega)]
        simpa using this
      · go_wp2
        go_ret
        refine ⟨_, rfl, Nat.le_succ _, ?_, hR.out.b⟩
        have := hR.out.big
        rw [wv, if_neg (by omega)]
        simpa using this
    | succ k =>
      have ek : ((k + 1 : Nat) : Int) - 1 = (k : Int) := by omega
      rw [ek]
      clear ek
      go_wp2_with fail
      refine (lsh_calls _ _ 24 _ _ _ hR.out.big.is hR.out.big (by omega) (by omega)).mono ?_
      rintro e w1 ⟨rfl, hb1, hg1⟩
      have HB1 := Aside0.mk hb1
      have b1 := below_box hR.out.b hg1
      have x1 := box_grown hR.out.box hg1
      have X1 := Aside0.mk x1
      have B1 := Aside0.mk b1
      have r1 : w1.cell? ⟨w.heap.size, 1, none⟩ = some (.slice A ls.length c) := (blk_cell x1 1).trans rfl
      obtain ⟨ad, rfl, hcell⟩ := (HL.out.below b1).at_ (k := k) (by omega)
      clear hb1 hg1 b1 x1 q0 q1
      have hlb : 0 ≤ ls.getD k 0 ∧ ls.getD k 0 < 16777216 := HL.out.ok _ (by rw [List.getD_eq_getElem?_getD, List.getElem?_eq_getElem (show k < ls.length from by omega)]; exact List.getElem_mem _)
      have hdrop := lv_drop (xs := ls) (k := k) (by omega)
      obtain ⟨l, hle⟩ : ∃ l, l = ls.getD k 0 := ⟨_, rfl⟩
      rw [← hle] at hcell hlb hdrop
      have HDR := Aside0.mk hdrop
      clear hle hdrop
      go_wp2_with fail
      refine (newBig_calls l _ (by omega) (by omega)).mono ?_
      rintro e w2 ⟨rfl, hb2, hg2⟩
      have HB2 := Aside0.mk hb2
      have HZ2 := Aside0.mk (HB1.out.below hg2)
      have B2 := Aside0.mk (B1.out.trans (hg2.mono B1.out.size))
      have X2 := Aside0.mk (blk_below X1.out hg2)
      clear hb2 hg2
      go_wp2_with fail
      refine (add_calls _ _ _ _ _ _ _ _ HZ2.out.is HZ2.out (by omega) HB2.out (by omega)).mono ?_
      rintro e w3 ⟨rfl, hb3, hg3⟩
      have fin : ValInv w w3 s (some ad) c ls (lv (ls.drop k)) := by
        refine ⟨below_box B2.out hg3, box_grown X2.out hg3, ?_⟩
        rw [ten24] at hb3
        rw [HDR.out, Int.add_comm l, Int.mul_comm 16777216]
        have h1 := lv_nonneg (okl_drop HL.out.ok k)
        have h2 := lv_lt (okl_drop HL.out.ok k)
        rw [HDR.out] at h1 h2
        have h3 := lpow_le (ls.drop k).length
        have h4 := pow_mono (show (ls.drop k).length ≤ ls.length from by rw [List.length_drop]; omega)
        have h5 := pow_pos' ls.length
        exact hb3.fit (by omega) (by omega)
      have FIN := Aside0.mk fin
      clear hb3 hg3 fin
      go_wp2
      go_roundw
      case rel => exact ⟨k, by omega, by go_num, ⟨FIN.out⟩⟩
      case measure => simp [intOf]
end Go.Proofs.YtghhphndbbefjaaDoor.Big

namespace Go.Proofs.YtghhphndbbefjaaDoor.Big
open Go.RowKit Go.Proofs.YtghhphndbbefjaaDoorW.PrintWords Go.Proofs.YtghhphndbbefjaaDoorW.PrintLast Go.Proofs.YtghhphndbbefjaaDoorW.PrintMore Go.Proofs.YtghhphndbbefjaaDoor.Math
set_option linter.unusedVariables false
set_option linter.unusedSimpArgs false

theorem or_zero (x : Int) (h : 0 ≤ x ∧ x < 4294967296) : bits BinOp.or IntKind.u64 0 x = x := by
  obtain ⟨a, rfl⟩ := Int.eq_ofNat_of_zero_le h.1
  have := u64_or_nat 0 a (by omega) (by omega)
  simpa using this
theorem or_two (a b : Int) (h : 0 ≤ a ∧ a < 4294967296) (h' : 0 ≤ b ∧ b < 4294967296) : bits BinOp.or IntKind.u64 a (b * 4294967296) = a + 4294967296 * b := by
  obtain ⟨a, rfl⟩ := Int.eq_ofNat_of_zero_le h.1
  obtain ⟨b, rfl⟩ := Int.eq_ofNat_of_zero_le h'.1
  have := u64_or_nat a (b * 4294967296) (by omega) (by omega)
  rw [show ((b : Int) * 4294967296) = ((b * 4294967296 : Nat) : Int) from by omega, this, Nat.mul_comm, Nat.or_comm]
  have h2 := Nat.two_pow_add_eq_or_of_lt (b := a) (i := 32) (by omega) b
  rw [show (2 : Nat) ^ 32 = 4294967296 from by decide] at h2
  rw [← h2]
  omega
theorem wrap_neg (n : Int) : wrap64 (IntKind.u64.wrap (-n)) = wrap64 (-n) := by
  rw [wrapU]
  unfold wrap64
  omega
theorem val_take_one {xs : List Int} (h : 0 < xs.length) : val (xs.take 1) = xs.getD 0 0 := by
  have := val_take_succ (xs := xs) (k := 0) h
  simpa [val] using this
theorem val_take_two {xs : List Int} (h : 1 < xs.length) : val (xs.take 2) = xs.getD 0 0 + 4294967296 * xs.getD 1 0 := by
  have := val_take_succ (xs := xs) (k := 1) h
  rw [val_take_one (by omega)] at this
  simpa using this
set_option maxHeartbeats 2000000 in
theorem int64_walk (x : Nat) (nx : Bool) (xs : List Int) (A : Option Addr) (c : Nat) (w : World) (hx : Opd w x nx xs A c) :
    Calls Tryd.prog 98 #[.pointer (some ⟨x, 0, none⟩)] w fun e w' => e = .returned (.int .i64 (wrap64 (bval nx (xs.take 2)))) ∧ w' = w := by
  have HX := Aside0.mk hx
  obtain ⟨c0, c1, -, -, -, -, hlen⟩ := hx
  go_enter Tryd.func98, Tryd.ntmps98
  go_wp2
  go_loop [3, 11] (fun u i => ∃ (k : Nat) (n : Int), k ≤ xs.length ∧ i = .int .i64 k ∧ u = .int .u64 n ∧ Aside0 (n = val (xs.take (min k 2)))) (fun _ i => xs.length - (intOf i).toNat)
  case atStart => exact ⟨0, 0, Nat.zero_le _, rfl, rfl, ⟨rfl⟩⟩
  case round =>
    obtain ⟨k, n, hk, rfl, rfl, hR⟩ := hrel
    by_cases hlt : k < xs.length
    · obtain ⟨g, c', he, hg⟩ := HX.out.d.form (by omega)
      obtain ⟨he1, he3⟩ : A = some ⟨g, 0, none⟩ ∧ c = c' := ⟨(Value.slice.inj he).1, (Value.slice.inj he).2.2⟩
      subst he1 he3
      have hcx := (HX.out.d.at_ hlt).1
      have hbx := getD_ok HX.out.ok k
      obtain ⟨x0, hxe⟩ : ∃ x0, x0 = xs.getD k 0 := ⟨_, rfl⟩
      rw [← hxe] at hcx hbx
      have HXE := Aside0.mk hxe
      clear hxe he
      rcases (show k = 0 ∨ k = 1 ∨ 2 ≤ k from by omega) with rfl | rfl | h2
      · have hn : n = 0 := by
          have := hR.out
          simpa [val] using this
        have HN := Aside0.mk hn
        clear hn
        go_wp2
        go_round
        case rel => exact ⟨1, _, by omega, rfl, rfl, ⟨by rw [HN.out, or_zero _ hbx, show min 1 2 = 1 from rfl, val_take_one hlt, HXE.out]⟩⟩
        case measure => simp [intOf]; omega
      · have hn : n = xs.getD 0 0 := by
          have := hR.out
          rwa [show min 1 2 = 1 from rfl, val_take_one (by omega)] at this
        have HN := Aside0.mk hn
        clear hn
        go_wp2
        go_round
        case rel => exact ⟨2, _, by omega, rfl, rfl, ⟨by rw [HN.out, or_two _ _ (getD_ok HX.out.ok 0) hbx, show min 2 2 = 2 from rfl, val_take_two hlt, HXE.out]⟩⟩
        case measure => simp [intOf]; omega
      · go_wp2
        go_round
        case rel => exact ⟨k + 1, _, by omega, by go_num, rfl, ⟨by rw [hR.out, show min k 2 = 2 from by omega, show min (k + 1) 2 = 2 from by omega]⟩⟩
        case measure => simp [intOf]; omega
    · have hn : n = val (xs.take 2) := by
        rw [hR.out]
        obtain rfl : k = xs.length := by omega
        rcases Nat.lt_or_ge xs.length 2 with h | h
        · rw [show min xs.length 2 = xs.length from by omega, List.take_of_length_le (Nat.le_refl _), List.take_of_length_le (by omega)]
        · rw [show min xs.length 2 = 2 from by omega]
      have HN := Aside0.mk hn
      clear hn
      cases nx
      · go_wp2
        go_ret
        exact ⟨by rw [bval, if_neg (by decide), ← HN.out]; rfl, rfl⟩
      · go_wp2
        go_ret
        exact ⟨by rw [bval, if_pos rfl, ← HN.out, ← wrap_neg]; rfl, rfl⟩

/-- The low 64 bits of a number, as an int64; it is the number itself where this is one. -/
theorem int64_calls (x : Nat) (n : Int) (m : Nat) (w : World) (hx : Big w x n m) (hm : m ≤ 1000000) :
    ∃ t, (-9223372036854775808 ≤ t ∧ t ≤ 9223372036854775807) ∧ ((-9223372036854775808 ≤ n ∧ n ≤ 9223372036854775807) → t = n) ∧
      Calls Tryd.prog 98 #[.pointer (some ⟨x, 0, none⟩)] w fun e w' => e = .returned (.int .i64 t) ∧ w' = w := by
  obtain ⟨nx, xs, A, c, hxo, rfl, hlx⟩ := hx.opd hm
  refine ⟨_, ?_, ?_, int64_walk x nx xs A c w hxo⟩
  · unfold wrap64
    omega
  · intro h
    have h0 := val_nonneg hxo.ok
    have hv : val xs < 4294967296 ^ 2 := by
      have e : (4294967296 : Int) ^ 2 = 18446744073709551616 := by decide
      rw [e]
      cases nx <;> simp only [bval, Bool.false_eq_true, if_false, if_true] at h <;> omega
    rw [List.take_of_length_le (tight_length hxo.ok hxo.ti hv)]
    exact w64s h.1 h.2

end Go.Proofs.YtghhphndbbefjaaDoor.Big
