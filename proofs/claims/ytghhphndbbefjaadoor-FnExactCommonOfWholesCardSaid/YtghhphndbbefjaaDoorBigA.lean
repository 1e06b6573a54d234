/- The library's Len32, by the kit's proved contract, at this translation's numbers. No conditions but the argument's range. -/
/- Numbers of type bigInt in memory: what such a block holds, and how that outlives other writes. No conditions. -/
/- The walks of trimmed and put: digits without zeros at the end; a number gets its sign and digits. Conditions: the receiver is a bigInt, the digits are digits in memory. -/
/- The walk of addDigits: the sum of digits. Conditions: both are digits in memory. -/
/- The walks of subDigits and cmpDigits: the difference of digits, how digits compare. Conditions: both are digits in memory; for the difference the first are no less. -/
import Derived.Shelf.Small.Bits
import Derived.Test.YtghhphndbbefjaaDoorProg
import Derived.Test.YtghhphndbbefjaaDoorWMore
import Derived.WalkKit
import Derived.WalkLawsBesides
import Derived.Outline
import Derived.Test.YtghhphndbbefjaaDoorMathM
import Derived.Deep.QuietTactic
import Derived.BigQuiet
namespace Go.Proofs.YtghhphndbbefjaaDoor.Shelf
open Go.Shelf
def lays128_ren : Go.Shelf.Ren := ⟨fun | 128 => 128 | n => n, fun | 51 => 118 | 3 => 3 | 4 => 4 | 46 => 113 | 5 => 5 | 9 => 9 | n => n, fun | n => n⟩
theorem lays128 : Go.Proofs.Lays.n128 Tryd.prog lays128_ren := {
  mixed := by kernel_rfl
  f128 := Tryd.func128.trans (congrArg some (by kernel_rfl))
  t3 := Tryd.underlying3
  a3 := Tryd.isAgg3
  z3 := Tryd.sizeOf3
  v3 := Tryd.zeroValue3
  t4 := Tryd.underlying4
  a4 := Tryd.isAgg4
  z4 := Tryd.sizeOf4
  v4 := Tryd.zeroValue4
  t5 := Tryd.underlying5
  a5 := Tryd.isAgg5
  z5 := Tryd.sizeOf5
  v5 := Tryd.zeroValue5
  t9 := Tryd.underlying9
  a9 := Tryd.isAgg9
  z9 := Tryd.sizeOf9
  v9 := Tryd.zeroValue9
  t46 := Tryd.underlying113
  a46 := Tryd.isAgg113
  z46 := Tryd.sizeOf113
  v46 := Tryd.zeroValue113
  t51 := Tryd.underlying118
  a51 := Tryd.isAgg118
  z51 := Tryd.sizeOf118
  v51 := Tryd.zeroValue118 }
theorem bits_Len32 (x : Int) (w : World) (h0 : 0 ≤ x) (h1 : x ≤ 4294967295) :
    Calls Tryd.prog 128 #[.int .u32 x] w fun e w' => e = .returned (.int .i64 (Lib.bitLen x.toNat)) ∧ w' = w := Any.bits_Len32 lays128 x w h0 h1
end Go.Proofs.YtghhphndbbefjaaDoor.Shelf

namespace Go.Proofs.YtghhphndbbefjaaDoor.Big
open Go.RowKit Go.Proofs.YtghhphndbbefjaaDoorW.PrintWords
set_option linter.unusedVariables false

/-- A slice value that holds these digits (base 2^32), in a block that nothing else than a store of digits touches. -/
def Digs (w : World) (v : Value) (xs : List Int) : Prop := w.ownsRow 0 118 1 v xs.length (nums .u32 xs)
/-- Block b is a bigInt with this sign and these digits. -/
def BigAt (w : World) (b : Nat) (neg : Bool) (xs : List Int) : Prop :=
  ∃ v, w.heap[b]? = some (.cells #[.bool neg, v] 73 (0, 0)) ∧ Digs w v xs
/-- Block b is a bigInt, whatever it holds. -/
def IsBig (w : World) (b : Nat) : Prop := ∃ n v, w.heap[b]? = some (.cells #[.bool n, v] 73 (0, 0))

theorem Digs.grown {w w1 : World} {v : Value} {xs : List Int} {z : Nat} (h : Digs w v xs) (hg : w.grownBy w1 (some z)) (hz : IsBig w z) : Digs w1 v xs := by
  obtain ⟨n, u, hz⟩ := hz
  refine own_move h (fun k hk => ?_)
  obtain ⟨cells, hc⟩ := own_typed h k hk
  refine hg.block k (own_lt h k hk) ?_
  rintro e
  injection e with e
  subst e
  rw [hc] at hz
  injection hz with hz
  injection hz with _ hz
  exact absurd hz (by decide)

theorem Digs.below {w w1 : World} {v : Value} {xs : List Int} (h : Digs w v xs) (hb : Below w.heap.size w w1) : Digs w1 v xs := pw_own_below h hb
theorem BigAt.is {w : World} {b : Nat} {neg : Bool} {xs : List Int} (h : BigAt w b neg xs) : IsBig w b := ⟨_, _, h.choose_spec.1⟩
theorem IsBig.lt {w : World} {b : Nat} (h : IsBig w b) : b < w.heap.size := by
  obtain ⟨_, _, h⟩ := h
  exact (Array.getElem?_eq_some_iff.1 h).1
theorem BigAt.lt {w : World} {b : Nat} {neg : Bool} {xs : List Int} (h : BigAt w b neg xs) : b < w.heap.size := h.is.lt
theorem BigAt.below {w w1 : World} {b : Nat} {neg : Bool} {xs : List Int} (h : BigAt w b neg xs) (hb : Below w.heap.size w w1) : BigAt w1 b neg xs := by
  obtain ⟨v, h1, h2⟩ := h
  exact ⟨v, (hb.block b (Array.getElem?_eq_some_iff.1 h1).1).trans h1, h2.below hb⟩
theorem BigAt.grown {w w1 : World} {b z : Nat} {neg : Bool} {xs : List Int} (h : BigAt w b neg xs) (hg : w.grownBy w1 (some z)) (hz : IsBig w z) (hne : b ≠ z) : BigAt w1 b neg xs := by
  obtain ⟨v, h1, h2⟩ := h
  refine ⟨v, (hg.block b (Array.getElem?_eq_some_iff.1 h1).1 ?_).trans h1, h2.grown hg hz⟩
  intro e
  injection e with e
  exact hne e
theorem IsBig.below {w w1 : World} {b : Nat} (h : IsBig w b) (hb : Below w.heap.size w w1) : IsBig w1 b := by
  have := h.lt
  obtain ⟨n, v, h⟩ := h
  exact ⟨n, v, (hb.block b this).trans h⟩
theorem IsBig.grown {w w1 : World} {b z : Nat} (h : IsBig w b) (hg : w.grownBy w1 (some z)) (hne : b ≠ z) : IsBig w1 b := by
  have hl := h.lt
  obtain ⟨n, v, h⟩ := h
  refine ⟨n, v, (hg.block b hl ?_).trans h⟩
  intro e
  injection e with e
  exact hne e
theorem grownBy_refl (w : World) (row : Option Nat) : w.grownBy w row := grown_of_below (Below.refl _ _) row
theorem below_grownBy {w w1 : World} (h : Below w.heap.size w w1) (row : Option Nat) : w.grownBy w1 row := grown_of_below h row
/-- What was written is a block made on the way: the old world is as it was. -/
theorem below_of_grown {w w1 w2 : World} {z : Nat} (h : Below w.heap.size w w1) (hg : w1.grownBy w2 (some z)) (hz : w.heap.size ≤ z) : Below w.heap.size w w2 :=
  pw_below_grown h (some z) h.size hg (by intro k hk; injection hk with hk; omega)
end Go.Proofs.YtghhphndbbefjaaDoor.Big

namespace Go.Proofs.YtghhphndbbefjaaDoor.Big
open Go.RowKit Go.Proofs.YtghhphndbbefjaaDoorW.PrintWords Go.Proofs.YtghhphndbbefjaaDoor.Math
set_option linter.unusedVariables false
set_option linter.unusedSimpArgs false

/-- The cell at the end of digits. -/
theorem Digs.last {w : World} {A : Option Addr} {c n : Nat} {ys : List Int} {y : Int} (h : Digs w (.slice A n c) (ys ++ [y])) :
    n = ys.length + 1 ∧ ∃ g, A = some ⟨g, 0, none⟩ ∧ w.cell? ⟨g, ys.length, none⟩ = some (.int .u32 y) ∧ ys.length + 1 ≤ 9223372036854775807 ∧ ys.length + 1 ≤ c := by
  have h' : w.ownsRow 0 118 1 (.slice A n c) (ys ++ [y]).length (nums .u32 (ys ++ [y])) := h
  have hl : (ys ++ [y]).length = ys.length + 1 := by simp
  rw [hl] at h'
  obtain ⟨g, cap, he, _, _⟩ := h'.form (by omega)
  injection he with e1 e2 e3
  subst e1 e2 e3
  have hc := own_at h' (ys.length : Int) (by omega) (by omega)
  refine ⟨rfl, g, rfl, ?_, ?_⟩
  · have := hc.1
    simpa [rd] using this
  · rcases h'.2 with ⟨h1, _⟩ | ⟨g', cap', cur, h1, _, _, h2, h3, _⟩
    · cases h1
    · injection h1 with _ _ h1
      subst h1
      simp only [maxLen] at h3
      omega
theorem Digs.empty {w : World} {A : Option Addr} {c n : Nat} (h : Digs w (.slice A n c) []) : n = 0 := by
  rcases h.2 with ⟨h1, _⟩ | ⟨g', cap', cur, h1, _⟩
  · injection h1
  · injection h1
theorem Digs.cut {w : World} {g c : Nat} {ys : List Int} {y : Int} (h : Digs w (.slice (some ⟨g, 0, none⟩) (ys.length + 1) c) (ys ++ [y])) :
    Digs w (.slice (some ⟨g, 0, none⟩) ys.length c) ys := by
  rcases h.2 with ⟨h1, _⟩ | ⟨g', cap', cur, h1, h2, h3, h4, h5, h6, h7⟩
  · cases h1
  · injection h1 with e1 e2 e3
    injection e1 with e1
    injection e1 with e1
    subst e1 e3
    simp only [List.length_append, List.length_cons, List.length_nil, Nat.zero_add, Nat.mul_one] at h4 h7
    refine ⟨by simp [nums], .inr ⟨g, c, cur, rfl, h2, h3, by omega, h5, h6, ?_⟩⟩
    have := congrArg (List.take ys.length) h7
    rw [List.take_take, Nat.min_eq_left (by omega)] at this
    rw [Nat.mul_one, this]
    simp [nums]
theorem Digs.shape {w : World} {v : Value} {xs : List Int} (h : Digs w v xs) : ∃ A c, v = .slice A xs.length c := own_slice h

set_option maxHeartbeats 400000 in
theorem trimmed_calls (v : Value) (xs : List Int) (w : World) (hv : Digs w v xs) :
    Calls Tryd.prog 102 #[v] w fun e w' => ∃ v', e = .returned v' ∧ Digs w v' (trim xs) ∧ w' = w := by
  obtain ⟨A, c, rfl⟩ := hv.shape
  have HV := Aside0.mk hv
  clear hv
  go_enter Tryd.func102, Tryd.ntmps102
  go_wp2
  go_loop [0] (fun u => ∃ (A : Option Addr) (c n : Nat) (l : List Int), u = .slice A n c ∧ Aside0 (Digs w (.slice A n c) l ∧ trim l = trim xs)) (fun u => match u with | .slice _ n _ => n | _ => 0)
  case atStart => exact ⟨A, c, _, xs, rfl, ⟨HV.out, rfl⟩⟩
  case round =>
    obtain ⟨A, c, n, l, rfl, hl⟩ := hrel
    rcases snoc_cases l with rfl | ⟨ys, y, rfl⟩
    · have hn := hl.out.1.empty
      subst hn
      go_wp2
      go_ret
      exact ⟨_, rfl, hl.out.2 ▸ hl.out.1, rfl⟩
    · obtain ⟨rfl, g, rfl, hcell, hb, hb2⟩ := hl.out.1.last
      by_cases hy : y = 0
      · subst hy
        go_wp2
        go_round
        case rel => exact ⟨_, _, _, ys, rfl, ⟨hl.out.1.cut, by rw [← hl.out.2, trim_snoc_zero]⟩⟩
        case measure => simp
      · have hy' : (y == 0) = false := by simpa using hy
        go_wp2
        go_ret
        exact ⟨_, rfl, by rw [← hl.out.2, trim_snoc _ hy]; exact hl.out.1, rfl⟩

theorem big_cells {w : World} {z : Nat} {n : Bool} {v : Value} (h : w.heap[z]? = some (.cells #[.bool n, v] 73 (0, 0))) :
    w.cell? ⟨z, 0, none⟩ = some (.bool n) ∧ w.cell? ⟨z, 1, none⟩ = some v ∧ w.frozen? ⟨z, 0, none⟩ = false ∧ w.frozen? ⟨z, 1, none⟩ = false :=
  ⟨(blk_cell h 0).trans rfl, (blk_cell h 1).trans rfl, blk_frozen h 0, blk_frozen h 1⟩
theorem grownBy_store (w : World) (z i : Nat) (v : Value) : w.grownBy (w.setCell ⟨z, i, none⟩ v) (some z) :=
  ⟨rfl, rfl, rfl, by simp, fun k hk hne => Below.heap_setCell w _ v k (fun e => hne (by rw [e]))⟩
theorem put_end {w : World} {z : Nat} {n b : Bool} {v v' : Value} {xs : List Int} (h : w.heap[z]? = some (.cells #[.bool n, v] 73 (0, 0))) (hd : Digs w v' xs) :
    BigAt ((w.setCell ⟨z, 1, none⟩ v').setCell ⟨z, 0, none⟩ (.bool b)) z b xs ∧ w.grownBy ((w.setCell ⟨z, 1, none⟩ v').setCell ⟨z, 0, none⟩ (.bool b)) (some z) := by
  have hg : w.grownBy ((w.setCell ⟨z, 1, none⟩ v').setCell ⟨z, 0, none⟩ (.bool b)) (some z) := (grownBy_store w z 1 v').trans (grownBy_store _ z 0 _)
  refine ⟨⟨v', ?_, hd.grown hg ⟨_, _, h⟩⟩, hg⟩
  exact blk_put (cs := #[.bool n, v']) (blk_put (cs := #[.bool n, v]) h 1 _ rfl) 0 _ rfl

set_option maxHeartbeats 400000 in
theorem put_calls (z : Nat) (neg n0 : Bool) (v v0 : Value) (xs : List Int) (w : World) (hz : w.heap[z]? = some (.cells #[.bool n0, v0] 73 (0, 0))) (hv : Digs w v xs) :
    Calls Tryd.prog 90 #[.pointer (some ⟨z, 0, none⟩), .bool neg, v] w fun e w' => e = .returned (.pointer (some ⟨z, 0, none⟩)) ∧ BigAt w' z (neg && decide (trim xs ≠ [])) (trim xs) ∧ w.grownBy w' (some z) := by
  obtain ⟨A, c, rfl⟩ := hv.shape
  have HV := Aside0.mk hv
  obtain ⟨c0, c1, f0, f1⟩ := big_cells hz
  have HZ := Aside0.mk hz
  clear hv hz
  have post : ∀ (b : Bool) (v' : Value), Aside0 (Digs w v' (trim xs) ∧ b = (neg && decide (trim xs ≠ []))) → BigAt ((w.setCell ⟨z, 1, none⟩ v').setCell ⟨z, 0, none⟩ (.bool b)) z (neg && decide (trim xs ≠ [])) (trim xs) ∧ w.grownBy ((w.setCell ⟨z, 1, none⟩ v').setCell ⟨z, 0, none⟩ (.bool b)) (some z) := by
    rintro b v' ⟨h1, h2⟩
    have := put_end (b := b) HZ.out h1
    exact h2 ▸ this
  have PO := Aside0.mk post
  clear post
  go_enter Tryd.func90, Tryd.ntmps90
  go_wp2_with fail
  refine (trimmed_calls _ xs _ HV.out).mono ?_
  rintro e w' ⟨v', rfl, h2, rfl⟩
  obtain ⟨A', c', rfl⟩ := h2.shape
  have H2 := Aside0.mk h2
  clear h2
  cases neg
  · go_wp2
    go_ret
    exact ⟨rfl, PO.out _ _ ⟨H2.out, rfl⟩⟩
  · by_cases ht : trim xs = []
    · have hp : decide ((0 : Int) < ((trim xs).length : Int)) = false := by rw [ht]; rfl
      have HT := Aside0.mk ht
      clear ht
      go_wp2
      go_ret
      exact ⟨rfl, PO.out _ _ ⟨H2.out, by simp [HT.out]⟩⟩
    · have hl : 0 < (trim xs).length := List.length_pos_iff.2 ht
      go_wp2
      go_ret
      exact ⟨rfl, PO.out _ _ ⟨H2.out, by simp [ht]⟩⟩
end Go.Proofs.YtghhphndbbefjaaDoor.Big

namespace Go.Proofs.YtghhphndbbefjaaDoor.Big
open Go.RowKit Go.Proofs.YtghhphndbbefjaaDoorW.PrintWords Go.Proofs.YtghhphndbbefjaaDoor.Math
set_option linter.unusedVariables false
set_option linter.unusedSimpArgs false

theorem info32 : (Tryd.prog.info? 118).map (fun i => (i.zero, i.size, i.bytes)) = some (some (.int .u32 0), 1, 4) := by kernel_rfl
theorem Digs.form {w : World} {v : Value} {xs : List Int} (h : Digs w v xs) (hp : 0 < xs.length) : ∃ g c, v = .slice (some ⟨g, 0, none⟩) xs.length c ∧ g < w.heap.size := by
  obtain ⟨g, cap, he, _, hl⟩ := World.ownsRow.form h hp
  exact ⟨g, cap, he, hl⟩
theorem Digs.at_ {w : World} {g c n : Nat} {xs : List Int} (h : Digs w (.slice (some ⟨g, 0, none⟩) n c) xs) {k : Nat} (hk : k < xs.length) :
    w.cell? ⟨g, k, none⟩ = some (.int .u32 (xs.getD k 0)) ∧ w.frozen? ⟨g, k, none⟩ = false := by
  have h' : w.ownsRow 0 118 1 (.slice (some ⟨g, 0, none⟩) n c) xs.length (nums .u32 xs) := h
  have hn : n = xs.length := by
    obtain ⟨g', c', he, _⟩ := h.form (by omega)
    injection he
  subst hn
  have := own_at h' (k : Int) (by omega) (by omega)
  simpa [rd] using this
theorem Digs.put {w : World} {g c n : Nat} {xs : List Int} (h : Digs w (.slice (some ⟨g, 0, none⟩) n c) xs) (hn : n = xs.length) (k : Nat) (x : Int) :
    Digs (w.setCell ⟨g, k, none⟩ (.int .u32 x)) (.slice (some ⟨g, 0, none⟩) n c) (xs.set k x) ∧ w.grownBy (w.setCell ⟨g, k, none⟩ (.int .u32 x)) (some g) := by
  subst hn
  have h' : w.ownsRow 0 118 1 (.slice (some ⟨g, 0, none⟩) xs.length c) xs.length (nums .u32 xs) := h
  have hs := h'.stored k (.int .u32 x)
  refine ⟨?_, hs.2⟩
  have h2 := hs.1
  simp only [Digs, List.length_set]
  rw [show nums .u32 (xs.set k x) = (nums .u32 xs).set k (.int .u32 x) from by simp [nums, List.map_set]]
  exact h2
theorem Digs.made (w : World) (m : Nat) (hm : m ≤ 9223372036854775807) :
    Digs (w.alloc (.cells (madeCells #[.int .u32 0] m) 118)) (.slice (some ⟨w.heap.size, 0, none⟩) m m) (List.replicate m 0) := by
  have := own_made w 0 118 .u32 m (Nat.zero_le _) hm
  simpa [Digs] using this

set_option maxHeartbeats 1000000 in
theorem add_main (sw : Bool) (xs ys : List Int) (vx vy : Value) (w : World) (hle : ys.length ≤ xs.length) (hsw : sw = true → ys.length < xs.length)
    (hx : Digs w vx xs) (hy : Digs w vy ys) (ox : Okd xs) (oy : Okd ys) (hb : xs.length ≤ 1000000000) :
    Calls Tryd.prog 129 (if sw then #[vy, vx] else #[vx, vy]) w fun e w' => ∃ v zs, e = .returned v ∧ Digs w' v zs ∧ Okd zs ∧ zs.length = xs.length + 1 ∧ val zs = val xs + val ys ∧ Below w.heap.size w w' := by
  obtain ⟨A, c, rfl⟩ := hx.shape
  obtain ⟨B, d, rfl⟩ := hy.shape
  have HX := Aside0.mk hx
  have HY := Aside0.mk hy
  have OX := Aside0.mk ox
  have OY := Aside0.mk oy
  clear hx hy ox oy
  have hmk := fun W => run_make_row' (P := Tryd.prog) 71 118 (.int .u32 0) 4 Tryd.underlying71 info32 rfl .i64 .i64 (xs.length + 1) (by omega) (by omega) W
  have ec : ((xs.length + 1 : Nat) : Int) = (xs.length : Int) + 1 := by omega
  rw [ec] at hmk
  clear ec
  have hsw' : (sw = true → ys.length < xs.length) ∧ True := ⟨hsw, trivial⟩
  obtain ⟨HSW, -⟩ := hsw'
  have hb2 : ys.length ≤ 1000000000 := by omega
  have D0 := Aside0.mk (Digs.made w (xs.length + 1) (by omega))
  cases sw
  · have hlt : ¬ (xs.length < ys.length) := by omega
    clear hsw HSW
    simp only [Bool.false_eq_true, if_false]
    go_enter Tryd.func129, Tryd.ntmps129
    go_wp2
    go_loopw [6, 21] (fun c i wr => ∃ (k : Nat) (carry : Int) (ds : List Int), k ≤ xs.length ∧ c = .int .u64 carry ∧ i = .int .i64 k ∧ 0 ≤ carry ∧ carry ≤ 1 ∧
        Aside0 (AddRel xs ys k carry ds ∧ Digs wr (.slice (some ⟨w.heap.size, 0, none⟩) (xs.length + 1) (xs.length + 1)) (ds ++ List.replicate (xs.length + 1 - k) 0) ∧ Below w.heap.size w wr)) (fun _ i _ => xs.length - (intOf i).toNat)
    case atStart => exact ⟨0, 0, [], Nat.zero_le _, rfl, rfl, by omega, by omega, ⟨AddRel.start _ _, by simpa using D0.out, (Below.refl _ _).alloc (Nat.le_refl _) _⟩⟩
    case round =>
      obtain ⟨k, carry, ds, hk, rfl, rfl, hc0, hc1, hR⟩ := hrel
      by_cases hlt : k < xs.length
      · obtain ⟨g, c', he, hg⟩ := HX.out.form (by omega)
        injection he with he1 he2 he3
        subst he1 he3
        have hgw : g ≠ w.heap.size := by omega
        have hcx := ((HX.out.below hR.out.2.2).at_ hlt).1
        have hbx := getD_ok OX.out k
        obtain ⟨x, hxe⟩ : ∃ x, x = xs.getD k 0 := ⟨_, rfl⟩
        rw [← hxe] at hcx hbx
        have HXE := Aside0.mk hxe
        clear hxe
        obtain ⟨o, hoc, hof⟩ : ∃ o, wr.cell? ⟨w.heap.size, k, none⟩ = some (.int .u32 o) ∧ wr.frozen? ⟨w.heap.size, k, none⟩ = false := ⟨_, hR.out.2.1.at_ (k := k) (by simp [hR.out.1.len]; omega)⟩
        have fin : ∀ t, t = carry + xs.getD k 0 + ys.getD k 0 → AddRel xs ys (k + 1) (t / 4294967296) (ds ++ [t % 4294967296]) ∧ Digs (wr.setCell ⟨w.heap.size, k, none⟩ (.int .u32 (t % 4294967296))) (.slice (some ⟨w.heap.size, 0, none⟩) (xs.length + 1) (xs.length + 1)) ((ds ++ [t % 4294967296]) ++ List.replicate (xs.length + 1 - (k + 1)) 0) ∧ Below w.heap.size w (wr.setCell ⟨w.heap.size, k, none⟩ (.int .u32 (t % 4294967296))) := by
          intro t ht
          refine ⟨hR.out.1.step OX.out OY.out hlt ht, ?_, hR.out.2.2.setCell (Nat.le_refl _) _⟩
          have h1 := (hR.out.2.1.put (by simp [hR.out.1.len]; omega) k (t % 4294967296)).1
          have hl := hR.out.1.len
          rw [show xs.length + 1 - k = (xs.length + 1 - (k + 1)) + 1 from by omega, ← hl, set_fill] at h1
          rw [← hl]
          exact h1
        have FIN := Aside0.mk fin
        clear fin
        by_cases hlt2 : k < ys.length
        · obtain ⟨g2, d', he, hg2⟩ := HY.out.form (by omega)
          injection he with he1 he2 he3
          subst he1 he3
          have hcy := ((HY.out.below hR.out.2.2).at_ hlt2).1
          have hby := getD_ok OY.out k
          obtain ⟨y, hye⟩ : ∃ y, y = ys.getD k 0 := ⟨_, rfl⟩
          rw [← hye] at hcy hby
          have HYE := Aside0.mk hye
          clear hye
          go_wp2
          go_roundw
          case rel => exact ⟨k + 1, _, _, by omega, rfl, by go_num, by omega, by omega, ⟨FIN.out (carry + x + y) (by rw [HXE.out, HYE.out])⟩⟩
          case measure => simp [intOf]; omega
        · go_wp2
          go_roundw
          case rel => exact ⟨k + 1, _, _, by omega, rfl, by go_num, by omega, by omega, ⟨FIN.out (carry + x) (by rw [HXE.out, List.getD_eq_getElem?_getD (l := ys), List.getElem?_eq_none (by omega)]; simp)⟩⟩
          case measure => simp [intOf]; omega
      · obtain rfl : k = xs.length := by omega
        obtain ⟨o, hoc, hof⟩ : ∃ o, wr.cell? ⟨w.heap.size, xs.length, none⟩ = some (.int .u32 o) ∧ wr.frozen? ⟨w.heap.size, xs.length, none⟩ = false := ⟨_, hR.out.2.1.at_ (k := xs.length) (by simp [hR.out.1.len])⟩
        go_wp2
        go_ret
        obtain ⟨h1, h2, h3⟩ := hR.out.1.done hle
        refine ⟨_, _, rfl, ?_, h1, h2, h3, hR.out.2.2.setCell (Nat.le_refl _) _⟩
        have h4 := (hR.out.2.1.put (by simp [hR.out.1.len]) xs.length carry).1
        have hl := hR.out.1.len
        rw [show xs.length + 1 - xs.length = 0 + 1 from by omega] at h4
        have h5 := set_fill ds 0 carry
        rw [hl] at h5
        rw [h5, List.replicate_zero, List.append_nil] at h4
        exact h4
  · have hlt : ys.length < xs.length := HSW rfl
    clear hsw HSW
    simp only [if_true]
    go_enter Tryd.func129, Tryd.ntmps129
    go_wp2
    go_loopw [6, 21] (fun c i wr => ∃ (k : Nat) (carry : Int) (ds : List Int), k ≤ xs.length ∧ c = .int .u64 carry ∧ i = .int .i64 k ∧ 0 ≤ carry ∧ carry ≤ 1 ∧
        Aside0 (AddRel xs ys k carry ds ∧ Digs wr (.slice (some ⟨w.heap.size, 0, none⟩) (xs.length + 1) (xs.length + 1)) (ds ++ List.replicate (xs.length + 1 - k) 0) ∧ Below w.heap.size w wr)) (fun _ i _ => xs.length - (intOf i).toNat)
    case atStart => exact ⟨0, 0, [], Nat.zero_le _, rfl, rfl, by omega, by omega, ⟨AddRel.start _ _, by simpa using D0.out, (Below.refl _ _).alloc (Nat.le_refl _) _⟩⟩
    case round =>
      obtain ⟨k, carry, ds, hk, rfl, rfl, hc0, hc1, hR⟩ := hrel
      by_cases hlt : k < xs.length
      · obtain ⟨g, c', he, hg⟩ := HX.out.form (by omega)
        injection he with he1 he2 he3
        subst he1 he3
        have hgw : g ≠ w.heap.size := by omega
        have hcx := ((HX.out.below hR.out.2.2).at_ hlt).1
        have hbx := getD_ok OX.out k
        obtain ⟨x, hxe⟩ : ∃ x, x = xs.getD k 0 := ⟨_, rfl⟩
        rw [← hxe] at hcx hbx
        have HXE := Aside0.mk hxe
        clear hxe
        obtain ⟨o, hoc, hof⟩ : ∃ o, wr.cell? ⟨w.heap.size, k, none⟩ = some (.int .u32 o) ∧ wr.frozen? ⟨w.heap.size, k, none⟩ = false := ⟨_, hR.out.2.1.at_ (k := k) (by simp [hR.out.1.len]; omega)⟩
        have fin : ∀ t, t = carry + xs.getD k 0 + ys.getD k 0 → AddRel xs ys (k + 1) (t / 4294967296) (ds ++ [t % 4294967296]) ∧ Digs (wr.setCell ⟨w.heap.size, k, none⟩ (.int .u32 (t % 4294967296))) (.slice (some ⟨w.heap.size, 0, none⟩) (xs.length + 1) (xs.length + 1)) ((ds ++ [t % 4294967296]) ++ List.replicate (xs.length + 1 - (k + 1)) 0) ∧ Below w.heap.size w (wr.setCell ⟨w.heap.size, k, none⟩ (.int .u32 (t % 4294967296))) := by
          intro t ht
          refine ⟨hR.out.1.step OX.out OY.out hlt ht, ?_, hR.out.2.2.setCell (Nat.le_refl _) _⟩
          have h1 := (hR.out.2.1.put (by simp [hR.out.1.len]; omega) k (t % 4294967296)).1
          have hl := hR.out.1.len
          rw [show xs.length + 1 - k = (xs.length + 1 - (k + 1)) + 1 from by omega, ← hl, set_fill] at h1
          rw [← hl]
          exact h1
        have FIN := Aside0.mk fin
        clear fin
        by_cases hlt2 : k < ys.length
        · obtain ⟨g2, d', he, hg2⟩ := HY.out.form (by omega)
          injection he with he1 he2 he3
          subst he1 he3
          have hcy := ((HY.out.below hR.out.2.2).at_ hlt2).1
          have hby := getD_ok OY.out k
          obtain ⟨y, hye⟩ : ∃ y, y = ys.getD k 0 := ⟨_, rfl⟩
          rw [← hye] at hcy hby
          have HYE := Aside0.mk hye
          clear hye
          go_wp2
          go_roundw
          case rel => exact ⟨k + 1, _, _, by omega, rfl, by go_num, by omega, by omega, ⟨FIN.out (carry + x + y) (by rw [HXE.out, HYE.out])⟩⟩
          case measure => simp [intOf]; omega
        · go_wp2
          go_roundw
          case rel => exact ⟨k + 1, _, _, by omega, rfl, by go_num, by omega, by omega, ⟨FIN.out (carry + x) (by rw [HXE.out, List.getD_eq_getElem?_getD (l := ys), List.getElem?_eq_none (by omega)]; simp)⟩⟩
          case measure => simp [intOf]; omega
      · obtain rfl : k = xs.length := by omega
        obtain ⟨o, hoc, hof⟩ : ∃ o, wr.cell? ⟨w.heap.size, xs.length, none⟩ = some (.int .u32 o) ∧ wr.frozen? ⟨w.heap.size, xs.length, none⟩ = false := ⟨_, hR.out.2.1.at_ (k := xs.length) (by simp [hR.out.1.len])⟩
        go_wp2
        go_ret
        obtain ⟨h1, h2, h3⟩ := hR.out.1.done hle
        refine ⟨_, _, rfl, ?_, h1, h2, h3, hR.out.2.2.setCell (Nat.le_refl _) _⟩
        have h4 := (hR.out.2.1.put (by simp [hR.out.1.len]) xs.length carry).1
        have hl := hR.out.1.len
        rw [show xs.length + 1 - xs.length = 0 + 1 from by omega] at h4
        have h5 := set_fill ds 0 carry
        rw [hl] at h5
        rw [h5, List.replicate_zero, List.append_nil] at h4
        exact h4

/-- The sum of digits. -/
theorem addDigits_calls (xs ys : List Int) (vx vy : Value) (w : World) (hx : Digs w vx xs) (hy : Digs w vy ys) (ox : Okd xs) (oy : Okd ys) (hb : xs.length ≤ 1000000000) (hb2 : ys.length ≤ 1000000000) :
    Calls Tryd.prog 129 #[vx, vy] w fun e w' => ∃ v zs, e = .returned v ∧ Digs w' v zs ∧ Okd zs ∧ zs.length = max xs.length ys.length + 1 ∧ val zs = val xs + val ys ∧ Below w.heap.size w w' := by
  by_cases h : ys.length ≤ xs.length
  · refine (add_main false xs ys vx vy w h (fun h => by cases h) hx hy ox oy hb).mono ?_
    rintro e w' ⟨v, zs, h1, h2, h3, h4, h5, h6⟩
    exact ⟨v, zs, h1, h2, h3, by omega, h5, h6⟩
  · refine (add_main true ys xs vy vx w (by omega) (fun _ => by omega) hy hx oy ox hb2).mono ?_
    rintro e w' ⟨v, zs, h1, h2, h3, h4, h5, h6⟩
    exact ⟨v, zs, h1, h2, h3, by omega, by omega, h6⟩
end Go.Proofs.YtghhphndbbefjaaDoor.Big

namespace Go.Proofs.YtghhphndbbefjaaDoor.Big
open Go.RowKit Go.Proofs.YtghhphndbbefjaaDoorW.PrintWords Go.Proofs.YtghhphndbbefjaaDoor.Math
set_option linter.unusedVariables false
set_option linter.unusedSimpArgs false

set_option maxHeartbeats 1000000 in
theorem subDigits_calls (xs ys : List Int) (vx vy : Value) (w : World) (hx : Digs w vx xs) (hy : Digs w vy ys) (ox : Okd xs) (oy : Okd ys) (hb : xs.length ≤ 1000000000) (hle : ys.length ≤ xs.length) (hv : val ys ≤ val xs) :
    Calls Tryd.prog 139 #[vx, vy] w fun e w' => ∃ v zs, e = .returned v ∧ Digs w' v zs ∧ Okd zs ∧ zs.length = xs.length ∧ val zs = val xs - val ys ∧ Below w.heap.size w w' := by
  obtain ⟨A, c, rfl⟩ := hx.shape
  obtain ⟨B, d, rfl⟩ := hy.shape
  have HX := Aside0.mk hx
  have HY := Aside0.mk hy
  have OX := Aside0.mk ox
  have OY := Aside0.mk oy
  have HV := Aside0.mk hv
  clear hx hy ox oy hv
  have hmk := fun W => run_make_row' (P := Tryd.prog) 71 118 (.int .u32 0) 4 Tryd.underlying71 info32 rfl .i64 .i64 xs.length (by omega) (by omega) W
  have hb2 : ys.length ≤ 1000000000 := by omega
  have D0 := Aside0.mk (Digs.made w xs.length (by omega))
  go_enter Tryd.func139, Tryd.ntmps139
  go_wp2
  go_loopw [6, 14] (fun c i wr => ∃ (k : Nat) (lent : Int) (ds : List Int), k ≤ xs.length ∧ c = .int .u64 lent ∧ i = .int .i64 k ∧ 0 ≤ lent ∧ lent ≤ 1 ∧
      Aside0 (SubRel xs ys k lent ds ∧ Digs wr (.slice (some ⟨w.heap.size, 0, none⟩) xs.length xs.length) (ds ++ List.replicate (xs.length - k) 0) ∧ Below w.heap.size w wr)) (fun _ i _ => xs.length - (intOf i).toNat)
  case atStart => exact ⟨0, 0, [], Nat.zero_le _, rfl, rfl, by omega, by omega, ⟨SubRel.start _ _, by simpa using D0.out, (Below.refl _ _).alloc (Nat.le_refl _) _⟩⟩
  case round =>
    obtain ⟨k, lent, ds, hk, rfl, rfl, hc0, hc1, hR⟩ := hrel
    by_cases hlt : k < xs.length
    · obtain ⟨g, c', he, hg⟩ := HX.out.form (by omega)
      injection he with he1 he2 he3
      subst he1 he3
      have hgw : g ≠ w.heap.size := by omega
      have hcx := ((HX.out.below hR.out.2.2).at_ hlt).1
      have hbx := getD_ok OX.out k
      obtain ⟨x, hxe⟩ : ∃ x, x = xs.getD k 0 := ⟨_, rfl⟩
      rw [← hxe] at hcx hbx
      have HXE := Aside0.mk hxe
      clear hxe
      obtain ⟨o, hoc, hof⟩ : ∃ o, wr.cell? ⟨w.heap.size, k, none⟩ = some (.int .u32 o) ∧ wr.frozen? ⟨w.heap.size, k, none⟩ = false := ⟨_, hR.out.2.1.at_ (k := k) (by simp [hR.out.1.len]; omega)⟩
      have fin : ∀ t, t = xs.getD k 0 - lent - ys.getD k 0 → SubRel xs ys (k + 1) (if t < 0 then 1 else 0) (ds ++ [t % 4294967296]) ∧ Digs (wr.setCell ⟨w.heap.size, k, none⟩ (.int .u32 (t % 4294967296))) (.slice (some ⟨w.heap.size, 0, none⟩) xs.length xs.length) ((ds ++ [t % 4294967296]) ++ List.replicate (xs.length - (k + 1)) 0) ∧ Below w.heap.size w (wr.setCell ⟨w.heap.size, k, none⟩ (.int .u32 (t % 4294967296))) := by
        intro t ht
        refine ⟨hR.out.1.step OX.out OY.out hlt ht, ?_, hR.out.2.2.setCell (Nat.le_refl _) _⟩
        have h1 := (hR.out.2.1.put (by simp [hR.out.1.len]; omega) k (t % 4294967296)).1
        have hl := hR.out.1.len
        rw [show xs.length - k = (xs.length - (k + 1)) + 1 from by omega, ← hl, set_fill] at h1
        rw [← hl]
        exact h1
      have FIN := Aside0.mk fin
      clear fin
      by_cases hlt2 : k < ys.length
      · obtain ⟨g2, d', he, hg2⟩ := HY.out.form (by omega)
        injection he with he1 he2 he3
        subst he1 he3
        have hcy := ((HY.out.below hR.out.2.2).at_ hlt2).1
        have hby := getD_ok OY.out k
        obtain ⟨y, hye⟩ : ∃ y, y = ys.getD k 0 := ⟨_, rfl⟩
        rw [← hye] at hcy hby
        have HYE := Aside0.mk hye
        clear hye
        go_wp2
        go_roundw
        case rel =>
          have hf := sub_form (x - lent - y) (by omega) (by omega)
          rw [sub_wrap, hf.1, hf.2]
          exact ⟨k + 1, _, _, by omega, rfl, by go_num, by split <;> omega, by split <;> omega, ⟨FIN.out (x - lent - y) (by rw [HXE.out, HYE.out])⟩⟩
        case measure => simp [intOf]; omega
      · go_wp2
        go_roundw
        case rel =>
          have hf := sub_form (x - lent) (by omega) (by omega)
          rw [hf.1, hf.2]
          exact ⟨k + 1, _, _, by omega, rfl, by go_num, by split <;> omega, by split <;> omega, ⟨FIN.out (x - lent) (by rw [HXE.out, List.getD_eq_getElem?_getD (l := ys), List.getElem?_eq_none (by omega)]; simp)⟩⟩
        case measure => simp [intOf]; omega
    · obtain rfl : k = xs.length := by omega
      go_wp2
      go_ret
      obtain ⟨h1, h2, h3⟩ := hR.out.1.done hle HV.out
      have h4 := hR.out.2.1
      rw [Nat.sub_self, List.replicate_zero, List.append_nil] at h4
      exact ⟨_, _, rfl, h4, h1, h2, h3, hR.out.2.2⟩

set_option maxHeartbeats 1000000 in
theorem cmpDigits_calls (xs ys : List Int) (vx vy : Value) (w : World) (hx : Digs w vx xs) (hy : Digs w vy ys) (ox : Okd xs) (oy : Okd ys) (tx : Tight xs) (ty : Tight ys) (hb : xs.length ≤ 1000000000) (hb2 : ys.length ≤ 1000000000) :
    Calls Tryd.prog 125 #[vx, vy] w fun e w' => e = .returned (.int .i64 (sgn (val xs - val ys))) ∧ Below w.heap.size w w' := by
  obtain ⟨A, c, rfl⟩ := hx.shape
  obtain ⟨B, d, rfl⟩ := hy.shape
  have HX := Aside0.mk hx
  have HY := Aside0.mk hy
  have OX := Aside0.mk ox
  have OY := Aside0.mk oy
  have fl : xs.length < ys.length → sgn (val xs - val ys) = -1 := fun h => by
    have := val_lt_of_length ox oy ty h
    simp only [sgn]
    rw [if_pos (by omega)]
  have fg : ys.length < xs.length → sgn (val xs - val ys) = 1 := fun h => by
    have := val_lt_of_length oy ox tx h
    simp only [sgn]
    rw [if_neg (by omega), if_neg (by omega)]
  have FL := Aside0.mk (And.intro fl fg)
  clear fl fg hx hy ox oy tx ty
  by_cases h1 : xs.length < ys.length
  · have hne : ((xs.length : Int) == (ys.length : Int)) = false := by simp; omega
    have hnq : ((xs.length : Int) != (ys.length : Int)) = true := by simp; omega
    go_enter Tryd.func125, Tryd.ntmps125
    go_wp2
    go_ret
    exact ⟨by rw [FL.out.1 h1]; rfl, Below.refl _ _⟩
  by_cases h2 : ys.length < xs.length
  · have hne : ((xs.length : Int) == (ys.length : Int)) = false := by simp; omega
    have hnq : ((xs.length : Int) != (ys.length : Int)) = true := by simp; omega
    go_enter Tryd.func125, Tryd.ntmps125
    go_wp2
    go_ret
    exact ⟨by rw [FL.out.2 h2]; rfl, Below.refl _ _⟩
  have hl : xs.length = ys.length := by omega
  have HL := Aside0.mk hl
  have hne : ((xs.length : Int) == (ys.length : Int)) = true := by simp; omega
  have hnq : ((xs.length : Int) != (ys.length : Int)) = false := by simp; omega
  clear hl
  go_enter Tryd.func125, Tryd.ntmps125
  go_wp2
  go_loopw [5] (fun i wr => ∃ (k : Nat), k ≤ xs.length ∧ i = .int .i64 ((k : Int) - 1) ∧
      Aside0 (xs.drop k = ys.drop k ∧ Below w.heap.size w wr)) (fun i _ => (intOf i + 1).toNat)
  case atStart => exact ⟨xs.length, Nat.le_refl _, rfl, ⟨by rw [List.drop_of_length_le (Nat.le_refl _), List.drop_of_length_le (by have := HL.out; omega)], Below.refl _ _⟩⟩
  case round =>
    obtain ⟨k, hk, rfl, hR⟩ := hrel
    cases k with
    | zero =>
      go_wp2
      go_ret
      have h0 := hR.out.1
      simp only [List.drop_zero] at h0
      exact ⟨by rw [h0, Int.sub_self]; rfl, hR.out.2⟩
    | succ k =>
      have ek : ((k + 1 : Nat) : Int) - 1 = (k : Int) := by omega
      rw [ek]
      clear ek
      obtain ⟨g, c', he, hg⟩ := HX.out.form (by omega)
      injection he with he1 he2 he3
      subst he1 he3
      obtain ⟨g2, d', he, hg2⟩ := HY.out.form (by have := HL.out; omega)
      injection he with he1 he2 he3
      subst he1 he3
      have hcx := ((HX.out.below hR.out.2).at_ (k := k) (by omega)).1
      have hcy := ((HY.out.below hR.out.2).at_ (k := k) (by have := HL.out; omega)).1
      have hbx := getD_ok OX.out k
      have hby := getD_ok OY.out k
      have fin : (xs.getD k 0 = ys.getD k 0 → xs.drop k = ys.drop k) ∧ (xs.getD k 0 < ys.getD k 0 → sgn (val xs - val ys) = -1) ∧ (ys.getD k 0 < xs.getD k 0 → sgn (val xs - val ys) = 1) := by
        have hl := HL.out
        refine ⟨fun h => drop_succ_getD hl (by omega) hR.out.1 h, fun h => ?_, fun h => ?_⟩
        · have := val_drop_lt OX.out OY.out hl (by omega) hR.out.1 h
          simp only [sgn]
          rw [if_pos (by omega)]
        · have := val_drop_lt OY.out OX.out hl.symm (by omega) hR.out.1.symm h
          simp only [sgn]
          rw [if_neg (by omega), if_neg (by omega)]
      obtain ⟨x, hxe⟩ : ∃ x, x = xs.getD k 0 := ⟨_, rfl⟩
      obtain ⟨y, hye⟩ : ∃ y, y = ys.getD k 0 := ⟨_, rfl⟩
      rw [← hxe] at hcx hbx fin
      rw [← hye] at hcy hby fin
      have FIN := Aside0.mk fin
      clear hxe hye fin
      have hk2 : k < ys.length := by have := HL.out; omega
      rcases Int.lt_trichotomy x y with hxy | hxy | hxy
      · have e1 : (x == y) = false := by simp; omega
        have e2 : (x != y) = true := by simp; omega
        go_wp2
        go_quiet (fail)
        go_wp2
        go_quiet (fail)
        go_wp2
        go_ret
        exact ⟨by rw [FIN.out.2.1 hxy]; rfl, by repeat (first | exact hR.out.2 | apply pw_below_drewN | apply below_drew)⟩
      · have e1 : (x == y) = true := by simp; omega
        have e2 : (x != y) = false := by simp; omega
        have HXY := Aside0.mk hxy
        clear hxy
        go_wp2
        go_quiet (fail)
        go_wp2
        go_roundw
        case rel => exact ⟨k, by omega, by go_num, ⟨FIN.out.1 HXY.out, by repeat (first | exact hR.out.2 | apply pw_below_drewN | apply below_drew)⟩⟩
        case measure => simp [intOf]
      · have e1 : (x == y) = false := by simp; omega
        have e2 : (x != y) = true := by simp; omega
        have e3 : ¬ x < y := by omega
        go_wp2
        go_quiet (fail)
        go_wp2
        go_quiet (fail)
        go_wp2
        go_ret
        exact ⟨by rw [FIN.out.2.2 hxy]; rfl, by repeat (first | exact hR.out.2 | apply pw_below_drewN | apply below_drew)⟩
end Go.Proofs.YtghhphndbbefjaaDoor.Big
