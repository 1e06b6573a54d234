/- The library's Len32, by the kit's proved contract, at this translation's numbers. No conditions but the argument's range. -/
import Derived.Shelf.Small.Bits
import Derived.Test.YtlkomiiijhphnaaDoorProg
import Derived.Test.YtlkomiiijhphnaaDoorG4
import Derived.WalkKit
import Derived.WalkLawsBesides
import Derived.Outline
import Derived.Test.YtlkomiiijhphnaaDoorMathM
import Derived.Deep.QuietTactic
import Derived.BigQuiet
import Derived.Deep.RegionHeld3
import Derived.Deep.AppendLies
/- Numbers of type bigInt in memory: what such a block holds, and how that outlives other writes. No conditions. -/
/- The walks of trimmed and put: digits without zeros at the end; a number gets its sign and digits. Conditions: the receiver is a bigInt, the digits are digits in memory. -/
/- The walk of addDigits: the sum of digits. Conditions: both are digits in memory. -/
/- The walks of subDigits and cmpDigits: the difference of digits, how digits compare. Conditions: both are digits in memory; for the difference the first are no less. -/
namespace Go.Proofs.YtlkomiiijhphnaaDoor.Shelf
open Go.Shelf
def lays128_ren : Go.Shelf.Ren := ⟨fun | 128 => 100 | n => n, fun | 51 => 85 | 3 => 3 | 4 => 4 | 46 => 64 | 5 => 5 | 9 => 9 | n => n, fun | n => n⟩
theorem lays128 : Go.Proofs.Lays.n128 Tryd.prog lays128_ren := {
 mixed := by kernel_rfl
 f128 := Tryd.func100.trans (congrArg some (by kernel_rfl))
 t3 := Tryd.underlying3
 a3 := Tryd.isAgg3
 z3 := Tryd.sizeOf3
 v3 := Tryd.zeroValue3
 t4 := Tryd.underlying4
 a4 := Tryd.isAgg4
 z4 := Tryd.sizeOf4
 v4 := Tryd.zeroValue4
 t5 := Tryd.underlying5
 a5 := Tryd.isAgg5
 z5 := Tryd.sizeOf5
 v5 := Tryd.zeroValue5
 t9 := Tryd.underlying9
 a9 := Tryd.isAgg9
 z9 := Tryd.sizeOf9
 v9 := Tryd.zeroValue9
 t46 := Tryd.underlying64
 a46 := Tryd.isAgg64
 z46 := Tryd.sizeOf64
 v46 := Tryd.zeroValue64
 t51 := Tryd.underlying85
 a51 := Tryd.isAgg85
 z51 := Tryd.sizeOf85
 v51 := Tryd.zeroValue85 }
theorem bits_Len32 (x : Int) (w : World) (h0 : 0 ≤ x) (h1 : x ≤ 4294967295) :
  Calls Tryd.prog 100 #[.int .u32 x] w fun e w' => e = .returned (.int .i64 (Lib.bitLen x.toNat)) ∧ w' = w := Any.bits_Len32 lays128 x w h0 h1
end Go.Proofs.YtlkomiiijhphnaaDoor.Shelf
namespace Go.Proofs.YtlkomiiijhphnaaDoor.Big
open Go.RowKit Go.Proofs.YtlkomiiijhphnaaDoorW.PrintWords
set_option linter.unusedVariables false
def Digs (w : World) (v : Value) (xs : List Int) : Prop := w.ownsRow 0 85 1 v xs.length (nums .u32 xs)
def BigAt (w : World) (b : Nat) (neg : Bool) (xs : List Int) : Prop :=
 ∃ v, w.heap[b]? = some (.cells #[.bool neg, v] 48 (0, 0)) ∧ Digs w v xs
def IsBig (w : World) (b : Nat) : Prop := ∃ n v, w.heap[b]? = some (.cells #[.bool n, v] 48 (0, 0))
theorem Digs.grown {w w1 : World} {v : Value} {xs : List Int} {z : Nat} (h : Digs w v xs) (hg : w.grownBy w1 (some z)) (hz : IsBig w z) : Digs w1 v xs := by
 obtain ⟨n, u, hz⟩ := hz
 refine own_move h (fun k hk => ?_)
 obtain ⟨cells, hc⟩ := own_typed h k hk
 refine hg.block k (own_lt h k hk) ?_
 rintro e
 injection e with e
 subst e
 rw [hc] at hz
 injection hz with hz
 injection hz with _ hz
 exact absurd hz (by decide)
theorem Digs.below {w w1 : World} {v : Value} {xs : List Int} (h : Digs w v xs) (hb : Below w.heap.size w w1) : Digs w1 v xs := pw_own_below h hb
theorem BigAt.is {w : World} {b : Nat} {neg : Bool} {xs : List Int} (h : BigAt w b neg xs) : IsBig w b := ⟨_, _, h.choose_spec.1⟩
theorem IsBig.lt {w : World} {b : Nat} (h : IsBig w b) : b < w.heap.size := by
 obtain ⟨_, _, h⟩ := h
 exact (Array.getElem?_eq_some_iff.1 h).1
theorem BigAt.lt {w : World} {b : Nat} {neg : Bool} {xs : List Int} (h : BigAt w b neg xs) : b < w.heap.size := h.is.lt
theorem BigAt.below {w w1 : World} {b : Nat} {neg : Bool} {xs : List Int} (h : BigAt w b neg xs) (hb : Below w.heap.size w w1) : BigAt w1 b neg xs := by
 obtain ⟨v, h1, h2⟩ := h
 exact ⟨v, (hb.block b (Array.getElem?_eq_some_iff.1 h1).1).trans h1, h2.below hb⟩
theorem BigAt.grown {w w1 : World} {b z : Nat} {neg : Bool} {xs : List Int} (h : BigAt w b neg xs) (hg : w.grownBy w1 (some z)) (hz : IsBig w z) (hne : b ≠ z) : BigAt w1 b neg xs := by
 obtain ⟨v, h1, h2⟩ := h
 refine ⟨v, (hg.block b (Array.getElem?_eq_some_iff.1 h1).1 ?_).trans h1, h2.grown hg hz⟩
 intro e
 injection e with e
 exact hne e
theorem IsBig.below {w w1 : World} {b : Nat} (h : IsBig w b) (hb : Below w.heap.size w w1) : IsBig w1 b := by
 have := h.lt
 obtain ⟨n, v, h⟩ := h
 exact ⟨n, v, (hb.block b this).trans h⟩
theorem IsBig.grown {w w1 : World} {b z : Nat} (h : IsBig w b) (hg : w.grownBy w1 (some z)) (hne : b ≠ z) : IsBig w1 b := by
 have hl := h.lt
 obtain ⟨n, v, h⟩ := h
 refine ⟨n, v, (hg.block b hl ?_).trans h⟩
 intro e
 injection e with e
 exact hne e
theorem grownBy_refl (w : World) (row : Option Nat) : w.grownBy w row := grown_of_below (Below.refl _ _) row
theorem below_grownBy {w w1 : World} (h : Below w.heap.size w w1) (row : Option Nat) : w.grownBy w1 row := grown_of_below h row
theorem below_of_grown {w w1 w2 : World} {z : Nat} (h : Below w.heap.size w w1) (hg : w1.grownBy w2 (some z)) (hz : w.heap.size ≤ z) : Below w.heap.size w w2 :=
 pw_below_grown h (some z) h.size hg (by intro k hk; injection hk with hk; omega)
end Go.Proofs.YtlkomiiijhphnaaDoor.Big
namespace Go.Proofs.YtlkomiiijhphnaaDoor.Big
open Go.RowKit Go.Proofs.YtlkomiiijhphnaaDoorW.PrintWords Go.Proofs.YtlkomiiijhphnaaDoor.Math
set_option linter.unusedVariables false
set_option linter.unusedSimpArgs false
theorem Digs.last {w : World} {A : Option Addr} {c n : Nat} {ys : List Int} {y : Int} (h : Digs w (.slice A n c) (ys ++ [y])) :
  n = ys.length + 1 ∧ ∃ g, A = some ⟨g, 0, none⟩ ∧ w.cell? ⟨g, ys.length, none⟩ = some (.int .u32 y) ∧ ys.length + 1 ≤ 9223372036854775807 ∧ ys.length + 1 ≤ c := by
 have h' : w.ownsRow 0 85 1 (.slice A n c) (ys ++ [y]).length (nums .u32 (ys ++ [y])) := h
 have hl : (ys ++ [y]).length = ys.length + 1 := by simp
 rw [hl] at h'
 obtain ⟨g, cap, he, _, _⟩ := h'.form (by omega)
 injection he with e1 e2 e3
 subst e1 e2 e3
 have hc := own_at h' (ys.length : Int) (by omega) (by omega)
 refine ⟨rfl, g, rfl, ?_, ?_⟩
 ·have := hc.1
  simpa [rd] using this
 ·rcases h'.2 with ⟨h1, _⟩ | ⟨g', cap', cur, h1, _, _, h2, h3, _⟩
  ·cases h1
  ·injection h1 with _ _ h1
   subst h1
   simp only [maxLen] at h3
   omega
theorem Digs.empty {w : World} {A : Option Addr} {c n : Nat} (h : Digs w (.slice A n c) []) : n = 0 := by
 rcases h.2 with ⟨h1, _⟩ | ⟨g', cap', cur, h1, _⟩
 ·injection h1
 ·injection h1
theorem Digs.cut {w : World} {g c : Nat} {ys : List Int} {y : Int} (h : Digs w (.slice (some ⟨g, 0, none⟩) (ys.length + 1) c) (ys ++ [y])) :
  Digs w (.slice (some ⟨g, 0, none⟩) ys.length c) ys := by
 rcases h.2 with ⟨h1, _⟩ | ⟨g', cap', cur, h1, h2, h3, h4, h5, h6, h7⟩
 ·cases h1
 ·injection h1 with e1 e2 e3
  injection e1 with e1
  injection e1 with e1
  subst e1 e3
  simp only [List.length_append, List.length_cons, List.length_nil, Nat.zero_add, Nat.mul_one] at h4 h7
  refine ⟨by simp [nums], .inr ⟨g, c, cur, rfl, h2, h3, by omega, h5, h6, ?_⟩⟩
  have := congrArg (List.take ys.length) h7
  rw [List.take_take, Nat.min_eq_left (by omega)] at this
  rw [Nat.mul_one, this]
  simp [nums]
theorem Digs.shape {w : World} {v : Value} {xs : List Int} (h : Digs w v xs) : ∃ A c, v = .slice A xs.length c := own_slice h
set_option maxHeartbeats 400000 in
theorem trimmed_calls (v : Value) (xs : List Int) (w : World) (hv : Digs w v xs) :
  Calls Tryd.prog 104 #[v] w fun e w' => ∃ v', e = .returned v' ∧ Digs w v' (trim xs) ∧ w' = w := by
 obtain ⟨A, c, rfl⟩ := hv.shape
 have HV := Aside0.mk hv
 clear hv
 go_enter Tryd.func104, Tryd.ntmps104
 go_wp2
 go_loop [0] (fun u => ∃ (A : Option Addr) (c n : Nat) (l : List Int), u = .slice A n c ∧ Aside0 (Digs w (.slice A n c) l ∧ trim l = trim xs)) (fun u => match u with | .slice _ n _ => n | _ => 0)
 case atStart => exact ⟨A, c, _, xs, rfl, ⟨HV.out, rfl⟩⟩
 case round =>
  obtain ⟨A, c, n, l, rfl, hl⟩ := hrel
  rcases snoc_cases l with rfl | ⟨ys, y, rfl⟩
  ·have hn := hl.out.1.empty
   subst hn
   go_wp2
   go_ret
   exact ⟨_, rfl, hl.out.2 ▸ hl.out.1, rfl⟩
  ·obtain ⟨rfl, g, rfl, hcell, hb, hb2⟩ := hl.out.1.last
   by_cases hy : y = 0
   ·subst hy
    go_wp2
    go_round
    case rel => exact ⟨_, _, _, ys, rfl, ⟨hl.out.1.cut, by rw [← hl.out.2, trim_snoc_zero]⟩⟩
    case measure => simp
   ·have hy' : (y == 0) = false := by simpa using hy
    go_wp2
    go_ret
    exact ⟨_, rfl, by rw [← hl.out.2, trim_snoc _ hy]; exact hl.out.1, rfl⟩
theorem big_cells {w : World} {z : Nat} {n : Bool} {v : Value} (h : w.heap[z]? = some (.cells #[.bool n, v] 48 (0, 0))) :
  w.cell? ⟨z, 0, none⟩ = some (.bool n) ∧ w.cell? ⟨z, 1, none⟩ = some v ∧ w.frozen? ⟨z, 0, none⟩ = false ∧ w.frozen? ⟨z, 1, none⟩ = false :=
 ⟨(blk_cell h 0).trans rfl, (blk_cell h 1).trans rfl, blk_frozen h 0, blk_frozen h 1⟩
theorem grownBy_store (w : World) (z i : Nat) (v : Value) : w.grownBy (w.setCell ⟨z, i, none⟩ v) (some z) :=
 ⟨rfl, rfl, rfl, by simp, fun k hk hne => Below.heap_setCell w _ v k (fun e => hne (by rw [e]))⟩
theorem put_end {w : World} {z : Nat} {n b : Bool} {v v' : Value} {xs : List Int} (h : w.heap[z]? = some (.cells #[.bool n, v] 48 (0, 0))) (hd : Digs w v' xs) :
  BigAt ((w.setCell ⟨z, 1, none⟩ v').setCell ⟨z, 0, none⟩ (.bool b)) z b xs ∧ w.grownBy ((w.setCell ⟨z, 1, none⟩ v').setCell ⟨z, 0, none⟩ (.bool b)) (some z) := by
 have hg : w.grownBy ((w.setCell ⟨z, 1, none⟩ v').setCell ⟨z, 0, none⟩ (.bool b)) (some z) := (grownBy_store w z 1 v').trans (grownBy_store _ z 0 _)
 refine ⟨⟨v', ?_, hd.grown hg ⟨_, _, h⟩⟩, hg⟩
 exact blk_put (cs := #[.bool n, v']) (blk_put (cs := #[.bool n, v]) h 1 _ rfl) 0 _ rfl
set_option maxHeartbeats 400000 in
theorem put_calls (z : Nat) (neg n0 : Bool) (v v0 : Value) (xs : List Int) (w : World) (hz : w.heap[z]? = some (.cells #[.bool n0, v0] 48 (0, 0))) (hv : Digs w v xs) :
  Calls Tryd.prog 83 #[.pointer (some ⟨z, 0, none⟩), .bool neg, v] w fun e w' => e = .returned (.pointer (some ⟨z, 0, none⟩)) ∧ BigAt w' z (neg && decide (trim xs ≠ [])) (trim xs) ∧ w.grownBy w' (some z) := by
 obtain ⟨A, c, rfl⟩ := hv.shape
 have HV := Aside0.mk hv
 obtain ⟨c0, c1, f0, f1⟩ := big_cells hz
 have HZ := Aside0.mk hz
 clear hv hz
 have post : ∀ (b : Bool) (v' : Value), Aside0 (Digs w v' (trim xs) ∧ b = (neg && decide (trim xs ≠ []))) → BigAt ((w.setCell ⟨z, 1, none⟩ v').setCell ⟨z, 0, none⟩ (.bool b)) z (neg && decide (trim xs ≠ [])) (trim xs) ∧ w.grownBy ((w.setCell ⟨z, 1, none⟩ v').setCell ⟨z, 0, none⟩ (.bool b)) (some z) := by
  rintro b v' ⟨h1, h2⟩
  have := put_end (b := b) HZ.out h1
  exact h2 ▸ this
 have PO := Aside0.mk post
 clear post
 go_enter Tryd.func83, Tryd.ntmps83
 go_wp2_with fail
 refine (trimmed_calls _ xs _ HV.out).mono ?_
 rintro e w' ⟨v', rfl, h2, rfl⟩
 obtain ⟨A', c', rfl⟩ := h2.shape
 have H2 := Aside0.mk h2
 clear h2
 cases neg
 ·go_wp2
  go_ret
  exact ⟨rfl, PO.out _ _ ⟨H2.out, rfl⟩⟩
 ·by_cases ht : trim xs = []
  ·have hp : decide ((0 : Int) < ((trim xs).length : Int)) = false := by rw [ht]; rfl
   have HT := Aside0.mk ht
   clear ht
   go_wp2
   go_ret
   exact ⟨rfl, PO.out _ _ ⟨H2.out, by simp [HT.out]⟩⟩
  ·have hl : 0 < (trim xs).length := List.length_pos_iff.2 ht
   go_wp2
   go_ret
   exact ⟨rfl, PO.out _ _ ⟨H2.out, by simp [ht]⟩⟩
end Go.Proofs.YtlkomiiijhphnaaDoor.Big
namespace Go.Proofs.YtlkomiiijhphnaaDoor.Big
open Go.RowKit Go.Proofs.YtlkomiiijhphnaaDoorW.PrintWords Go.Proofs.YtlkomiiijhphnaaDoor.Math
set_option linter.unusedVariables false
set_option linter.unusedSimpArgs false
theorem info32 : (Tryd.prog.info? 85).map (fun i => (i.zero, i.size, i.bytes)) = some (some (.int .u32 0), 1, 4) := by kernel_rfl
theorem Digs.form {w : World} {v : Value} {xs : List Int} (h : Digs w v xs) (hp : 0 < xs.length) : ∃ g c, v = .slice (some ⟨g, 0, none⟩) xs.length c ∧ g < w.heap.size := by
 obtain ⟨g, cap, he, _, hl⟩ := World.ownsRow.form h hp
 exact ⟨g, cap, he, hl⟩
theorem Digs.at_ {w : World} {g c n : Nat} {xs : List Int} (h : Digs w (.slice (some ⟨g, 0, none⟩) n c) xs) {k : Nat} (hk : k < xs.length) :
  w.cell? ⟨g, k, none⟩ = some (.int .u32 (xs.getD k 0)) ∧ w.frozen? ⟨g, k, none⟩ = false := by
 have h' : w.ownsRow 0 85 1 (.slice (some ⟨g, 0, none⟩) n c) xs.length (nums .u32 xs) := h
 have hn : n = xs.length := by
  obtain ⟨g', c', he, _⟩ := h.form (by omega)
  injection he
 subst hn
 have := own_at h' (k : Int) (by omega) (by omega)
 simpa [rd] using this
theorem Digs.put {w : World} {g c n : Nat} {xs : List Int} (h : Digs w (.slice (some ⟨g, 0, none⟩) n c) xs) (hn : n = xs.length) (k : Nat) (x : Int) :
  Digs (w.setCell ⟨g, k, none⟩ (.int .u32 x)) (.slice (some ⟨g, 0, none⟩) n c) (xs.set k x) ∧ w.grownBy (w.setCell ⟨g, k, none⟩ (.int .u32 x)) (some g) := by
 subst hn
 have h' : w.ownsRow 0 85 1 (.slice (some ⟨g, 0, none⟩) xs.length c) xs.length (nums .u32 xs) := h
 have hs := h'.stored k (.int .u32 x)
 refine ⟨?_, hs.2⟩
 have h2 := hs.1
 simp only [Digs, List.length_set]
 rw [show nums .u32 (xs.set k x) = (nums .u32 xs).set k (.int .u32 x) from by simp [nums, List.map_set]]
 exact h2
theorem Digs.made (w : World) (m : Nat) (hm : m ≤ 9223372036854775807) :
  Digs (w.alloc (.cells (madeCells #[.int .u32 0] m) 85)) (.slice (some ⟨w.heap.size, 0, none⟩) m m) (List.replicate m 0) := by
 have := own_made w 0 85 .u32 m (Nat.zero_le _) hm
 simpa [Digs] using this
set_option maxHeartbeats 1000000 in
theorem add_main (sw : Bool) (xs ys : List Int) (vx vy : Value) (w : World) (hle : ys.length ≤ xs.length) (hsw : sw = true → ys.length < xs.length)
  (hx : Digs w vx xs) (hy : Digs w vy ys) (ox : Okd xs) (oy : Okd ys) (hb : xs.length ≤ 1000000000) :
  Calls Tryd.prog 105 (if sw then #[vy, vx] else #[vx, vy]) w fun e w' => ∃ v zs, e = .returned v ∧ Digs w' v zs ∧ Okd zs ∧ zs.length = xs.length + 1 ∧ val zs = val xs + val ys ∧ Below w.heap.size w w' := by
 obtain ⟨A, c, rfl⟩ := hx.shape
 obtain ⟨B, d, rfl⟩ := hy.shape
 have HX := Aside0.mk hx
 have HY := Aside0.mk hy
 have OX := Aside0.mk ox
 have OY := Aside0.mk oy
 clear hx hy ox oy
 have hmk := fun W => run_make_row' (P := Tryd.prog) 46 85 (.int .u32 0) 4 Tryd.underlying46 info32 rfl .i64 .i64 (xs.length + 1) (by omega) (by omega) W
 have ec : ((xs.length + 1 : Nat) : Int) = (xs.length : Int) + 1 := by omega
 rw [ec] at hmk
 clear ec
 have hsw' : (sw = true → ys.length < xs.length) ∧ True := ⟨hsw, trivial⟩
 obtain ⟨HSW, -⟩ := hsw'
 have hb2 : ys.length ≤ 1000000000 := by omega
 have D0 := Aside0.mk (Digs.made w (xs.length + 1) (by omega))
 cases sw
 ·have hlt : ¬ (xs.length < ys.length) := by omega
  clear hsw HSW
  simp only [Bool.false_eq_true, if_false]
  go_enter Tryd.func105, Tryd.ntmps105
  go_wp2
  go_loopw [6, 21] (fun c i wr => ∃ (k : Nat) (carry : Int) (ds : List Int), k ≤ xs.length ∧ c = .int .u64 carry ∧ i = .int .i64 k ∧ 0 ≤ carry ∧ carry ≤ 1 ∧
    Aside0 (AddRel xs ys k carry ds ∧ Digs wr (.slice (some ⟨w.heap.size, 0, none⟩) (xs.length + 1) (xs.length + 1)) (ds ++ List.replicate (xs.length + 1 - k) 0) ∧ Below w.heap.size w wr)) (fun _ i _ => xs.length - (intOf i).toNat)
  case atStart => exact ⟨0, 0, [], Nat.zero_le _, rfl, rfl, by omega, by omega, ⟨AddRel.start _ _, by simpa using D0.out, (Below.refl _ _).alloc (Nat.le_refl _) _⟩⟩
  case round =>
   obtain ⟨k, carry, ds, hk, rfl, rfl, hc0, hc1, hR⟩ := hrel
   by_cases hlt : k < xs.length
   ·obtain ⟨g, c', he, hg⟩ := HX.out.form (by omega)
    injection he with he1 he2 he3
    subst he1 he3
    have hgw : g ≠ w.heap.size := by omega
    have hcx := ((HX.out.below hR.out.2.2).at_ hlt).1
    have hbx := getD_ok OX.out k
    obtain ⟨x, hxe⟩ : ∃ x, x = xs.getD k 0 := ⟨_, rfl⟩
    rw [← hxe] at hcx hbx
    have HXE := Aside0.mk hxe
    clear hxe
    obtain ⟨o, hoc, hof⟩ : ∃ o, wr.cell? ⟨w.heap.size, k, none⟩ = some (.int .u32 o) ∧ wr.frozen? ⟨w.heap.size, k, none⟩ = false := ⟨_, hR.out.2.1.at_ (k := k) (by simp [hR.out.1.len]; omega)⟩
    have fin : ∀ t, t = carry + xs.getD k 0 + ys.getD k 0 → AddRel xs ys (k + 1) (t / 4294967296) (ds ++ [t % 4294967296]) ∧ Digs (wr.setCell ⟨w.heap.size, k, none⟩ (.int .u32 (t % 4294967296))) (.slice (some ⟨w.heap.size, 0, none⟩) (xs.length + 1) (xs.length + 1)) ((ds ++ [t % 4294967296]) ++ List.replicate (xs.length + 1 - (k + 1)) 0) ∧ Below w.heap.size w (wr.setCell ⟨w.heap.size, k, none⟩ (.int .u32 (t % 4294967296))) := by
     intro t ht
     refine ⟨hR.out.1.step OX.out OY.out hlt ht, ?_, hR.out.2.2.setCell (Nat.le_refl _) _⟩
     have h1 := (hR.out.2.1.put (by simp [hR.out.1.len]; omega) k (t % 4294967296)).1
     have hl := hR.out.1.len
     rw [show xs.length + 1 - k = (xs.length + 1 - (k + 1)) + 1 from by omega, ← hl, set_fill] at h1
     rw [← hl]
     exact h1
    have FIN := Aside0.mk fin
    clear fin
    by_cases hlt2 : k < ys.length
    ·obtain ⟨g2, d', he, hg2⟩ := HY.out.form (by omega)
     injection he with he1 he2 he3
     subst he1 he3
     have hcy := ((HY.out.below hR.out.2.2).at_ hlt2).1
     have hby := getD_ok OY.out k
     obtain ⟨y, hye⟩ : ∃ y, y = ys.getD k 0 := ⟨_, rfl⟩
     rw [← hye] at hcy hby
     have HYE := Aside0.mk hye
     clear hye
     go_wp2
     go_roundw
     case rel => exact ⟨k + 1, _, _, by omega, rfl, by go_num, by omega, by omega, ⟨FIN.out (carry + x + y) (by rw [HXE.out, HYE.out])⟩⟩
     case measure => simp [intOf]; omega
    ·go_wp2
     go_roundw
     case rel => exact ⟨k + 1, _, _, by omega, rfl, by go_num, by omega, by omega, ⟨FIN.out (carry + x) (by rw [HXE.out, List.getD_eq_getElem?_getD (l := ys), List.getElem?_eq_none (by omega)]; simp)⟩⟩
     case measure => simp [intOf]; omega
   ·obtain rfl : k = xs.length := by omega
    obtain ⟨o, hoc, hof⟩ : ∃ o, wr.cell? ⟨w.heap.size, xs.length, none⟩ = some (.int .u32 o) ∧ wr.frozen? ⟨w.heap.size, xs.length, none⟩ = false := ⟨_, hR.out.2.1.at_ (k := xs.length) (by simp [hR.out.1.len])⟩
    go_wp2
    go_ret
    obtain ⟨h1, h2, h3⟩ := hR.out.1.done hle
    refine ⟨_, _, rfl, ?_, h1, h2, h3, hR.out.2.2.setCell (Nat.le_refl _) _⟩
    have h4 := (hR.out.2.1.put (by simp [hR.out.1.len]) xs.length carry).1
    have hl := hR.out.1.len
    rw [show xs.length + 1 - xs.length = 0 + 1 from by omega] at h4
    have h5 := set_fill ds 0 carry
    rw [hl] at h5
    rw [h5, List.replicate_zero, List.append_nil] at h4
    exact h4
 ·have hlt : ys.length < xs.length := HSW rfl
  clear hsw HSW
  simp only [if_true]
  go_enter Tryd.func105, Tryd.ntmps105
  go_wp2
  go_loopw [6, 21] (fun c i wr => ∃ (k : Nat) (carry : Int) (ds : List Int), k ≤ xs.length ∧ c = .int .u64 carry ∧ i = .int .i64 k ∧ 0 ≤ carry ∧ carry ≤ 1 ∧
    Aside0 (AddRel xs ys k carry ds ∧ Digs wr (.slice (some ⟨w.heap.size, 0, none⟩) (xs.length + 1) (xs.length + 1)) (ds ++ List.replicate (xs.length + 1 - k) 0) ∧ Below w.heap.size w wr)) (fun _ i _ => xs.length - (intOf i).toNat)
  case atStart => exact ⟨0, 0, [], Nat.zero_le _, rfl, rfl, by omega, by omega, ⟨AddRel.start _ _, by simpa using D0.out, (Below.refl _ _).alloc (Nat.le_refl _) _⟩⟩
  case round =>
   obtain ⟨k, carry, ds, hk, rfl, rfl, hc0, hc1, hR⟩ := hrel
   by_cases hlt : k < xs.length
   ·obtain ⟨g, c', he, hg⟩ := HX.out.form (by omega)
    injection he with he1 he2 he3
    subst he1 he3
    have hgw : g ≠ w.heap.size := by omega
    have hcx := ((HX.out.below hR.out.2.2).at_ hlt).1
    have hbx := getD_ok OX.out k
    obtain ⟨x, hxe⟩ : ∃ x, x = xs.getD k 0 := ⟨_, rfl⟩
    rw [← hxe] at hcx hbx
    have HXE := Aside0.mk hxe
    clear hxe
    obtain ⟨o, hoc, hof⟩ : ∃ o, wr.cell? ⟨w.heap.size, k, none⟩ = some (.int .u32 o) ∧ wr.frozen? ⟨w.heap.size, k, none⟩ = false := ⟨_, hR.out.2.1.at_ (k := k) (by simp [hR.out.1.len]; omega)⟩
    have fin : ∀ t, t = carry + xs.getD k 0 + ys.getD k 0 → AddRel xs ys (k + 1) (t / 4294967296) (ds ++ [t % 4294967296]) ∧ Digs (wr.setCell ⟨w.heap.size, k, none⟩ (.int .u32 (t % 4294967296))) (.slice (some ⟨w.heap.size, 0, none⟩) (xs.length + 1) (xs.length + 1)) ((ds ++ [t % 4294967296]) ++ List.replicate (xs.length + 1 - (k + 1)) 0) ∧ Below w.heap.size w (wr.setCell ⟨w.heap.size, k, none⟩ (.int .u32 (t % 4294967296))) := by
     intro t ht
     refine ⟨hR.out.1.step OX.out OY.out hlt ht, ?_, hR.out.2.2.setCell (Nat.le_refl _) _⟩
     have h1 := (hR.out.2.1.put (by simp [hR.out.1.len]; omega) k (t % 4294967296)).1
     have hl := hR.out.1.len
     rw [show xs.length + 1 - k = (xs.length + 1 - (k + 1)) + 1 from by omega, ← hl, set_fill] at h1
     rw [← hl]
     exact h1
    have FIN := Aside0.mk fin
    clear fin
    by_cases hlt2 : k < ys.length
    ·obtain ⟨g2, d', he, hg2⟩ := HY.out.form (by omega)
     injection he with he1 he2 he3
     subst he1 he3
     have hcy := ((HY.out.below hR.out.2.2).at_ hlt2).1
     have hby := getD_ok OY.out k
     obtain ⟨y, hye⟩ : ∃ y, y = ys.getD k 0 := ⟨_, rfl⟩
     rw [← hye] at hcy hby
     have HYE := Aside0.mk hye
     clear hye
     go_wp2
     go_roundw
     case rel => exact ⟨k + 1, _, _, by omega, rfl, by go_num, by omega, by omega, ⟨FIN.out (carry + x + y) (by rw [HXE.out, HYE.out])⟩⟩
     case measure => simp [intOf]; omega
    ·go_wp2
     go_roundw
     case rel => exact ⟨k + 1, _, _, by omega, rfl, by go_num, by omega, by omega, ⟨FIN.out (carry + x) (by rw [HXE.out, List.getD_eq_getElem?_getD (l := ys), List.getElem?_eq_none (by omega)]; simp)⟩⟩
     case measure => simp [intOf]; omega
   ·obtain rfl : k = xs.length := by omega
    obtain ⟨o, hoc, hof⟩ : ∃ o, wr.cell? ⟨w.heap.size, xs.length, none⟩ = some (.int .u32 o) ∧ wr.frozen? ⟨w.heap.size, xs.length, none⟩ = false := ⟨_, hR.out.2.1.at_ (k := xs.length) (by simp [hR.out.1.len])⟩
    go_wp2
    go_ret
    obtain ⟨h1, h2, h3⟩ := hR.out.1.done hle
    refine ⟨_, _, rfl, ?_, h1, h2, h3, hR.out.2.2.setCell (Nat.le_refl _) _⟩
    have h4 := (hR.out.2.1.put (by simp [hR.out.1.len]) xs.length carry).1
    have hl := hR.out.1.len
    rw [show xs.length + 1 - xs.length = 0 + 1 from by omega] at h4
    have h5 := set_fill ds 0 carry
    rw [hl] at h5
    rw [h5, List.replicate_zero, List.append_nil] at h4
    exact h4
theorem addDigits_calls (xs ys : List Int) (vx vy : Value) (w : World) (hx : Digs w vx xs) (hy : Digs w vy ys) (ox : Okd xs) (oy : Okd ys) (hb : xs.length ≤ 1000000000) (hb2 : ys.length ≤ 1000000000) :
  Calls Tryd.prog 105 #[vx, vy] w fun e w' => ∃ v zs, e = .returned v ∧ Digs w' v zs ∧ Okd zs ∧ zs.length = max xs.length ys.length + 1 ∧ val zs = val xs + val ys ∧ Below w.heap.size w w' := by
 by_cases h : ys.length ≤ xs.length
 ·refine (add_main false xs ys vx vy w h (fun h => by cases h) hx hy ox oy hb).mono ?_
  rintro e w' ⟨v, zs, h1, h2, h3, h4, h5, h6⟩
  exact ⟨v, zs, h1, h2, h3, by omega, h5, h6⟩
 ·refine (add_main true ys xs vy vx w (by omega) (fun _ => by omega) hy hx oy ox hb2).mono ?_
  rintro e w' ⟨v, zs, h1, h2, h3, h4, h5, h6⟩
  exact ⟨v, zs, h1, h2, h3, by omega, by omega, h6⟩
end Go.Proofs.YtlkomiiijhphnaaDoor.Big
namespace Go.Proofs.YtlkomiiijhphnaaDoor.Big
open Go.RowKit Go.Proofs.YtlkomiiijhphnaaDoorW.PrintWords Go.Proofs.YtlkomiiijhphnaaDoor.Math
set_option linter.unusedVariables false
set_option linter.unusedSimpArgs false
set_option maxHeartbeats 1000000 in
theorem subDigits_calls (xs ys : List Int) (vx vy : Value) (w : World) (hx : Digs w vx xs) (hy : Digs w vy ys) (ox : Okd xs) (oy : Okd ys) (hb : xs.length ≤ 1000000000) (hle : ys.length ≤ xs.length) (hv : val ys ≤ val xs) :
  Calls Tryd.prog 106 #[vx, vy] w fun e w' => ∃ v zs, e = .returned v ∧ Digs w' v zs ∧ Okd zs ∧ zs.length = xs.length ∧ val zs = val xs - val ys ∧ Below w.heap.size w w' := by
 obtain ⟨A, c, rfl⟩ := hx.shape
 obtain ⟨B, d, rfl⟩ := hy.shape
 have HX := Aside0.mk hx
 have HY := Aside0.mk hy
 have OX := Aside0.mk ox
 have OY := Aside0.mk oy
 have HV := Aside0.mk hv
 clear hx hy ox oy hv
 have hmk := fun W => run_make_row' (P := Tryd.prog) 46 85 (.int .u32 0) 4 Tryd.underlying46 info32 rfl .i64 .i64 xs.length (by omega) (by omega) W
 have hb2 : ys.length ≤ 1000000000 := by omega
 have D0 := Aside0.mk (Digs.made w xs.length (by omega))
 go_enter Tryd.func106, Tryd.ntmps106
 go_wp2
 go_loopw [6, 14] (fun c i wr => ∃ (k : Nat) (lent : Int) (ds : List Int), k ≤ xs.length ∧ c = .int .u64 lent ∧ i = .int .i64 k ∧ 0 ≤ lent ∧ lent ≤ 1 ∧
   Aside0 (SubRel xs ys k lent ds ∧ Digs wr (.slice (some ⟨w.heap.size, 0, none⟩) xs.length xs.length) (ds ++ List.replicate (xs.length - k) 0) ∧ Below w.heap.size w wr)) (fun _ i _ => xs.length - (intOf i).toNat)
 case atStart => exact ⟨0, 0, [], Nat.zero_le _, rfl, rfl, by omega, by omega, ⟨SubRel.start _ _, by simpa using D0.out, (Below.refl _ _).alloc (Nat.le_refl _) _⟩⟩
 case round =>
  obtain ⟨k, lent, ds, hk, rfl, rfl, hc0, hc1, hR⟩ := hrel
  by_cases hlt : k < xs.length
  ·obtain ⟨g, c', he, hg⟩ := HX.out.form (by omega)
   injection he with he1 he2 he3
   subst he1 he3
   have hgw : g ≠ w.heap.size := by omega
   have hcx := ((HX.out.below hR.out.2.2).at_ hlt).1
   have hbx := getD_ok OX.out k
   obtain ⟨x, hxe⟩ : ∃ x, x = xs.getD k 0 := ⟨_, rfl⟩
   rw [← hxe] at hcx hbx
   have HXE := Aside0.mk hxe
   clear hxe
   obtain ⟨o, hoc, hof⟩ : ∃ o, wr.cell? ⟨w.heap.size, k, none⟩ = some (.int .u32 o) ∧ wr.frozen? ⟨w.heap.size, k, none⟩ = false := ⟨_, hR.out.2.1.at_ (k := k) (by simp [hR.out.1.len]; omega)⟩
   have fin : ∀ t, t = xs.getD k 0 - lent - ys.getD k 0 → SubRel xs ys (k + 1) (if t < 0 then 1 else 0) (ds ++ [t % 4294967296]) ∧ Digs (wr.setCell ⟨w.heap.size, k, none⟩ (.int .u32 (t % 4294967296))) (.slice (some ⟨w.heap.size, 0, none⟩) xs.length xs.length) ((ds ++ [t % 4294967296]) ++ List.replicate (xs.length - (k + 1)) 0) ∧ Below w.heap.size w (wr.setCell ⟨w.heap.size, k, none⟩ (.int .u32 (t % 4294967296))) := by
    intro t ht
    refine ⟨hR.out.1.step OX.out OY.out hlt ht, ?_, hR.out.2.2.setCell (Nat.le_refl _) _⟩
    have h1 := (hR.out.2.1.put (by simp [hR.out.1.len]; omega) k (t % 4294967296)).1
    have hl := hR.out.1.len
    rw [show xs.length - k = (xs.length - (k + 1)) + 1 from by omega, ← hl, set_fill] at h1
    rw [← hl]
    exact h1
   have FIN := Aside0.mk fin
   clear fin
   by_cases hlt2 : k < ys.length
   ·obtain ⟨g2, d', he, hg2⟩ := HY.out.form (by omega)
    injection he with he1 he2 he3
    subst he1 he3
    have hcy := ((HY.out.below hR.out.2.2).at_ hlt2).1
    have hby := getD_ok OY.out k
    obtain ⟨y, hye⟩ : ∃ y, y = ys.getD k 0 := ⟨_, rfl⟩
    rw [← hye] at hcy hby
    have HYE := Aside0.mk hye
    clear hye
    go_wp2
    go_roundw
    case rel =>
     have hf := sub_form (x - lent - y) (by omega) (by omega)
     rw [sub_wrap, hf.1, hf.2]
     exact ⟨k + 1, _, _, by omega, rfl, by go_num, by split <;> omega, by split <;> omega, ⟨FIN.out (x - lent - y) (by rw [HXE.out, HYE.out])⟩⟩
    case measure => simp [intOf]; omega
   ·go_wp2
    go_roundw
    case rel =>
     have hf := sub_form (x - lent) (by omega) (by omega)
     rw [hf.1, hf.2]
     exact ⟨k + 1, _, _, by omega, rfl, by go_num, by split <;> omega, by split <;> omega, ⟨FIN.out (x - lent) (by rw [HXE.out, List.getD_eq_getElem?_getD (l := ys), List.getElem?_eq_none (by omega)]; simp)⟩⟩
    case measure => simp [intOf]; omega
  ·obtain rfl : k = xs.length := by omega
   go_wp2
   go_ret
   obtain ⟨h1, h2, h3⟩ := hR.out.1.done hle HV.out
   have h4 := hR.out.2.1
   rw [Nat.sub_self, List.replicate_zero, List.append_nil] at h4
   exact ⟨_, _, rfl, h4, h1, h2, h3, hR.out.2.2⟩
set_option maxHeartbeats 1000000 in
theorem cmpDigits_calls (xs ys : List Int) (vx vy : Value) (w : World) (hx : Digs w vx xs) (hy : Digs w vy ys) (ox : Okd xs) (oy : Okd ys) (tx : Tight xs) (ty : Tight ys) (hb : xs.length ≤ 1000000000) (hb2 : ys.length ≤ 1000000000) :
  Calls Tryd.prog 91 #[vx, vy] w fun e w' => e = .returned (.int .i64 (sgn (val xs - val ys))) ∧ Below w.heap.size w w' := by
 obtain ⟨A, c, rfl⟩ := hx.shape
 obtain ⟨B, d, rfl⟩ := hy.shape
 have HX := Aside0.mk hx
 have HY := Aside0.mk hy
 have OX := Aside0.mk ox
 have OY := Aside0.mk oy
 have fl : xs.length < ys.length → sgn (val xs - val ys) = -1 := fun h => by
  have := val_lt_of_length ox oy ty h
  simp only [sgn]
  rw [if_pos (by omega)]
 have fg : ys.length < xs.length → sgn (val xs - val ys) = 1 := fun h => by
  have := val_lt_of_length oy ox tx h
  simp only [sgn]
  rw [if_neg (by omega), if_neg (by omega)]
 have FL := Aside0.mk (And.intro fl fg)
 clear fl fg hx hy ox oy tx ty
 by_cases h1 : xs.length < ys.length
 ·have hne : ((xs.length : Int) == (ys.length : Int)) = false := by simp; omega
  have hnq : ((xs.length : Int) != (ys.length : Int)) = true := by simp; omega
  go_enter Tryd.func91, Tryd.ntmps91
  go_wp2
  go_ret
  exact ⟨by rw [FL.out.1 h1]; rfl, Below.refl _ _⟩
 by_cases h2 : ys.length < xs.length
 ·have hne : ((xs.length : Int) == (ys.length : Int)) = false := by simp; omega
  have hnq : ((xs.length : Int) != (ys.length : Int)) = true := by simp; omega
  go_enter Tryd.func91, Tryd.ntmps91
  go_wp2
  go_ret
  exact ⟨by rw [FL.out.2 h2]; rfl, Below.refl _ _⟩
 have hl : xs.length = ys.length := by omega
 have HL := Aside0.mk hl
 have hne : ((xs.length : Int) == (ys.length : Int)) = true := by simp; omega
 have hnq : ((xs.length : Int) != (ys.length : Int)) = false := by simp; omega
 clear hl
 go_enter Tryd.func91, Tryd.ntmps91
 go_wp2
 go_loopw [5] (fun i wr => ∃ (k : Nat), k ≤ xs.length ∧ i = .int .i64 ((k : Int) - 1) ∧
   Aside0 (xs.drop k = ys.drop k ∧ Below w.heap.size w wr)) (fun i _ => (intOf i + 1).toNat)
 case atStart => exact ⟨xs.length, Nat.le_refl _, rfl, ⟨by rw [List.drop_of_length_le (Nat.le_refl _), List.drop_of_length_le (by have := HL.out; omega)], Below.refl _ _⟩⟩
 case round =>
  obtain ⟨k, hk, rfl, hR⟩ := hrel
  cases k with
  | zero =>
   go_wp2
   go_ret
   have h0 := hR.out.1
   simp only [List.drop_zero] at h0
   exact ⟨by rw [h0, Int.sub_self]; rfl, hR.out.2⟩
  | succ k =>
   have ek : ((k + 1 : Nat) : Int) - 1 = (k : Int) := by omega
   rw [ek]
   clear ek
   obtain ⟨g, c', he, hg⟩ := HX.out.form (by omega)
   injection he with he1 he2 he3
   subst he1 he3
   obtain ⟨g2, d', he, hg2⟩ := HY.out.form (by have := HL.out; omega)
   injection he with he1 he2 he3
   subst he1 he3
   have hcx := ((HX.out.below hR.out.2).at_ (k := k) (by omega)).1
   have hcy := ((HY.out.below hR.out.2).at_ (k := k) (by have := HL.out; omega)).1
   have hbx := getD_ok OX.out k
   have hby := getD_ok OY.out k
   have fin : (xs.getD k 0 = ys.getD k 0 → xs.drop k = ys.drop k) ∧ (xs.getD k 0 < ys.getD k 0 → sgn (val xs - val ys) = -1) ∧ (ys.getD k 0 < xs.getD k 0 → sgn (val xs - val ys) = 1) := by
    have hl := HL.out
    refine ⟨fun h => drop_succ_getD hl (by omega) hR.out.1 h, fun h => ?_, fun h => ?_⟩
    ·have := val_drop_lt OX.out OY.out hl (by omega) hR.out.1 h
     simp only [sgn]
     rw [if_pos (by omega)]
    ·have := val_drop_lt OY.out OX.out hl.symm (by omega) hR.out.1.symm h
     simp only [sgn]
     rw [if_neg (by omega), if_neg (by omega)]
   obtain ⟨x, hxe⟩ : ∃ x, x = xs.getD k 0 := ⟨_, rfl⟩
   obtain ⟨y, hye⟩ : ∃ y, y = ys.getD k 0 := ⟨_, rfl⟩
   rw [← hxe] at hcx hbx fin
   rw [← hye] at hcy hby fin
   have FIN := Aside0.mk fin
   clear hxe hye fin
   have hk2 : k < ys.length := by have := HL.out; omega
   rcases Int.lt_trichotomy x y with hxy | hxy | hxy
   ·have e1 : (x == y) = false := by simp; omega
    have e2 : (x != y) = true := by simp; omega
    go_wp2
    go_quiet (fail)
    go_wp2
    go_quiet (fail)
    go_wp2
    go_ret
    exact ⟨by rw [FIN.out.2.1 hxy]; rfl, by repeat (first | exact hR.out.2 | apply pw_below_drewN | apply below_drew)⟩
   ·have e1 : (x == y) = true := by simp; omega
    have e2 : (x != y) = false := by simp; omega
    have HXY := Aside0.mk hxy
    clear hxy
    go_wp2
    go_quiet (fail)
    go_wp2
    go_roundw
    case rel => exact ⟨k, by omega, by go_num, ⟨FIN.out.1 HXY.out, by repeat (first | exact hR.out.2 | apply pw_below_drewN | apply below_drew)⟩⟩
    case measure => simp [intOf]
   ·have e1 : (x == y) = false := by simp; omega
    have e2 : (x != y) = true := by simp; omega
    have e3 : ¬ x < y := by omega
    go_wp2
    go_quiet (fail)
    go_wp2
    go_quiet (fail)
    go_wp2
    go_ret
    exact ⟨by rw [FIN.out.2.2 hxy]; rfl, by repeat (first | exact hR.out.2 | apply pw_below_drewN | apply below_drew)⟩
end Go.Proofs.YtlkomiiijhphnaaDoor.Big
/- append([]uint32{}, x.mag...): a copy of digits; the walks of Abs, Set and Neg. Conditions: the pointers lead to bigInts, of at most 1000000 digits. -/
namespace Go.Proofs.YtlkomiiijhphnaaDoor.Big
open Go.RowKit Go.Proofs.YtlkomiiijhphnaaDoorW.PrintWords Go.Proofs.YtlkomiiijhphnaaDoor.Math
set_option linter.unusedVariables false
set_option linter.unusedSimpArgs false
def bval (neg : Bool) (xs : List Int) : Int := if neg then -val xs else val xs
def Big (w : World) (b : Nat) (n : Int) (m : Nat) : Prop :=
 ∃ neg xs, BigAt w b neg xs ∧ Okd xs ∧ Tight xs ∧ (neg = true → xs ≠ []) ∧ xs.length ≤ m ∧ n = bval neg xs
theorem Big.is {w : World} {b : Nat} {n : Int} {m : Nat} (h : Big w b n m) : IsBig w b := by
 obtain ⟨_, _, h, _⟩ := h
 exact h.is
theorem Big.lt {w : World} {b : Nat} {n : Int} {m : Nat} (h : Big w b n m) : b < w.heap.size := h.is.lt
theorem Big.below {w w1 : World} {b : Nat} {n : Int} {m : Nat} (h : Big w b n m) (hb : Below w.heap.size w w1) : Big w1 b n m := by
 obtain ⟨neg, xs, h, r⟩ := h
 exact ⟨neg, xs, h.below hb, r⟩
theorem Big.grown {w w1 : World} {b z : Nat} {n : Int} {m : Nat} (h : Big w b n m) (hg : w.grownBy w1 (some z)) (hz : IsBig w z) (hne : b ≠ z) : Big w1 b n m := by
 obtain ⟨neg, xs, h, r⟩ := h
 exact ⟨neg, xs, h.grown hg hz hne, r⟩
theorem Big.more {w : World} {b : Nat} {n : Int} {m m' : Nat} (h : Big w b n m) (hm : m ≤ m') : Big w b n m' := by
 obtain ⟨neg, xs, h1, h2, h3, h4, h5, h6⟩ := h
 exact ⟨neg, xs, h1, h2, h3, h4, by omega, h6⟩
theorem put_big (z : Nat) (neg : Bool) (v : Value) (xs : List Int) (w : World) (hz : IsBig w z) (hv : Digs w v xs) (ok : Okd xs) :
  Calls Tryd.prog 83 #[.pointer (some ⟨z, 0, none⟩), .bool neg, v] w fun e w' => e = .returned (.pointer (some ⟨z, 0, none⟩)) ∧ Big w' z (bval neg xs) xs.length ∧ w.grownBy w' (some z) := by
 obtain ⟨n0, v0, hz⟩ := hz
 refine (put_calls z neg n0 v v0 xs w hz hv).mono ?_
 rintro e w' ⟨h1, h2, h3⟩
 refine ⟨h1, ⟨_, _, h2, okd_trim ok, trim_tight xs, ?_, trim_length xs, ?_⟩, h3⟩
 ·intro h
  simpa using (Bool.and_eq_true_iff.1 h).2
 ·by_cases e : trim xs = []
  ·have : val xs = 0 := by rw [← val_trim, e]; rfl
   cases neg <;> simp [bval, e, this, val]
  ·cases neg <;> simp [bval, e, val_trim]
theorem negU {n : Int} (h1 : -9223372036854775808 ≤ n) (h2 : n < 0) : IntKind.u64.wrap (-IntKind.u64.wrap n) = -n := by
 rw [wrapU, wrapU]
 omega
theorem Digs.two (w : World) (a b : Int) : Digs (w.alloc (.cells #[.int .u32 a, .int .u32 b] 85)) (.slice (some ⟨w.heap.size, 0, none⟩) 2 2) [a, b] :=
 own_lit w 0 85 .u32 [a, b] (Nat.zero_le _) (by simp)
theorem IsBig.alloc {w : World} {b : Nat} (h : IsBig w b) (o : Obj) : IsBig (w.alloc o) b := h.below ((Below.refl _ _).alloc (Nat.le_refl _) o)
theorem grown_alloc {w w1 : World} {o : Obj} {z : Nat} (h : (w.alloc o).grownBy w1 (some z)) : w.grownBy w1 (some z) := (World.grownBy_alloc w o _).trans h
theorem val_two (a : Int) (h1 : 0 ≤ a) : val [a % 4294967296, a / 4294967296] = a := by
 simp only [val]
 omega
set_option maxHeartbeats 400000 in
theorem setInt64_calls (z : Nat) (n : Int) (w : World) (hz : IsBig w z) (h1 : -9223372036854775808 ≤ n) (h2 : n ≤ 9223372036854775807) :
  Calls Tryd.prog 96 #[.pointer (some ⟨z, 0, none⟩), .int .i64 n] w fun e w' => e = .returned (.pointer (some ⟨z, 0, none⟩)) ∧ Big w' z n 2 ∧ w.grownBy w' (some z) := by
 have HZ := Aside0.mk hz
 clear hz
 by_cases hn : n < 0
 ·have hu := negU h1 hn
  have HU := Aside0.mk hu
  clear hu
  go_enter Tryd.func96, Tryd.ntmps96
  go_wp2_with fail
  rw [HU.out]
  rw [Int.emod_eq_of_lt (a := -n / 4294967296) (by omega) (by omega)]
  refine (put_big z true _ [-n % 4294967296, -n / 4294967296] _ (HZ.out.alloc _) (Digs.two _ _ _) (Okd.cons (by omega) (okd_single (by omega)))).mono ?_
  rintro e w' ⟨rfl, hb, hg⟩
  have HB := Aside0.mk hb
  have HG := Aside0.mk hg
  clear hb hg
  go_wp2
  go_ret
  refine ⟨rfl, ?_, grown_alloc HG.out⟩
  have := HB.out
  rw [bval, if_pos rfl, val_two _ (by omega), Int.neg_neg] at this
  exact this
 ·go_enter Tryd.func96, Tryd.ntmps96
  go_wp2_with fail
  refine (put_big z false _ [n % 4294967296, n / 4294967296] _ (HZ.out.alloc _) (Digs.two _ _ _) (Okd.cons (by omega) (okd_single (by omega)))).mono ?_
  rintro e w' ⟨rfl, hb, hg⟩
  have HB := Aside0.mk hb
  have HG := Aside0.mk hg
  clear hb hg
  go_wp2
  go_ret
  refine ⟨rfl, ?_, grown_alloc HG.out⟩
  have := HB.out
  rw [bval, if_neg (by decide), val_two _ (by omega)] at this
  exact this
set_option maxHeartbeats 400000 in
theorem newBig_calls (n : Int) (w : World) (h1 : -9223372036854775808 ≤ n) (h2 : n ≤ 9223372036854775807) :
  Calls Tryd.prog 60 #[.int .i64 n] w fun e w' => e = .returned (.pointer (some ⟨w.heap.size, 0, none⟩)) ∧ Big w' w.heap.size n 2 ∧ Below w.heap.size w w' := by
 go_enter Tryd.func60, Tryd.ntmps60
 go_wp2_with fail
 refine (setInt64_calls _ n _ ⟨_, _, heap_alloc_new w _⟩ h1 h2).mono ?_
 rintro e w' ⟨rfl, hb, hg⟩
 have HB := Aside0.mk hb
 have HG := Aside0.mk hg
 clear hb hg
 go_wp2
 go_ret
 exact ⟨rfl, HB.out, below_of_grown ((Below.refl _ _).alloc (Nat.le_refl _) _) HG.out (Nat.le_refl _)⟩
set_option maxHeartbeats 400000 in
theorem sign_calls (x : Nat) (n : Int) (m : Nat) (w : World) (hx : Big w x n m) :
  Calls Tryd.prog 86 #[.pointer (some ⟨x, 0, none⟩)] w fun e w' => e = .returned (.int .i64 (sgn n)) ∧ w' = w := by
 obtain ⟨neg, xs, ⟨v, hb, hd⟩, ok, ti, hne, hm, rfl⟩ := hx
 obtain ⟨A, c, rfl⟩ := hd.shape
 obtain ⟨c0, c1, f0, f1⟩ := big_cells hb
 have hs : sgn (bval neg xs) = (if xs = [] then 0 else if neg then -1 else 1) := by
  by_cases e : xs = []
  ·subst e
   cases neg <;> rfl
  ·have h := val_eq_zero ok ti
   have h0 := val_nonneg ok
   have h3 : val xs ≠ 0 := fun h' => e (h.1 h')
   rw [if_neg e]
   cases neg
   ·simp only [bval, sgn, Bool.false_eq_true, if_false]
    rw [if_neg (by omega), if_neg (by omega)]
   ·simp only [bval, sgn, if_true]
    rw [if_pos (by omega)]
 have HS := Aside0.mk hs
 clear hs hb hd ok ti hne f0 f1
 by_cases e : xs = []
 ·have hl : ((xs.length : Int) == 0) = true := by rw [e]; rfl
  have E := Aside0.mk e
  clear e
  go_enter Tryd.func86, Tryd.ntmps86
  go_wp2
  go_ret
  exact ⟨by rw [HS.out, if_pos E.out]; rfl, rfl⟩
 ·have hl : ((xs.length : Int) == 0) = false := by simpa using e
  have E := Aside0.mk e
  clear e
  cases neg
  all_goals
   go_enter Tryd.func86, Tryd.ntmps86
   go_wp2
   go_ret
   exact ⟨by rw [HS.out, if_neg E.out]; rfl, rfl⟩
end Go.Proofs.YtlkomiiijhphnaaDoor.Big
namespace Go.Proofs.YtlkomiiijhphnaaDoor.Big
open Go.RowKit Go.Proofs.YtlkomiiijhphnaaDoorW.PrintWords Go.Proofs.YtlkomiiijhphnaaDoorW.PrintLast Go.Proofs.YtlkomiiijhphnaaDoorW.PrintMore Go.Proofs.YtlkomiiijhphnaaDoor.Math
set_option linter.unusedVariables false
set_option linter.unusedSimpArgs false
theorem nums_get (xs : List Int) (j : Nat) (u : Value) (hu : (nums .u32 xs)[j]? = some u) : j < xs.length ∧ u = .int .u32 (xs.getD j 0) := by
 have hj : j < xs.length := by
  rcases Nat.lt_or_ge j xs.length with h | h
  ·exact h
  ·simp [nums, List.getElem?_eq_none h] at hu
 refine ⟨hj, ?_⟩
 simp [nums, List.getElem?_eq_getElem hj] at hu
 subst hu
 simp [List.getD_eq_getElem?_getD, List.getElem?_eq_getElem hj]
theorem copy_run (W : World) (ty : TypeId) (g : Nat) (hg : W.heap[g]? = some (.cells #[] 85 (0, 0))) (v : Value) (xs : List Int) (HX : Digs W v xs) (hl : xs.length ≤ 1000000000) :
  ∃ v1 w1, (Builtin.append_ #[46, 46] ty #[.slice (some ⟨g, 0, none⟩) 0 0, v]).run Tryd.prog W = .ok v1 w1 ∧ Digs w1 v1 xs ∧ W.grownBy w1 (some g) := by
 obtain ⟨i0, hi, hz0, hz1, hz2⟩ := info_parts info32
 have ht := Tryd.underlying46
 have HO : W.ownsRow 0 85 1 (.slice (some ⟨g, 0, none⟩) 0 0) 0 [] := ⟨rfl, .inr ⟨g, 0, #[], rfl, Nat.zero_le _, hg, Nat.le_refl _, Nat.zero_le _, rfl, rfl⟩⟩
 obtain ⟨A, c, rfl⟩ := HX.shape
 rcases A with _ | ad
 ·have h0 : xs = [] := by
   rcases HX.2 with ⟨_, h⟩ | ⟨_, _, _, h, _⟩
   ·exact List.eq_nil_of_length_eq_zero h
   ·cases h
  subst h0
  refine ⟨.slice (some ⟨g, 0, none⟩) 0 0, W, ?_, HO, grownBy_refl _ _⟩
  simp [Builtin.append_, run_underlying ht, sizeOf, typeInfo, hi, Builtin.lenOf, Builtin.firstCells, storeCells]
 ·have hcells : ∀ j u, (nums .u32 xs)[j]? = some u → W.cell? (ad.add j) = some u := by
   intro j u hu
   obtain ⟨hj, rfl⟩ := nums_get xs j u hu
   obtain ⟨g', c', he, _⟩ := HX.form (by omega)
   obtain rfl : ad = ⟨g', 0, none⟩ := Option.some.inj (Value.slice.inj he).1
   rw [add_plain]
   exact (HX.at_ hj).1
  have hgl : g < W.heap.size := blk_lt hg
  obtain ⟨v1, w1, hr, h2, h3, _, h5⟩ := run_append_own_at (P := Tryd.prog) W 0 46 ty 85 i0 (.int .u32 0) 1 4 ht hi hz0 hz1 hz2 rfl (by omega) _ 0 [] HO ad xs.length c (nums .u32 xs) (by simp [nums]) hcells
   (by intro u hu; simp only [nums, List.mem_map] at hu; obtain ⟨q, _, rfl⟩ := hu; rfl) (by simp only [maxLen]; omega) (by omega) (Nat.zero_le _)
  exact ⟨v1, w1, hr, by simpa [nums, Digs] using h2, h3⟩
section
variable {ops : Array Oper} {rest : List Oper} {o : Oper} {a : Act} {Q : Exit → Act → World → Prop} {K : Act → World → Prop}
theorem wpList_copy {W : World} (hgd : o.guard = none) (s x : Operand) (ho : o.op = .call { callee := .builtin .append, args := #[s, x], argTypes := #[46, 46] })
  (g : Nat) (v : Value) (xs : List Int) (hs : a.eval s = .slice (some ⟨g, 0, none⟩) 0 0) (hx : a.eval x = v)
  (hg : W.heap[g]? = some (.cells #[] 85 (0, 0))) (HX : Digs W v xs) (hl : xs.length ≤ 1000000000)
  (h : ∀ v1 w1, Digs w1 v1 xs → W.grownBy w1 (some g) → wpList Tryd.prog ops Q rest (a.put o.dst v1) w1) :
  wpList Tryd.prog ops Q (o :: rest) a W := by
 obtain ⟨v1, w1, hr, hown, hg⟩ := copy_run W o.type g hg v xs HX hl
 refine wpList_plain hgd fun K hK => ?_
 unfold Oper.wp execOp
 simp only [ho, resolve, invoke, builtin, Sem.run_bind, Sem.run_pure, Result.andThen_ok, List.map_toArray, List.map_cons, List.map_nil, hs, hx, hr]
 exact hK _ _ (h v1 w1 hown hg)
theorem step_copy {W : World} (hw : Region.wanted o (yielded ops a.tmps) = true) (s x : Operand) (ho : o.op = .call { callee := .builtin .append, args := #[s, x], argTypes := #[46, 46] })
  (g : Nat) (v : Value) (xs : List Int) (hs : a.eval s = .slice (some ⟨g, 0, none⟩) 0 0) (hx : a.eval x = v)
  (hg : W.heap[g]? = some (.cells #[] 85 (0, 0))) (HX : Digs W v xs) (hl : xs.length ≤ 1000000000)
  (h : ∀ v1 w1, Digs w1 v1 xs → W.grownBy w1 (some g) → K (a.put o.dst v1) w1) :
  if Region.wanted o (yielded ops a.tmps) = true then Oper.wp Tryd.prog o a W K Q else K (a.put o.dst undef) W := by
 obtain ⟨v1, w1, hr, hown, hg⟩ := copy_run W o.type g hg v xs HX hl
 rw [if_pos hw]
 unfold Oper.wp execOp
 simp only [ho, resolve, invoke, builtin, Sem.run_bind, Sem.run_pure, Result.andThen_ok, List.map_toArray, List.map_cons, List.map_nil, hs, hx, hr]
 exact h v1 w1 hown hg
end
def iabs (n : Int) : Int := if n < 0 then -n else n
theorem iabs_bval {neg : Bool} {xs : List Int} (ok : Okd xs) : iabs (bval neg xs) = bval false xs := by
 have h2 := val_nonneg ok
 cases neg
 ·simp only [bval, iabs, Bool.false_eq_true, if_false]
  rw [if_neg (by omega)]
 ·simp only [bval, iabs, if_true, Bool.false_eq_true, if_false]
  split <;> omega
set_option maxHeartbeats 400000 in
theorem abs_calls (z x : Nat) (n : Int) (m : Nat) (w : World) (hz : IsBig w z) (hx : Big w x n m) (hm : m ≤ 1000000) :
  Calls Tryd.prog 72 #[.pointer (some ⟨z, 0, none⟩), .pointer (some ⟨x, 0, none⟩)] w fun e w' => e = .returned (.pointer (some ⟨z, 0, none⟩)) ∧ Big w' z (iabs n) m ∧ w.grownBy w' (some z) := by
 obtain ⟨neg, xs, ⟨v, hb, hd⟩, ok, ti, hne, hlm, rfl⟩ := hx
 obtain ⟨A, c, rfl⟩ := hd.shape
 obtain ⟨c0, c1, f0, f1⟩ := big_cells hb
 have HZ := Aside0.mk hz
 have HD := Aside0.mk hd
 have OK := Aside0.mk ok
 have hxw : x ≠ w.heap.size := Nat.ne_of_lt (blk_lt hb)
 have c1' := pw_cell_below ((Below.refl _ _).alloc (Nat.le_refl _) (.cells #[] 85)) c1
 clear hz hd hb ti hne ok f0 f1 c0 c1
 go_enter Tryd.func72, Tryd.ntmps72
 go_wp2_with (at_builtin; refine wpList_copy rfl _ _ rfl w.heap.size _ xs rfl rfl (heap_alloc_new w _) (HD.out.below ((Below.refl _ _).alloc (Nat.le_refl _) _)) (by omega) ?_; intro v1 w1 hd1 hg1)
 refine (put_big z false v1 xs _ ((HZ.out.alloc _).grown hg1 (Nat.ne_of_lt HZ.out.lt)) hd1 OK.out).mono ?_
 rintro e w' ⟨rfl, hb2, hg2⟩
 have HB := Aside0.mk hb2
 have hb1 := below_of_grown ((Below.refl _ _).alloc (Nat.le_refl _) _) hg1 (Nat.le_refl _)
 have HG := Aside0.mk ((below_grownBy hb1 (some z)).trans hg2)
 clear hb2 hg2 hg1 hb1 hd1
 go_wp2
 go_ret
 refine ⟨rfl, ?_, HG.out⟩
 rw [iabs_bval OK.out]
 exact HB.out.more hlm
theorem bval_not (neg : Bool) (xs : List Int) : bval (!neg) xs = -bval neg xs := by
 cases neg <;> simp [bval]
set_option maxRecDepth 100000 in
set_option maxHeartbeats 1000000 in
theorem neg_calls (z x : Nat) (n : Int) (m : Nat) (w : World) (hz : IsBig w z) (hx : Big w x n m) (hm : m ≤ 1000000) :
  Calls Tryd.prog 85 #[.pointer (some ⟨z, 0, none⟩), .pointer (some ⟨x, 0, none⟩)] w fun e w' => e = .returned (.pointer (some ⟨z, 0, none⟩)) ∧ Big w' z (-n) m ∧ w.grownBy w' (some z) := by
 obtain ⟨neg, xs, ⟨v, hb, hd⟩, ok, ti, hne, hlm, rfl⟩ := hx
 obtain ⟨A, c, rfl⟩ := hd.shape
 obtain ⟨c0, c1, f0, f1⟩ := big_cells hb
 have HZ := Aside0.mk hz
 have HD := Aside0.mk hd
 have OK := Aside0.mk ok
 have hxw : x < w.heap.size := blk_lt hb
 clear hz hd hb ti hne ok f0 f1
 go_enter Tryd.func85, Tryd.ntmps85
 go_wp2_with fail
 refine start_ (n := 14) (S := fun w' => w'.cell? ⟨x, 0, none⟩ = some (.bool neg) ∧ w'.cell? ⟨x, 1, none⟩ = some (.slice A xs.length c)) (ds := [12]) #[false, false, false, false, false, false, false, false, false, false, false, false, false, false] (by kernel_rfl) rfl rfl ⟨c0, c1⟩ (fun hHeld => ?_)
 have Dw0 := Aside0.mk ((Below.refl w.heap.size w).drew)
 generalize w.drew = w0 at hHeld Dw0 ⊢
 refine pure_ (i := 0) (N := some 5) (v := ?_) (a' := ?_) #[true, false, false, false, false, false, false, false, false, false, false, false, false, false] rfl rfl (by kernel_rfl) (fun _ _ _ h => h) (Or.inl ⟨by rfl, ?_⟩) ?_ ?_
 rotate_left
 ·intro w'
  go_simp
  with_reducible rfl
 rotate_left
 ·simp only [Act.put, List.setIfInBounds_toArray, List.set_cons_zero, List.set_cons_succ, i64_w, i32_w]
  rfl
 refine pure_ (i := 1) (N := some 6) (v := ?_) (a' := ?_) #[true, true, false, false, false, false, false, false, false, false, false, false, false, false] rfl rfl (by kernel_rfl) (fun _ _ _ h => h) (Or.inl ⟨by rfl, ?_⟩) ?_ ?_
 rotate_left
 ·intro w'
  go_simp
  with_reducible rfl
 rotate_left
 ·simp only [Act.put, List.setIfInBounds_toArray, List.set_cons_zero, List.set_cons_succ, i64_w, i32_w]
  rfl
 refine pure_ (i := 2) (N := some 7) (v := ?_) (a' := ?_) #[true, true, true, false, false, false, false, false, false, false, false, false, false, false] rfl rfl (by kernel_rfl) (fun _ _ _ h => h) (Or.inl ⟨by rfl, ?_⟩) ?_ ?_
 rotate_left
 ·intro w'
  go_simp
  with_reducible rfl
 rotate_left
 ·simp only [Act.put, List.setIfInBounds_toArray, List.set_cons_zero, List.set_cons_succ, i64_w, i32_w]
  rfl
 refine pure_ (i := 3) (N := some 8) (v := ?_) (a' := ?_) #[true, true, true, true, false, false, false, false, false, false, false, false, false, false] rfl rfl (by kernel_rfl) (fun _ _ _ h => h) (Or.inl ⟨by rfl, ?_⟩) ?_ ?_
 rotate_left
 ·intro w'
  go_simp
  with_reducible rfl
 rotate_left
 ·simp only [Act.put, List.setIfInBounds_toArray, List.set_cons_zero, List.set_cons_succ, i64_w, i32_w]
  rfl
 refine pure_ (i := 7) (N := some 12) (v := ?_) (a' := ?_) #[true, true, true, true, false, false, false, true, false, false, false, false, false, false] rfl rfl (by kernel_rfl) (fun _ _ _ h => h) (Or.inl ⟨by rfl, ?_⟩) ?_ ?_
 rotate_left
 ·intro w'
  go_simp
  with_reducible rfl
 rotate_left
 ·simp only [Act.put, List.setIfInBounds_toArray, List.set_cons_zero, List.set_cons_succ, i64_w, i32_w]
  rfl
 refine pure_ (i := 8) (N := some 13) (v := ?_) (a' := ?_) #[true, true, true, true, false, false, false, true, true, false, false, false, false, false] rfl rfl (by kernel_rfl) (fun _ _ _ h => h) (Or.inl ⟨by rfl, ?_⟩) ?_ ?_
 rotate_left
 ·intro w'
  go_simp
  with_reducible rfl
 rotate_left
 ·simp only [Act.put, List.setIfInBounds_toArray, List.set_cons_zero, List.set_cons_succ, i64_w, i32_w]
  rfl
 refine pure_ (i := 9) (N := some 14) (v := ?_) (a' := ?_) #[true, true, true, true, false, false, false, true, true, true, false, false, false, false] rfl rfl (by kernel_rfl) (fun _ _ _ h => h) (Or.inl ⟨by rfl, ?_⟩) ?_ ?_
 rotate_left
 ·intro w'
  go_simp
  with_reducible rfl
 rotate_left
 ·simp only [Act.put, List.setIfInBounds_toArray, List.set_cons_zero, List.set_cons_succ, i64_w, i32_w]
  rfl
 refine take_ (i := 4) (N := some 9) (v := ?_) (a' := ?_) #[true, true, true, true, true, false, false, true, true, true, false, false, false, false] rfl rfl (by kernel_rfl) (fun _ _ _ h => h) (Or.inl ⟨by rfl, ?_⟩) hHeld ?_ ?_
 rotate_left
 ·rintro w' ⟨s0, s1⟩
  go_simp
  with_reducible rfl
 rotate_left
 ·simp only [Act.put, List.setIfInBounds_toArray, List.set_cons_zero, List.set_cons_succ, i64_w, i32_w]
  rfl
 refine pure_ (i := 5) (N := some 10) (v := ?_) (a' := ?_) #[true, true, true, true, true, true, false, true, true, true, false, false, false, false] rfl rfl (by kernel_rfl) (fun _ _ _ h => h) (Or.inl ⟨by rfl, ?_⟩) ?_ ?_
 rotate_left
 ·intro w'
  go_simp
  with_reducible rfl
 rotate_left
 ·simp only [Act.put, List.setIfInBounds_toArray, List.set_cons_zero, List.set_cons_succ, i64_w, i32_w]
  rfl
 refine take_ (i := 10) (N := some 15) (v := ?_) (a' := ?_) #[true, true, true, true, true, true, false, true, true, true, true, false, false, false] rfl rfl (by kernel_rfl) (fun _ _ _ h => h) (Or.inl ⟨by rfl, ?_⟩) hHeld ?_ ?_
 rotate_left
 ·rintro w' ⟨s0, s1⟩
  go_simp
  with_reducible rfl
 rotate_left
 ·simp only [Act.put, List.setIfInBounds_toArray, List.set_cons_zero, List.set_cons_succ, i64_w, i32_w]
  rfl
 refine one_ (i := 6) (N := some 11) #[true, true, true, true, true, true, true, true, true, true, true, false, false, false] rfl rfl (by kernel_rfl) (by decide) (fun K hK => ?_)
 refine value_ (w1 := ?_) (v := ?_) (by rfl) rfl ?_ ?_
 rotate_left 2
 ·go_simp
  constructor
  ·rfl
  ·rfl
 refine hK.out _ _ ⟨pw_cell_below (below_alloc (Below.refl _ _) _) hHeld.1, pw_cell_below (below_alloc (Below.refl _ _) _) hHeld.2⟩ (fun hHeld => ?_)
 clear hK K
 refine norm_ (a' := ?_) ?_ ?_
 rotate_left
 ·show Act.put _ (some 11) _ = _
  simp only [Act.put, List.setIfInBounds_toArray, List.set_cons_zero, List.set_cons_succ, i64_w, i32_w]
  rfl
 refine one_ (i := 11) (N := some 16) #[true, true, true, true, true, true, true, true, true, true, true, true, false, false] rfl rfl (by kernel_rfl) (by decide) (fun K hK => ?_)
 have hne : ∀ q : World, x < q.heap.size → some x ≠ some q.heap.size := fun q hq h => absurd (Option.some.inj h) (Nat.ne_of_lt hq)
 have hxl : x < w0.heap.size := Nat.lt_of_lt_of_le hxw Dw0.out.size
 refine step_copy (by rfl) (.tmp 11) (.tmp 15) (by rfl) w0.heap.size _ xs (by rfl) (by rfl) (heap_alloc_new w0 _) ((HD.out.below Dw0.out).below (below_alloc (Below.refl _ _) _)) (by omega) ?_
 intro v1 w1 hd1 hg1
 refine hK.out _ _ ⟨hg1.cell hHeld.1 (hne _ hxl), hg1.cell hHeld.2 (hne _ hxl)⟩ (fun hHeld => ?_)
 clear hK K
 refine norm_ (a' := ?_) ?_ ?_
 rotate_left
 ·show Act.put _ (some 16) _ = _
  simp only [Act.put, List.setIfInBounds_toArray, List.set_cons_zero, List.set_cons_succ, i64_w, i32_w]
  rfl
 refine last_ (i := 12) (N := some 17) #[true, true, true, true, true, true, true, true, true, true, true, true, true, false] rfl rfl (by kernel_rfl) (by decide) (fun K hK => ?_)
 refine goes_ Tryd.func83 (by kernel_rfl) rfl #[.pointer (some ⟨z, 0, none⟩), .bool (!neg), v1] (by rfl) rfl rfl (by simp only [List.map_toArray, List.map_cons, List.map_nil]; rfl) ?_
 with_reducible refine (put_big z (!neg) v1 xs _ (((HZ.out.below Dw0.out).alloc _).grown hg1 (Nat.ne_of_lt (HZ.out.below Dw0.out).lt)) hd1 OK.out).mono ?_
 rintro e w' ⟨rfl, hb2, hg2⟩
 refine ⟨_, rfl, ?_⟩
 refine hK.out _ _ ?_
 clear hK K
 refine norm_ (a' := ?_) ?_ ?_
 rotate_left
 ·show Act.put _ (some 17) _ = _
  simp only [Act.put, List.setIfInBounds_toArray, List.set_cons_zero, List.set_cons_succ, i64_w, i32_w]
  rfl
 refine pure_ (i := 13) (N := some 4) (v := ?_) (a' := ?_) #[true, true, true, true, true, true, true, true, true, true, true, true, true, true] rfl rfl (by kernel_rfl) (fun _ _ _ h => h) (Or.inl ⟨by rfl, ?_⟩) ?_ ?_
 rotate_left
 ·intro w'
  go_simp
  with_reducible rfl
 rotate_left
 ·simp only [Act.put, List.setIfInBounds_toArray, List.set_cons_zero, List.set_cons_succ, i64_w, i32_w]
  rfl
 refine done_ (by kernel_rfl) ?_
 have hb1 := below_of_grown (w := w) (Dw0.out.alloc Dw0.out.size _) hg1 Dw0.out.size
 have HG := Aside0.mk ((below_grownBy hb1 (some z)).trans hg2)
 have HB := Aside0.mk (hb2.more hlm)
 clear hb2 hg2 hg1 hb1 hd1
 try go_wp2
 go_ret
 refine ⟨rfl, ?_, HG.out⟩
 have hb := HB.out
 rwa [bval_not] at hb
end Go.Proofs.YtlkomiiijhphnaaDoor.Big
namespace Go.Proofs.YtlkomiiijhphnaaDoor.Big
open Go.RowKit Go.Proofs.YtlkomiiijhphnaaDoorW.PrintWords Go.Proofs.YtlkomiiijhphnaaDoorW.PrintLast Go.Proofs.YtlkomiiijhphnaaDoorW.PrintMore Go.Proofs.YtlkomiiijhphnaaDoor.Math
set_option linter.unusedVariables false
set_option linter.unusedSimpArgs false
structure Opd (w : World) (b : Nat) (neg : Bool) (xs : List Int) (A : Option Addr) (c : Nat) : Prop where
 c0 : w.cell? ⟨b, 0, none⟩ = some (.bool neg)
 c1 : w.cell? ⟨b, 1, none⟩ = some (.slice A xs.length c)
 d : Digs w (.slice A xs.length c) xs
 ok : Okd xs
 ti : Tight xs
 ne : neg = true → xs ≠ []
 len : xs.length ≤ 1000000
theorem Opd.below {w w1 : World} {b : Nat} {neg : Bool} {xs : List Int} {A : Option Addr} {c : Nat} (h : Opd w b neg xs A c) (hb : Below w.heap.size w w1) : Opd w1 b neg xs A c :=
 ⟨pw_cell_below hb h.c0, pw_cell_below hb h.c1, h.d.below hb, h.ok, h.ti, h.ne, h.len⟩
theorem Big.opd {w : World} {b : Nat} {n : Int} {m : Nat} (h : Big w b n m) (hm : m ≤ 1000000) : ∃ neg xs A c, Opd w b neg xs A c ∧ n = bval neg xs ∧ xs.length ≤ m := by
 obtain ⟨neg, xs, ⟨v, hb, hd⟩, ok, ti, hne, hlm, rfl⟩ := h
 obtain ⟨A, c, rfl⟩ := hd.shape
 obtain ⟨c0, c1, f0, f1⟩ := big_cells hb
 exact ⟨neg, xs, A, c, ⟨c0, c1, hd, ok, ti, hne, by omega⟩, rfl, hlm⟩
theorem below_z {w w1 w2 : World} {z : Nat} (h : Below w.heap.size w w1) (hg : w1.grownBy w2 (some z)) : w.grownBy w2 (some z) := (below_grownBy h _).trans hg
set_option maxRecDepth 100000 in
set_option maxHeartbeats 2000000 in
theorem sum_same (z x y : Nat) (neg ny : Bool) (xs ys : List Int) (A B : Option Addr) (c d : Nat) (w : World) (hz : IsBig w z) (hx : Opd w x neg xs A c) (hy : Opd w y ny ys B d) :
  Calls Tryd.prog 90 #[.pointer (some ⟨z, 0, none⟩), .pointer (some ⟨x, 0, none⟩), .pointer (some ⟨y, 0, none⟩), .bool neg] w fun e w' => e = .returned (.pointer (some ⟨z, 0, none⟩)) ∧ Big w' z (bval neg xs + bval neg ys) (max xs.length ys.length + 1) ∧ w.grownBy w' (some z) := by
 have HZ := Aside0.mk hz
 have HX := Aside0.mk hx
 have HY := Aside0.mk hy
 obtain ⟨c0, c1, -⟩ := hx
 obtain ⟨-, e1, -⟩ := hy
 have hnn : (neg == neg) = true := by simp
 clear hz
 go_enter Tryd.func90, Tryd.ntmps90
 go_wp2_with fail
 refine start_ (n := 13) (S := fun w' => w'.cell? ⟨x, 1, none⟩ = some (.slice A xs.length c) ∧ w'.cell? ⟨y, 1, none⟩ = some (.slice B ys.length d)) (ds := [11]) #[false, false, false, false, false, false, false, false, false, false, false, false, false] (by kernel_rfl) rfl rfl ⟨c1, e1⟩ (fun hHeld => ?_)
 have Dw0 := Aside0.mk ((Below.refl w.heap.size w).drew)
 generalize w.drew = w0 at hHeld Dw0 ⊢
 refine pure_ (i := 0) (N := some 16) (v := ?_) (a' := ?_) #[true, false, false, false, false, false, false, false, false, false, false, false, false] rfl rfl (by kernel_rfl) (fun _ _ _ h => h) (Or.inl ⟨by rfl, ?_⟩) ?_ ?_
 rotate_left
 ·intro w'
  go_simp
  with_reducible rfl
 rotate_left
 ·simp only [Act.put, List.setIfInBounds_toArray, List.set_cons_zero, List.set_cons_succ, i64_w, i32_w]
  rfl
 refine pure_ (i := 1) (N := some 17) (v := ?_) (a' := ?_) #[true, true, false, false, false, false, false, false, false, false, false, false, false] rfl rfl (by kernel_rfl) (fun _ _ _ h => h) (Or.inl ⟨by rfl, ?_⟩) ?_ ?_
 rotate_left
 ·intro w'
  go_simp
  with_reducible rfl
 rotate_left
 ·simp only [Act.put, List.setIfInBounds_toArray, List.set_cons_zero, List.set_cons_succ, i64_w, i32_w]
  rfl
 refine pure_ (i := 2) (N := some 18) (v := ?_) (a' := ?_) #[true, true, true, false, false, false, false, false, false, false, false, false, false] rfl rfl (by kernel_rfl) (fun _ _ _ h => h) (Or.inl ⟨by rfl, ?_⟩) ?_ ?_
 rotate_left
 ·intro w'
  go_simp
  with_reducible rfl
 rotate_left
 ·simp only [Act.put, List.setIfInBounds_toArray, List.set_cons_zero, List.set_cons_succ, i64_w, i32_w]
  rfl
 refine pure_ (i := 3) (N := some 19) (v := ?_) (a' := ?_) #[true, true, true, true, false, false, false, false, false, false, false, false, false] rfl rfl (by kernel_rfl) (fun _ _ _ h => h) (Or.inl ⟨by rfl, ?_⟩) ?_ ?_
 rotate_left
 ·intro w'
  go_simp
  with_reducible rfl
 rotate_left
 ·simp only [Act.put, List.setIfInBounds_toArray, List.set_cons_zero, List.set_cons_succ, i64_w, i32_w]
  rfl
 refine pure_ (i := 4) (N := some 20) (v := ?_) (a' := ?_) #[true, true, true, true, true, false, false, false, false, false, false, false, false] rfl rfl (by kernel_rfl) (fun _ _ _ h => h) (Or.inl ⟨by rfl, ?_⟩) ?_ ?_
 rotate_left
 ·intro w'
  go_simp
  with_reducible rfl
 rotate_left
 ·simp only [Act.put, List.setIfInBounds_toArray, List.set_cons_zero, List.set_cons_succ, i64_w, i32_w]
  rfl
 refine pure_ (i := 6) (N := some 22) (v := ?_) (a' := ?_) #[true, true, true, true, true, false, true, false, false, false, false, false, false] rfl rfl (by kernel_rfl) (fun _ _ _ h => h) (Or.inl ⟨by rfl, ?_⟩) ?_ ?_
 rotate_left
 ·intro w'
  go_simp
  with_reducible rfl
 rotate_left
 ·simp only [Act.put, List.setIfInBounds_toArray, List.set_cons_zero, List.set_cons_succ, i64_w, i32_w]
  rfl
 refine pure_ (i := 7) (N := some 23) (v := ?_) (a' := ?_) #[true, true, true, true, true, false, true, true, false, false, false, false, false] rfl rfl (by kernel_rfl) (fun _ _ _ h => h) (Or.inl ⟨by rfl, ?_⟩) ?_ ?_
 rotate_left
 ·intro w'
  go_simp
  with_reducible rfl
 rotate_left
 ·simp only [Act.put, List.setIfInBounds_toArray, List.set_cons_zero, List.set_cons_succ, i64_w, i32_w]
  rfl
 refine pure_ (i := 8) (N := some 24) (v := ?_) (a' := ?_) #[true, true, true, true, true, false, true, true, true, false, false, false, false] rfl rfl (by kernel_rfl) (fun _ _ _ h => h) (Or.inl ⟨by rfl, ?_⟩) ?_ ?_
 rotate_left
 ·intro w'
  go_simp
  with_reducible rfl
 rotate_left
 ·simp only [Act.put, List.setIfInBounds_toArray, List.set_cons_zero, List.set_cons_succ, i64_w, i32_w]
  rfl
 refine take_ (i := 5) (N := some 21) (v := ?_) (a' := ?_) #[true, true, true, true, true, true, true, true, true, false, false, false, false] rfl rfl (by kernel_rfl) (fun _ _ _ h => h) (Or.inl ⟨by rfl, ?_⟩) hHeld ?_ ?_
 rotate_left
 ·rintro w' ⟨s0, s1⟩
  go_simp
  with_reducible rfl
 rotate_left
 ·simp only [Act.put, List.setIfInBounds_toArray, List.set_cons_zero, List.set_cons_succ, i64_w, i32_w]
  rfl
 refine take_ (i := 9) (N := some 25) (v := ?_) (a' := ?_) #[true, true, true, true, true, true, true, true, true, true, false, false, false] rfl rfl (by kernel_rfl) (fun _ _ _ h => h) (Or.inl ⟨by rfl, ?_⟩) hHeld ?_ ?_
 rotate_left
 ·rintro w' ⟨s0, s1⟩
  go_simp
  with_reducible rfl
 rotate_left
 ·simp only [Act.put, List.setIfInBounds_toArray, List.set_cons_zero, List.set_cons_succ, i64_w, i32_w]
  rfl
 refine one_ (i := 10) (N := some 26) #[true, true, true, true, true, true, true, true, true, true, true, false, false] rfl rfl (by kernel_rfl) (by decide) (fun K hK => ?_)
 refine goes_ Tryd.func105 (by kernel_rfl) rfl #[.slice A xs.length c, .slice B ys.length d] (by rfl) rfl rfl (by simp only [List.map_toArray, List.map_cons, List.map_nil]; rfl) ?_
 with_reducible refine (addDigits_calls xs ys _ _ _ (HX.out.below Dw0.out).d (HY.out.below Dw0.out).d HX.out.ok HY.out.ok (Nat.le_trans HX.out.len (by omega)) (Nat.le_trans HY.out.len (by omega))).mono ?_
 rintro e w1 ⟨v, zs, rfl, hd, hok, hl, hv, hb⟩
 refine ⟨_, rfl, ?_⟩
 have Hw1 := Aside0.mk (Dw0.out.trans (hb.mono Dw0.out.size))
 have HV := Aside0.mk (And.intro hd (And.intro hok (And.intro hl hv)))
 refine hK.out _ _ ⟨pw_cell_below hb hHeld.1, pw_cell_below hb hHeld.2⟩ (fun hHeld => ?_)
 clear hK K
 refine norm_ (a' := ?_) ?_ ?_
 rotate_left
 ·show Act.put _ (some 26) _ = _
  simp only [Act.put, List.setIfInBounds_toArray, List.set_cons_zero, List.set_cons_succ, i64_w, i32_w]
  rfl
 refine last_ (i := 11) (N := some 27) #[true, true, true, true, true, true, true, true, true, true, true, true, false] rfl rfl (by kernel_rfl) (by decide) (fun K hK => ?_)
 clear hb hd hok hl hv
 refine goes_ Tryd.func83 (by kernel_rfl) rfl #[.pointer (some ⟨z, 0, none⟩), .bool neg, v] (by rfl) rfl rfl (by simp only [List.map_toArray, List.map_cons, List.map_nil]; rfl) ?_
 with_reducible refine (put_big z neg v zs _ (HZ.out.below Hw1.out) HV.out.1 HV.out.2.1).mono ?_
 rintro e w2 ⟨rfl, hb2, hg2⟩
 refine ⟨_, rfl, ?_⟩
 refine hK.out _ _ ?_
 clear hK K
 refine norm_ (a' := ?_) ?_ ?_
 rotate_left
 ·show Act.put _ (some 27) _ = _
  simp only [Act.put, List.setIfInBounds_toArray, List.set_cons_zero, List.set_cons_succ, i64_w, i32_w]
  rfl
 refine pure_ (i := 12) (N := some 8) (v := ?_) (a' := ?_) #[true, true, true, true, true, true, true, true, true, true, true, true, true] rfl rfl (by kernel_rfl) (fun _ _ _ h => h) (Or.inl ⟨by rfl, ?_⟩) ?_ ?_
 rotate_left
 ·intro w'
  go_simp
  with_reducible rfl
 rotate_left
 ·simp only [Act.put, List.setIfInBounds_toArray, List.set_cons_zero, List.set_cons_succ, i64_w, i32_w]
  rfl
 refine done_ (by kernel_rfl) ?_
 have HG := Aside0.mk (below_z Hw1.out hg2)
 have HB := Aside0.mk hb2
 clear hb2 hg2
 try go_wp2
 go_ret
 refine ⟨rfl, ?_, HG.out⟩
 have h := HB.out
 rw [HV.out.2.2.1] at h
 rw [show bval neg xs + bval neg ys = bval neg zs from ?_]
 ·exact h
 ·have := HV.out.2.2.2
  cases neg <;> simp [bval] <;> omega
set_option maxRecDepth 100000 in
set_option maxHeartbeats 4000000 in
theorem sum_ge (z x y : Nat) (neg nx ny : Bool) (xs ys : List Int) (A B : Option Addr) (c d : Nat) (w : World) (hz : IsBig w z) (hx : Opd w x nx xs A c) (hy : Opd w y ny ys B d) (hn : nx ≠ neg) (hc : val ys ≤ val xs) :
  Calls Tryd.prog 90 #[.pointer (some ⟨z, 0, none⟩), .pointer (some ⟨x, 0, none⟩), .pointer (some ⟨y, 0, none⟩), .bool neg] w fun e w' => e = .returned (.pointer (some ⟨z, 0, none⟩)) ∧ Big w' z (bval nx xs + bval neg ys) (max xs.length ys.length + 1) ∧ w.grownBy w' (some z) := by
 have HZ := Aside0.mk hz
 have HX := Aside0.mk hx
 have HY := Aside0.mk hy
 have HC := Aside0.mk hc
 have HL : Aside0 (ys.length ≤ xs.length) := Aside0.mk (by
  rcases Nat.lt_or_ge xs.length ys.length with h | h
  ·have := val_lt_of_length hx.ok hy.ok hy.ti h
   omega
  ·exact h)
 obtain ⟨s, hse⟩ : ∃ s, s = sgn (val xs - val ys) := ⟨_, rfl⟩
 have hs0 : 0 ≤ s := by rw [hse, sgn]; split <;> (try split) <;> omega
 have HSE := Aside0.mk hse
 have HN := Aside0.mk hn
 have hnn : (nx == neg) = false := by simpa using hn
 obtain ⟨c0, c1, -⟩ := hx
 obtain ⟨-, e1, -⟩ := hy
 clear hz hse hc hn
 go_enter Tryd.func90, Tryd.ntmps90
 go_wp2_with fail
 refine start_ (n := 11) (S := fun w' => w'.cell? ⟨x, 1, none⟩ = some (.slice A xs.length c) ∧ w'.cell? ⟨y, 1, none⟩ = some (.slice B ys.length d)) (ds := []) #[false, false, false, false, false, false, false, false, false, false, false] (by kernel_rfl) rfl rfl ⟨c1, e1⟩ (fun hHeld => ?_)
 have Dw0 := Aside0.mk ((Below.refl w.heap.size w).drew)
 generalize w.drew = w0 at hHeld Dw0 ⊢
 refine pure_ (i := 0) (N := some 29) (v := ?_) (a' := ?_) #[true, false, false, false, false, false, false, false, false, false, false] rfl rfl (by kernel_rfl) (fun _ _ _ h => h) (Or.inl ⟨by rfl, ?_⟩) ?_ ?_
 rotate_left
 ·intro w'
  go_simp
  with_reducible rfl
 rotate_left
 ·simp only [Act.put, List.setIfInBounds_toArray, List.set_cons_zero, List.set_cons_succ, i64_w, i32_w]
  rfl
 refine pure_ (i := 1) (N := some 30) (v := ?_) (a' := ?_) #[true, true, false, false, false, false, false, false, false, false, false] rfl rfl (by kernel_rfl) (fun _ _ _ h => h) (Or.inl ⟨by rfl, ?_⟩) ?_ ?_
 rotate_left
 ·intro w'
  go_simp
  with_reducible rfl
 rotate_left
 ·simp only [Act.put, List.setIfInBounds_toArray, List.set_cons_zero, List.set_cons_succ, i64_w, i32_w]
  rfl
 refine pure_ (i := 2) (N := some 31) (v := ?_) (a' := ?_) #[true, true, true, false, false, false, false, false, false, false, false] rfl rfl (by kernel_rfl) (fun _ _ _ h => h) (Or.inl ⟨by rfl, ?_⟩) ?_ ?_
 rotate_left
 ·intro w'
  go_simp
  with_reducible rfl
 rotate_left
 ·simp only [Act.put, List.setIfInBounds_toArray, List.set_cons_zero, List.set_cons_succ, i64_w, i32_w]
  rfl
 refine pure_ (i := 4) (N := some 33) (v := ?_) (a' := ?_) #[true, true, true, false, true, false, false, false, false, false, false] rfl rfl (by kernel_rfl) (fun _ _ _ h => h) (Or.inl ⟨by rfl, ?_⟩) ?_ ?_
 rotate_left
 ·intro w'
  go_simp
  with_reducible rfl
 rotate_left
 ·simp only [Act.put, List.setIfInBounds_toArray, List.set_cons_zero, List.set_cons_succ, i64_w, i32_w]
  rfl
 refine pure_ (i := 5) (N := some 34) (v := ?_) (a' := ?_) #[true, true, true, false, true, true, false, false, false, false, false] rfl rfl (by kernel_rfl) (fun _ _ _ h => h) (Or.inl ⟨by rfl, ?_⟩) ?_ ?_
 rotate_left
 ·intro w'
  go_simp
  with_reducible rfl
 rotate_left
 ·simp only [Act.put, List.setIfInBounds_toArray, List.set_cons_zero, List.set_cons_succ, i64_w, i32_w]
  rfl
 refine pure_ (i := 6) (N := some 35) (v := ?_) (a' := ?_) #[true, true, true, false, true, true, true, false, false, false, false] rfl rfl (by kernel_rfl) (fun _ _ _ h => h) (Or.inl ⟨by rfl, ?_⟩) ?_ ?_
 rotate_left
 ·intro w'
  go_simp
  with_reducible rfl
 rotate_left
 ·simp only [Act.put, List.setIfInBounds_toArray, List.set_cons_zero, List.set_cons_succ, i64_w, i32_w]
  rfl
 refine take_ (i := 3) (N := some 32) (v := ?_) (a' := ?_) #[true, true, true, true, true, true, true, false, false, false, false] rfl rfl (by kernel_rfl) (fun _ _ _ h => h) (Or.inl ⟨by rfl, ?_⟩) hHeld ?_ ?_
 rotate_left
 ·rintro w' ⟨s0, s1⟩
  go_simp
  with_reducible rfl
 rotate_left
 ·simp only [Act.put, List.setIfInBounds_toArray, List.set_cons_zero, List.set_cons_succ, i64_w, i32_w]
  rfl
 refine take_ (i := 7) (N := some 36) (v := ?_) (a' := ?_) #[true, true, true, true, true, true, true, true, false, false, false] rfl rfl (by kernel_rfl) (fun _ _ _ h => h) (Or.inl ⟨by rfl, ?_⟩) hHeld ?_ ?_
 rotate_left
 ·rintro w' ⟨s0, s1⟩
  go_simp
  with_reducible rfl
 rotate_left
 ·simp only [Act.put, List.setIfInBounds_toArray, List.set_cons_zero, List.set_cons_succ, i64_w, i32_w]
  rfl
 refine one_ (i := 8) (N := some 37) #[true, true, true, true, true, true, true, true, true, false, false] rfl rfl (by kernel_rfl) (by decide) (fun K hK => ?_)
 refine goes_ Tryd.func91 (by kernel_rfl) rfl #[.slice A xs.length c, .slice B ys.length d] (by rfl) rfl rfl (by simp only [List.map_toArray, List.map_cons, List.map_nil]; rfl) ?_
 with_reducible refine (cmpDigits_calls xs ys _ _ _ (HX.out.below Dw0.out).d (HY.out.below Dw0.out).d HX.out.ok HY.out.ok HX.out.ti HY.out.ti (Nat.le_trans HX.out.len (by omega)) (Nat.le_trans HY.out.len (by omega))).mono ?_
 rintro e w1 ⟨rfl, hb⟩
 refine ⟨_, rfl, ?_⟩
 have Hw1 := Aside0.mk (Dw0.out.trans (hb.mono Dw0.out.size))
 rw [← HSE.out]
 refine hK.out _ _ ⟨pw_cell_below hb hHeld.1, pw_cell_below hb hHeld.2⟩ (fun hHeld => ?_)
 clear hK K
 refine norm_ (a' := ?_) ?_ ?_
 rotate_left
 ·show Act.put _ (some 37) _ = _
  simp only [Act.put, List.setIfInBounds_toArray, List.set_cons_zero, List.set_cons_succ, i64_w, i32_w]
  rfl
 refine pure_ (i := 9) (N := some 38) (v := ?_) (a' := ?_) #[true, true, true, true, true, true, true, true, true, true, false] rfl rfl (by kernel_rfl) (fun _ _ _ h => h) (Or.inl ⟨by rfl, ?_⟩) ?_ ?_
 rotate_left
 ·intro w'
  go_simp
  with_reducible rfl
 rotate_left
 ·simp only [Act.put, List.setIfInBounds_toArray, List.set_cons_zero, List.set_cons_succ, i64_w, i32_w]
  rfl
 refine pure_ (i := 10) (N := some 28) (v := ?_) (a' := ?_) #[true, true, true, true, true, true, true, true, true, true, true] rfl rfl (by kernel_rfl) (fun _ _ _ h => h) (Or.inl ⟨by rfl, ?_⟩) ?_ ?_
 rotate_left
 ·intro w'
  go_simp
  with_reducible rfl
 rotate_left
 ·simp only [Act.put, List.setIfInBounds_toArray, List.set_cons_zero, List.set_cons_succ, i64_w, i32_w]
  rfl
 refine done_ (by kernel_rfl) ?_
 clear hb
 have k0 := pw_cell_below Hw1.out c0
 have k1 := pw_cell_below Hw1.out c1
 have l1 := pw_cell_below Hw1.out e1
 clear c0 c1 e1
 try go_wp2
 refine start_ (n := 16) (S := fun w' => w'.cell? ⟨x, 0, none⟩ = some (.bool nx) ∧ w'.cell? ⟨x, 1, none⟩ = some (.slice A xs.length c) ∧ w'.cell? ⟨y, 1, none⟩ = some (.slice B ys.length d)) (ds := [14]) #[false, false, false, false, false, false, false, false, false, false, false, false, false, false, false, false] (by kernel_rfl) rfl rfl ⟨k0, k1, l1⟩ (fun hHeld => ?_)
 have Dw2 := Aside0.mk ((Below.refl w1.heap.size w1).drew)
 generalize w1.drew = w2 at hHeld Dw2 ⊢
 refine pure_ (i := 0) (N := some 39) (v := ?_) (a' := ?_) #[true, false, false, false, false, false, false, false, false, false, false, false, false, false, false, false] rfl rfl (by kernel_rfl) (fun _ _ _ h => h) (Or.inl ⟨by rfl, ?_⟩) ?_ ?_
 rotate_left
 ·intro w'
  go_simp
  with_reducible rfl
 rotate_left
 ·simp only [Act.put, List.setIfInBounds_toArray, List.set_cons_zero, List.set_cons_succ, i64_w, i32_w]
  rfl
 refine pure_ (i := 1) (N := some 40) (v := ?_) (a' := ?_) #[true, true, false, false, false, false, false, false, false, false, false, false, false, false, false, false] rfl rfl (by kernel_rfl) (fun _ _ _ h => h) (Or.inl ⟨by rfl, ?_⟩) ?_ ?_
 rotate_left
 ·intro w'
  go_simp
  with_reducible rfl
 rotate_left
 ·simp only [Act.put, List.setIfInBounds_toArray, List.set_cons_zero, List.set_cons_succ, i64_w, i32_w]
  rfl
 refine pure_ (i := 2) (N := some 41) (v := ?_) (a' := ?_) #[true, true, true, false, false, false, false, false, false, false, false, false, false, false, false, false] rfl rfl (by kernel_rfl) (fun _ _ _ h => h) (Or.inl ⟨by rfl, ?_⟩) ?_ ?_
 rotate_left
 ·intro w'
  go_simp
  with_reducible rfl
 rotate_left
 ·simp only [Act.put, List.setIfInBounds_toArray, List.set_cons_zero, List.set_cons_succ, i64_w, i32_w]
  rfl
 refine pure_ (i := 3) (N := some 42) (v := ?_) (a' := ?_) #[true, true, true, true, false, false, false, false, false, false, false, false, false, false, false, false] rfl rfl (by kernel_rfl) (fun _ _ _ h => h) (Or.inl ⟨by rfl, ?_⟩) ?_ ?_
 rotate_left
 ·intro w'
  go_simp
  with_reducible rfl
 rotate_left
 ·simp only [Act.put, List.setIfInBounds_toArray, List.set_cons_zero, List.set_cons_succ, i64_w, i32_w]
  rfl
 refine pure_ (i := 5) (N := some 44) (v := ?_) (a' := ?_) #[true, true, true, true, false, true, false, false, false, false, false, false, false, false, false, false] rfl rfl (by kernel_rfl) (fun _ _ _ h => h) (Or.inl ⟨by rfl, ?_⟩) ?_ ?_
 rotate_left
 ·intro w'
  go_simp
  with_reducible rfl
 rotate_left
 ·simp only [Act.put, List.setIfInBounds_toArray, List.set_cons_zero, List.set_cons_succ, i64_w, i32_w]
  rfl
 refine pure_ (i := 6) (N := some 45) (v := ?_) (a' := ?_) #[true, true, true, true, false, true, true, false, false, false, false, false, false, false, false, false] rfl rfl (by kernel_rfl) (fun _ _ _ h => h) (Or.inl ⟨by rfl, ?_⟩) ?_ ?_
 rotate_left
 ·intro w'
  go_simp
  with_reducible rfl
 rotate_left
 ·simp only [Act.put, List.setIfInBounds_toArray, List.set_cons_zero, List.set_cons_succ, i64_w, i32_w]
  rfl
 refine pure_ (i := 7) (N := some 46) (v := ?_) (a' := ?_) #[true, true, true, true, false, true, true, true, false, false, false, false, false, false, false, false] rfl rfl (by kernel_rfl) (fun _ _ _ h => h) (Or.inl ⟨by rfl, ?_⟩) ?_ ?_
 rotate_left
 ·intro w'
  go_simp
  with_reducible rfl
 rotate_left
 ·simp only [Act.put, List.setIfInBounds_toArray, List.set_cons_zero, List.set_cons_succ, i64_w, i32_w]
  rfl
 refine pure_ (i := 9) (N := some 48) (v := ?_) (a' := ?_) #[true, true, true, true, false, true, true, true, false, true, false, false, false, false, false, false] rfl rfl (by kernel_rfl) (fun _ _ _ h => h) (Or.inl ⟨by rfl, ?_⟩) ?_ ?_
 rotate_left
 ·intro w'
  go_simp
  with_reducible rfl
 rotate_left
 ·simp only [Act.put, List.setIfInBounds_toArray, List.set_cons_zero, List.set_cons_succ, i64_w, i32_w]
  rfl
 refine pure_ (i := 10) (N := some 49) (v := ?_) (a' := ?_) #[true, true, true, true, false, true, true, true, false, true, true, false, false, false, false, false] rfl rfl (by kernel_rfl) (fun _ _ _ h => h) (Or.inl ⟨by rfl, ?_⟩) ?_ ?_
 rotate_left
 ·intro w'
  go_simp
  with_reducible rfl
 rotate_left
 ·simp only [Act.put, List.setIfInBounds_toArray, List.set_cons_zero, List.set_cons_succ, i64_w, i32_w]
  rfl
 refine pure_ (i := 11) (N := some 50) (v := ?_) (a' := ?_) #[true, true, true, true, false, true, true, true, false, true, true, true, false, false, false, false] rfl rfl (by kernel_rfl) (fun _ _ _ h => h) (Or.inl ⟨by rfl, ?_⟩) ?_ ?_
 rotate_left
 ·intro w'
  go_simp
  with_reducible rfl
 rotate_left
 ·simp only [Act.put, List.setIfInBounds_toArray, List.set_cons_zero, List.set_cons_succ, i64_w, i32_w]
  rfl
 refine take_ (i := 4) (N := some 43) (v := ?_) (a' := ?_) #[true, true, true, true, true, true, true, true, false, true, true, true, false, false, false, false] rfl rfl (by kernel_rfl) (fun _ _ _ h => h) (Or.inl ⟨by rfl, ?_⟩) hHeld ?_ ?_
 rotate_left
 ·rintro w' ⟨s0, s1, s2⟩
  go_simp
  with_reducible rfl
 rotate_left
 ·simp only [Act.put, List.setIfInBounds_toArray, List.set_cons_zero, List.set_cons_succ, i64_w, i32_w]
  rfl
 refine take_ (i := 8) (N := some 47) (v := ?_) (a' := ?_) #[true, true, true, true, true, true, true, true, true, true, true, true, false, false, false, false] rfl rfl (by kernel_rfl) (fun _ _ _ h => h) (Or.inl ⟨by rfl, ?_⟩) hHeld ?_ ?_
 rotate_left
 ·rintro w' ⟨s0, s1, s2⟩
  go_simp
  with_reducible rfl
 rotate_left
 ·simp only [Act.put, List.setIfInBounds_toArray, List.set_cons_zero, List.set_cons_succ, i64_w, i32_w]
  rfl
 refine take_ (i := 12) (N := some 51) (v := ?_) (a' := ?_) #[true, true, true, true, true, true, true, true, true, true, true, true, true, false, false, false] rfl rfl (by kernel_rfl) (fun _ _ _ h => h) (Or.inl ⟨by rfl, ?_⟩) hHeld ?_ ?_
 rotate_left
 ·rintro w' ⟨s0, s1, s2⟩
  go_simp
  with_reducible rfl
 rotate_left
 ·simp only [Act.put, List.setIfInBounds_toArray, List.set_cons_zero, List.set_cons_succ, i64_w, i32_w]
  rfl
 refine one_ (i := 13) (N := some 52) #[true, true, true, true, true, true, true, true, true, true, true, true, true, true, false, false] rfl rfl (by kernel_rfl) (by decide) (fun K hK => ?_)
 have Hw2 := Aside0.mk (Hw1.out.trans (Dw2.out.mono Hw1.out.size))
 refine goes_ Tryd.func106 (by kernel_rfl) rfl #[.slice A xs.length c, .slice B ys.length d] (by rfl) rfl rfl (by simp only [List.map_toArray, List.map_cons, List.map_nil]; rfl) ?_
 with_reducible refine (subDigits_calls xs ys _ _ _ (HX.out.below Hw2.out).d (HY.out.below Hw2.out).d HX.out.ok HY.out.ok (Nat.le_trans HX.out.len (by omega)) HL.out HC.out).mono ?_
 rintro e w3 ⟨v, zs, rfl, hd, hok, hl, hv, hb⟩
 refine ⟨_, rfl, ?_⟩
 have Hw3 := Aside0.mk (Hw2.out.trans (hb.mono Hw2.out.size))
 have HV := Aside0.mk (And.intro hd (And.intro hok (And.intro hl hv)))
 refine hK.out _ _ ⟨pw_cell_below hb hHeld.1, pw_cell_below hb hHeld.2.1, pw_cell_below hb hHeld.2.2⟩ (fun hHeld => ?_)
 clear hK K
 refine norm_ (a' := ?_) ?_ ?_
 rotate_left
 ·show Act.put _ (some 52) _ = _
  simp only [Act.put, List.setIfInBounds_toArray, List.set_cons_zero, List.set_cons_succ, i64_w, i32_w]
  rfl
 refine last_ (i := 14) (N := some 53) #[true, true, true, true, true, true, true, true, true, true, true, true, true, true, true, false] rfl rfl (by kernel_rfl) (by decide) (fun K hK => ?_)
 clear hb hd hok hl hv
 refine goes_ Tryd.func83 (by kernel_rfl) rfl #[.pointer (some ⟨z, 0, none⟩), .bool nx, v] (by rfl) rfl rfl (by simp only [List.map_toArray, List.map_cons, List.map_nil]; rfl) ?_
 with_reducible refine (put_big z nx v zs _ (HZ.out.below Hw3.out) HV.out.1 HV.out.2.1).mono ?_
 rintro e w4 ⟨rfl, hb2, hg2⟩
 refine ⟨_, rfl, ?_⟩
 refine hK.out _ _ ?_
 clear hK K
 refine norm_ (a' := ?_) ?_ ?_
 rotate_left
 ·show Act.put _ (some 53) _ = _
  simp only [Act.put, List.setIfInBounds_toArray, List.set_cons_zero, List.set_cons_succ, i64_w, i32_w]
  rfl
 refine pure_ (i := 15) (N := some 8) (v := ?_) (a' := ?_) #[true, true, true, true, true, true, true, true, true, true, true, true, true, true, true, true] rfl rfl (by kernel_rfl) (fun _ _ _ h => h) (Or.inl ⟨by rfl, ?_⟩) ?_ ?_
 rotate_left
 ·intro w'
  go_simp
  with_reducible rfl
 rotate_left
 ·simp only [Act.put, List.setIfInBounds_toArray, List.set_cons_zero, List.set_cons_succ, i64_w, i32_w]
  rfl
 refine done_ (by kernel_rfl) ?_
 have HG := Aside0.mk (below_z Hw3.out hg2)
 have HB := Aside0.mk hb2
 clear hb2 hg2
 try go_wp2
 go_ret
 refine ⟨rfl, ?_, HG.out⟩
 have h := HB.out
 rw [HV.out.2.2.1] at h
 rw [show bval nx xs + bval neg ys = bval nx zs from ?_]
 ·exact h.more (by omega)
 ·have := HV.out.2.2.2
  have hn := HN.out
  cases nx <;> cases neg <;> simp [bval] at hn ⊢ <;> omega
set_option maxRecDepth 100000 in
set_option maxHeartbeats 4000000 in
theorem sum_lt (z x y : Nat) (neg nx ny : Bool) (xs ys : List Int) (A B : Option Addr) (c d : Nat) (w : World) (hz : IsBig w z) (hx : Opd w x nx xs A c) (hy : Opd w y ny ys B d) (hn : nx ≠ neg) (hc : val xs < val ys) :
  Calls Tryd.prog 90 #[.pointer (some ⟨z, 0, none⟩), .pointer (some ⟨x, 0, none⟩), .pointer (some ⟨y, 0, none⟩), .bool neg] w fun e w' => e = .returned (.pointer (some ⟨z, 0, none⟩)) ∧ Big w' z (bval nx xs + bval neg ys) (max xs.length ys.length + 1) ∧ w.grownBy w' (some z) := by
 have HZ := Aside0.mk hz
 have HX := Aside0.mk hx
 have HY := Aside0.mk hy
 have HC := Aside0.mk hc
 have HL : Aside0 (xs.length ≤ ys.length) := Aside0.mk (by
  rcases Nat.lt_or_ge ys.length xs.length with h | h
  ·have := val_lt_of_length hy.ok hx.ok hx.ti h
   omega
  ·exact h)
 obtain ⟨s, hse⟩ : ∃ s, s = sgn (val xs - val ys) := ⟨_, rfl⟩
 have hs0 : s < 0 := by rw [hse, sgn, if_pos (by omega)]; omega
 have HSE := Aside0.mk hse
 have HN := Aside0.mk hn
 have hnn : (nx == neg) = false := by simpa using hn
 obtain ⟨c0, c1, -⟩ := hx
 obtain ⟨-, e1, -⟩ := hy
 clear hz hse hc hn
 go_enter Tryd.func90, Tryd.ntmps90
 go_wp2_with fail
 refine start_ (n := 11) (S := fun w' => w'.cell? ⟨x, 1, none⟩ = some (.slice A xs.length c) ∧ w'.cell? ⟨y, 1, none⟩ = some (.slice B ys.length d)) (ds := []) #[false, false, false, false, false, false, false, false, false, false, false] (by kernel_rfl) rfl rfl ⟨c1, e1⟩ (fun hHeld => ?_)
 have Dw0 := Aside0.mk ((Below.refl w.heap.size w).drew)
 generalize w.drew = w0 at hHeld Dw0 ⊢
 refine pure_ (i := 0) (N := some 29) (v := ?_) (a' := ?_) #[true, false, false, false, false, false, false, false, false, false, false] rfl rfl (by kernel_rfl) (fun _ _ _ h => h) (Or.inl ⟨by rfl, ?_⟩) ?_ ?_
 rotate_left
 ·intro w'
  go_simp
  with_reducible rfl
 rotate_left
 ·simp only [Act.put, List.setIfInBounds_toArray, List.set_cons_zero, List.set_cons_succ, i64_w, i32_w]
  rfl
 refine pure_ (i := 1) (N := some 30) (v := ?_) (a' := ?_) #[true, true, false, false, false, false, false, false, false, false, false] rfl rfl (by kernel_rfl) (fun _ _ _ h => h) (Or.inl ⟨by rfl, ?_⟩) ?_ ?_
 rotate_left
 ·intro w'
  go_simp
  with_reducible rfl
 rotate_left
 ·simp only [Act.put, List.setIfInBounds_toArray, List.set_cons_zero, List.set_cons_succ, i64_w, i32_w]
  rfl
 refine pure_ (i := 2) (N := some 31) (v := ?_) (a' := ?_) #[true, true, true, false, false, false, false, false, false, false, false] rfl rfl (by kernel_rfl) (fun _ _ _ h => h) (Or.inl ⟨by rfl, ?_⟩) ?_ ?_
 rotate_left
 ·intro w'
  go_simp
  with_reducible rfl
 rotate_left
 ·simp only [Act.put, List.setIfInBounds_toArray, List.set_cons_zero, List.set_cons_succ, i64_w, i32_w]
  rfl
 refine pure_ (i := 4) (N := some 33) (v := ?_) (a' := ?_) #[true, true, true, false, true, false, false, false, false, false, false] rfl rfl (by kernel_rfl) (fun _ _ _ h => h) (Or.inl ⟨by rfl, ?_⟩) ?_ ?_
 rotate_left
 ·intro w'
  go_simp
  with_reducible rfl
 rotate_left
 ·simp only [Act.put, List.setIfInBounds_toArray, List.set_cons_zero, List.set_cons_succ, i64_w, i32_w]
  rfl
 refine pure_ (i := 5) (N := some 34) (v := ?_) (a' := ?_) #[true, true, true, false, true, true, false, false, false, false, false] rfl rfl (by kernel_rfl) (fun _ _ _ h => h) (Or.inl ⟨by rfl, ?_⟩) ?_ ?_
 rotate_left
 ·intro w'
  go_simp
  with_reducible rfl
 rotate_left
 ·simp only [Act.put, List.setIfInBounds_toArray, List.set_cons_zero, List.set_cons_succ, i64_w, i32_w]
  rfl
 refine pure_ (i := 6) (N := some 35) (v := ?_) (a' := ?_) #[true, true, true, false, true, true, true, false, false, false, false] rfl rfl (by kernel_rfl) (fun _ _ _ h => h) (Or.inl ⟨by rfl, ?_⟩) ?_ ?_
 rotate_left
 ·intro w'
  go_simp
  with_reducible rfl
 rotate_left
 ·simp only [Act.put, List.setIfInBounds_toArray, List.set_cons_zero, List.set_cons_succ, i64_w, i32_w]
  rfl
 refine take_ (i := 3) (N := some 32) (v := ?_) (a' := ?_) #[true, true, true, true, true, true, true, false, false, false, false] rfl rfl (by kernel_rfl) (fun _ _ _ h => h) (Or.inl ⟨by rfl, ?_⟩) hHeld ?_ ?_
 rotate_left
 ·rintro w' ⟨s0, s1⟩
  go_simp
  with_reducible rfl
 rotate_left
 ·simp only [Act.put, List.setIfInBounds_toArray, List.set_cons_zero, List.set_cons_succ, i64_w, i32_w]
  rfl
 refine take_ (i := 7) (N := some 36) (v := ?_) (a' := ?_) #[true, true, true, true, true, true, true, true, false, false, false] rfl rfl (by kernel_rfl) (fun _ _ _ h => h) (Or.inl ⟨by rfl, ?_⟩) hHeld ?_ ?_
 rotate_left
 ·rintro w' ⟨s0, s1⟩
  go_simp
  with_reducible rfl
 rotate_left
 ·simp only [Act.put, List.setIfInBounds_toArray, List.set_cons_zero, List.set_cons_succ, i64_w, i32_w]
  rfl
 refine one_ (i := 8) (N := some 37) #[true, true, true, true, true, true, true, true, true, false, false] rfl rfl (by kernel_rfl) (by decide) (fun K hK => ?_)
 refine goes_ Tryd.func91 (by kernel_rfl) rfl #[.slice A xs.length c, .slice B ys.length d] (by rfl) rfl rfl (by simp only [List.map_toArray, List.map_cons, List.map_nil]; rfl) ?_
 with_reducible refine (cmpDigits_calls xs ys _ _ _ (HX.out.below Dw0.out).d (HY.out.below Dw0.out).d HX.out.ok HY.out.ok HX.out.ti HY.out.ti (Nat.le_trans HX.out.len (by omega)) (Nat.le_trans HY.out.len (by omega))).mono ?_
 rintro e w1 ⟨rfl, hb⟩
 refine ⟨_, rfl, ?_⟩
 have Hw1 := Aside0.mk (Dw0.out.trans (hb.mono Dw0.out.size))
 rw [← HSE.out]
 refine hK.out _ _ ⟨pw_cell_below hb hHeld.1, pw_cell_below hb hHeld.2⟩ (fun hHeld => ?_)
 clear hK K
 refine norm_ (a' := ?_) ?_ ?_
 rotate_left
 ·show Act.put _ (some 37) _ = _
  simp only [Act.put, List.setIfInBounds_toArray, List.set_cons_zero, List.set_cons_succ, i64_w, i32_w]
  rfl
 refine pure_ (i := 9) (N := some 38) (v := ?_) (a' := ?_) #[true, true, true, true, true, true, true, true, true, true, false] rfl rfl (by kernel_rfl) (fun _ _ _ h => h) (Or.inl ⟨by rfl, ?_⟩) ?_ ?_
 rotate_left
 ·intro w'
  go_simp
  with_reducible rfl
 rotate_left
 ·simp only [Act.put, List.setIfInBounds_toArray, List.set_cons_zero, List.set_cons_succ, i64_w, i32_w]
  rfl
 refine pure_ (i := 10) (N := some 28) (v := ?_) (a' := ?_) #[true, true, true, true, true, true, true, true, true, true, true] rfl rfl (by kernel_rfl) (fun _ _ _ h => h) (Or.inl ⟨by rfl, ?_⟩) ?_ ?_
 rotate_left
 ·intro w'
  go_simp
  with_reducible rfl
 rotate_left
 ·simp only [Act.put, List.setIfInBounds_toArray, List.set_cons_zero, List.set_cons_succ, i64_w, i32_w]
  rfl
 refine done_ (by kernel_rfl) ?_
 clear hb
 have k0 := pw_cell_below Hw1.out c0
 have k1 := pw_cell_below Hw1.out c1
 have l1 := pw_cell_below Hw1.out e1
 clear c0 c1 e1
 try go_wp2
 refine start_ (n := 13) (S := fun w' => w'.cell? ⟨x, 1, none⟩ = some (.slice A xs.length c) ∧ w'.cell? ⟨y, 1, none⟩ = some (.slice B ys.length d)) (ds := [11]) #[false, false, false, false, false, false, false, false, false, false, false, false, false] (by kernel_rfl) rfl rfl ⟨k1, l1⟩ (fun hHeld => ?_)
 have Dw2 := Aside0.mk ((Below.refl w1.heap.size w1).drew)
 generalize w1.drew = w2 at hHeld Dw2 ⊢
 refine pure_ (i := 0) (N := some 54) (v := ?_) (a' := ?_) #[true, false, false, false, false, false, false, false, false, false, false, false, false] rfl rfl (by kernel_rfl) (fun _ _ _ h => h) (Or.inl ⟨by rfl, ?_⟩) ?_ ?_
 rotate_left
 ·intro w'
  go_simp
  with_reducible rfl
 rotate_left
 ·simp only [Act.put, List.setIfInBounds_toArray, List.set_cons_zero, List.set_cons_succ, i64_w, i32_w]
  rfl
 refine pure_ (i := 1) (N := some 55) (v := ?_) (a' := ?_) #[true, true, false, false, false, false, false, false, false, false, false, false, false] rfl rfl (by kernel_rfl) (fun _ _ _ h => h) (Or.inl ⟨by rfl, ?_⟩) ?_ ?_
 rotate_left
 ·intro w'
  go_simp
  with_reducible rfl
 rotate_left
 ·simp only [Act.put, List.setIfInBounds_toArray, List.set_cons_zero, List.set_cons_succ, i64_w, i32_w]
  rfl
 refine pure_ (i := 2) (N := some 56) (v := ?_) (a' := ?_) #[true, true, true, false, false, false, false, false, false, false, false, false, false] rfl rfl (by kernel_rfl) (fun _ _ _ h => h) (Or.inl ⟨by rfl, ?_⟩) ?_ ?_
 rotate_left
 ·intro w'
  go_simp
  with_reducible rfl
 rotate_left
 ·simp only [Act.put, List.setIfInBounds_toArray, List.set_cons_zero, List.set_cons_succ, i64_w, i32_w]
  rfl
 refine pure_ (i := 3) (N := some 57) (v := ?_) (a' := ?_) #[true, true, true, true, false, false, false, false, false, false, false, false, false] rfl rfl (by kernel_rfl) (fun _ _ _ h => h) (Or.inl ⟨by rfl, ?_⟩) ?_ ?_
 rotate_left
 ·intro w'
  go_simp
  with_reducible rfl
 rotate_left
 ·simp only [Act.put, List.setIfInBounds_toArray, List.set_cons_zero, List.set_cons_succ, i64_w, i32_w]
  rfl
 refine pure_ (i := 4) (N := some 58) (v := ?_) (a' := ?_) #[true, true, true, true, true, false, false, false, false, false, false, false, false] rfl rfl (by kernel_rfl) (fun _ _ _ h => h) (Or.inl ⟨by rfl, ?_⟩) ?_ ?_
 rotate_left
 ·intro w'
  go_simp
  with_reducible rfl
 rotate_left
 ·simp only [Act.put, List.setIfInBounds_toArray, List.set_cons_zero, List.set_cons_succ, i64_w, i32_w]
  rfl
 refine pure_ (i := 6) (N := some 60) (v := ?_) (a' := ?_) #[true, true, true, true, true, false, true, false, false, false, false, false, false] rfl rfl (by kernel_rfl) (fun _ _ _ h => h) (Or.inl ⟨by rfl, ?_⟩) ?_ ?_
 rotate_left
 ·intro w'
  go_simp
  with_reducible rfl
 rotate_left
 ·simp only [Act.put, List.setIfInBounds_toArray, List.set_cons_zero, List.set_cons_succ, i64_w, i32_w]
  rfl
 refine pure_ (i := 7) (N := some 61) (v := ?_) (a' := ?_) #[true, true, true, true, true, false, true, true, false, false, false, false, false] rfl rfl (by kernel_rfl) (fun _ _ _ h => h) (Or.inl ⟨by rfl, ?_⟩) ?_ ?_
 rotate_left
 ·intro w'
  go_simp
  with_reducible rfl
 rotate_left
 ·simp only [Act.put, List.setIfInBounds_toArray, List.set_cons_zero, List.set_cons_succ, i64_w, i32_w]
  rfl
 refine pure_ (i := 8) (N := some 62) (v := ?_) (a' := ?_) #[true, true, true, true, true, false, true, true, true, false, false, false, false] rfl rfl (by kernel_rfl) (fun _ _ _ h => h) (Or.inl ⟨by rfl, ?_⟩) ?_ ?_
 rotate_left
 ·intro w'
  go_simp
  with_reducible rfl
 rotate_left
 ·simp only [Act.put, List.setIfInBounds_toArray, List.set_cons_zero, List.set_cons_succ, i64_w, i32_w]
  rfl
 refine take_ (i := 5) (N := some 59) (v := ?_) (a' := ?_) #[true, true, true, true, true, true, true, true, true, false, false, false, false] rfl rfl (by kernel_rfl) (fun _ _ _ h => h) (Or.inl ⟨by rfl, ?_⟩) hHeld ?_ ?_
 rotate_left
 ·rintro w' ⟨s0, s1⟩
  go_simp
  with_reducible rfl
 rotate_left
 ·simp only [Act.put, List.setIfInBounds_toArray, List.set_cons_zero, List.set_cons_succ, i64_w, i32_w]
  rfl
 refine take_ (i := 9) (N := some 63) (v := ?_) (a' := ?_) #[true, true, true, true, true, true, true, true, true, true, false, false, false] rfl rfl (by kernel_rfl) (fun _ _ _ h => h) (Or.inl ⟨by rfl, ?_⟩) hHeld ?_ ?_
 rotate_left
 ·rintro w' ⟨s0, s1⟩
  go_simp
  with_reducible rfl
 rotate_left
 ·simp only [Act.put, List.setIfInBounds_toArray, List.set_cons_zero, List.set_cons_succ, i64_w, i32_w]
  rfl
 refine one_ (i := 10) (N := some 64) #[true, true, true, true, true, true, true, true, true, true, true, false, false] rfl rfl (by kernel_rfl) (by decide) (fun K hK => ?_)
 have Hw2 := Aside0.mk (Hw1.out.trans (Dw2.out.mono Hw1.out.size))
 refine goes_ Tryd.func106 (by kernel_rfl) rfl #[.slice B ys.length d, .slice A xs.length c] (by rfl) rfl rfl (by simp only [List.map_toArray, List.map_cons, List.map_nil]; rfl) ?_
 with_reducible refine (subDigits_calls ys xs _ _ _ (HY.out.below Hw2.out).d (HX.out.below Hw2.out).d HY.out.ok HX.out.ok (Nat.le_trans HY.out.len (by omega)) HL.out (Int.le_of_lt HC.out)).mono ?_
 rintro e w3 ⟨v, zs, rfl, hd, hok, hl, hv, hb⟩
 refine ⟨_, rfl, ?_⟩
 have Hw3 := Aside0.mk (Hw2.out.trans (hb.mono Hw2.out.size))
 have HV := Aside0.mk (And.intro hd (And.intro hok (And.intro hl hv)))
 refine hK.out _ _ ⟨pw_cell_below hb hHeld.1, pw_cell_below hb hHeld.2⟩ (fun hHeld => ?_)
 clear hK K
 refine norm_ (a' := ?_) ?_ ?_
 rotate_left
 ·show Act.put _ (some 64) _ = _
  simp only [Act.put, List.setIfInBounds_toArray, List.set_cons_zero, List.set_cons_succ, i64_w, i32_w]
  rfl
 refine last_ (i := 11) (N := some 65) #[true, true, true, true, true, true, true, true, true, true, true, true, false] rfl rfl (by kernel_rfl) (by decide) (fun K hK => ?_)
 clear hb hd hok hl hv
 refine goes_ Tryd.func83 (by kernel_rfl) rfl #[.pointer (some ⟨z, 0, none⟩), .bool neg, v] (by rfl) rfl rfl (by simp only [List.map_toArray, List.map_cons, List.map_nil]; rfl) ?_
 with_reducible refine (put_big z neg v zs _ (HZ.out.below Hw3.out) HV.out.1 HV.out.2.1).mono ?_
 rintro e w4 ⟨rfl, hb2, hg2⟩
 refine ⟨_, rfl, ?_⟩
 refine hK.out _ _ ?_
 clear hK K
 refine norm_ (a' := ?_) ?_ ?_
 rotate_left
 ·show Act.put _ (some 65) _ = _
  simp only [Act.put, List.setIfInBounds_toArray, List.set_cons_zero, List.set_cons_succ, i64_w, i32_w]
  rfl
 refine pure_ (i := 12) (N := some 8) (v := ?_) (a' := ?_) #[true, true, true, true, true, true, true, true, true, true, true, true, true] rfl rfl (by kernel_rfl) (fun _ _ _ h => h) (Or.inl ⟨by rfl, ?_⟩) ?_ ?_
 rotate_left
 ·intro w'
  go_simp
  with_reducible rfl
 rotate_left
 ·simp only [Act.put, List.setIfInBounds_toArray, List.set_cons_zero, List.set_cons_succ, i64_w, i32_w]
  rfl
 refine done_ (by kernel_rfl) ?_
 have HG := Aside0.mk (below_z Hw3.out hg2)
 have HB := Aside0.mk hb2
 clear hb2 hg2
 try go_wp2
 go_ret
 refine ⟨rfl, ?_, HG.out⟩
 have h := HB.out
 rw [HV.out.2.2.1] at h
 rw [show bval nx xs + bval neg ys = bval neg zs from ?_]
 ·exact h.more (by omega)
 ·have := HV.out.2.2.2
  have hn := HN.out
  cases nx <;> cases neg <;> simp [bval] at hn ⊢ <;> omega
theorem sum_calls (z x y : Nat) (neg ny : Bool) (ys : List Int) (n : Int) (m : Nat) (B : Option Addr) (d : Nat) (w : World) (hz : IsBig w z) (hx : Big w x n m) (hm : m ≤ 1000000) (hy : Opd w y ny ys B d) :
  Calls Tryd.prog 90 #[.pointer (some ⟨z, 0, none⟩), .pointer (some ⟨x, 0, none⟩), .pointer (some ⟨y, 0, none⟩), .bool neg] w fun e w' => e = .returned (.pointer (some ⟨z, 0, none⟩)) ∧ Big w' z (n + bval neg ys) (max m ys.length + 1) ∧ w.grownBy w' (some z) := by
 obtain ⟨nx, xs, A, c, hxo, rfl, hlm⟩ := hx.opd hm
 have key : Calls Tryd.prog 90 #[.pointer (some ⟨z, 0, none⟩), .pointer (some ⟨x, 0, none⟩), .pointer (some ⟨y, 0, none⟩), .bool neg] w fun e w' => e = .returned (.pointer (some ⟨z, 0, none⟩)) ∧ Big w' z (bval nx xs + bval neg ys) (max xs.length ys.length + 1) ∧ w.grownBy w' (some z) := by
  by_cases hn : nx = neg
  ·subst hn
   exact sum_same z x y nx ny xs ys A B c d w hz hxo hy
  ·rcases Int.lt_or_le (val xs) (val ys) with h | h
   ·exact sum_lt z x y neg nx ny xs ys A B c d w hz hxo hy hn h
   ·exact sum_ge z x y neg nx ny xs ys A B c d w hz hxo hy hn h
 refine key.mono ?_
 rintro e w' ⟨h1, h2, h3⟩
 exact ⟨h1, h2.more (by omega), h3⟩
set_option maxHeartbeats 400000 in
theorem add_calls (z x y : Nat) (n k : Int) (m m' : Nat) (w : World) (hz : IsBig w z) (hx : Big w x n m) (hm : m ≤ 1000000) (hy : Big w y k m') (hm' : m' ≤ 1000000) :
  Calls Tryd.prog 50 #[.pointer (some ⟨z, 0, none⟩), .pointer (some ⟨x, 0, none⟩), .pointer (some ⟨y, 0, none⟩)] w fun e w' => e = .returned (.pointer (some ⟨z, 0, none⟩)) ∧ Big w' z (n + k) (max m m' + 1) ∧ w.grownBy w' (some z) := by
 obtain ⟨ny, ys, B, d, hyo, rfl, hlm⟩ := hy.opd hm'
 have HZ := Aside0.mk hz
 have HX := Aside0.mk hx
 have HY := Aside0.mk hyo
 obtain ⟨e0, -⟩ := hyo
 clear hz hx hy
 go_enter Tryd.func50, Tryd.ntmps50
 go_wp2_with fail
 refine (sum_calls z x y ny ny ys n m B d _ HZ.out HX.out hm HY.out).mono ?_
 rintro e w' ⟨rfl, hb, hg⟩
 have HB := Aside0.mk (hb.more (m' := max m m' + 1) (by omega))
 have HG := Aside0.mk hg
 clear hb hg
 go_wp2
 go_ret
 exact ⟨rfl, HB.out, HG.out⟩
set_option maxHeartbeats 400000 in
theorem sub_calls (z x y : Nat) (n k : Int) (m m' : Nat) (w : World) (hz : IsBig w z) (hx : Big w x n m) (hm : m ≤ 1000000) (hy : Big w y k m') (hm' : m' ≤ 1000000) :
  Calls Tryd.prog 55 #[.pointer (some ⟨z, 0, none⟩), .pointer (some ⟨x, 0, none⟩), .pointer (some ⟨y, 0, none⟩)] w fun e w' => e = .returned (.pointer (some ⟨z, 0, none⟩)) ∧ Big w' z (n - k) (max m m' + 1) ∧ w.grownBy w' (some z) := by
 obtain ⟨ny, ys, B, d, hyo, rfl, hlm⟩ := hy.opd hm'
 have HZ := Aside0.mk hz
 have HX := Aside0.mk hx
 have HY := Aside0.mk hyo
 obtain ⟨e0, -⟩ := hyo
 clear hz hx hy
 go_enter Tryd.func55, Tryd.ntmps55
 go_wp2_with fail
 refine (sum_calls z x y (!ny) ny ys n m B d _ HZ.out HX.out hm HY.out).mono ?_
 rintro e w' ⟨rfl, hb, hg⟩
 rw [bval_not, ← Int.sub_eq_add_neg] at hb
 have HB := Aside0.mk (hb.more (m' := max m m' + 1) (by omega))
 have HG := Aside0.mk hg
 clear hb hg
 go_wp2
 go_ret
 exact ⟨rfl, HB.out, HG.out⟩
theorem sgn_neg_sub (a b : Int) : sgn (b - a) = sgn (-a - -b) := by rw [show -a - -b = b - a from by omega]
set_option maxRecDepth 100000 in
set_option maxHeartbeats 2000000 in
theorem cmp_calls (x y : Nat) (n k : Int) (m m' : Nat) (w : World) (hx : Big w x n m) (hm : m ≤ 1000000) (hy : Big w y k m') (hm' : m' ≤ 1000000) :
  Calls Tryd.prog 51 #[.pointer (some ⟨x, 0, none⟩), .pointer (some ⟨y, 0, none⟩)] w fun e w' => e = .returned (.int .i64 (sgn (n - k))) ∧ Below w.heap.size w w' := by
 obtain ⟨nx, xs, A, c, hxo, rfl, hlx⟩ := hx.opd hm
 obtain ⟨ny, ys, B, d, hyo, rfl, hly⟩ := hy.opd hm'
 have HX := Aside0.mk hxo
 have HY := Aside0.mk hyo
 have vx := val_nonneg hxo.ok
 have vy := val_nonneg hyo.ok
 have px : nx = true → 0 < val xs := fun h => by
  have := val_eq_zero hxo.ok hxo.ti
  have h0 : val xs ≠ 0 := fun h' => hxo.ne h (this.1 h')
  omega
 have py : ny = true → 0 < val ys := fun h => by
  have := val_eq_zero hyo.ok hyo.ti
  have h0 : val ys ≠ 0 := fun h' => hyo.ne h (this.1 h')
  omega
 obtain ⟨c0, c1, -⟩ := hxo
 obtain ⟨e0, e1, -⟩ := hyo
 clear hx hy
 cases nx <;> cases ny
 ·clear px py vx vy
  go_enter Tryd.func51, Tryd.ntmps51
  go_wp2_with fail
  refine start_ (n := 10) (S := fun w' => w'.cell? ⟨x, 1, none⟩ = some (.slice A xs.length c) ∧ w'.cell? ⟨y, 1, none⟩ = some (.slice B ys.length d)) (ds := [8]) #[false, false, false, false, false, false, false, false, false, false] (by kernel_rfl) rfl rfl ⟨c1, e1⟩ (fun hHeld => ?_)
  have Dw0 := Aside0.mk ((Below.refl w.heap.size w).drew)
  generalize w.drew = w0 at hHeld Dw0 ⊢
  refine pure_ (i := 0) (N := some 43) (v := ?_) (a' := ?_) #[true, false, false, false, false, false, false, false, false, false] rfl rfl (by kernel_rfl) (fun _ _ _ h => h) (Or.inl ⟨by rfl, ?_⟩) ?_ ?_
  rotate_left
  ·intro w'
   go_simp
   with_reducible rfl
  rotate_left
  ·simp only [Act.put, List.setIfInBounds_toArray, List.set_cons_zero, List.set_cons_succ, i64_w, i32_w]
   rfl
  refine pure_ (i := 1) (N := some 44) (v := ?_) (a' := ?_) #[true, true, false, false, false, false, false, false, false, false] rfl rfl (by kernel_rfl) (fun _ _ _ h => h) (Or.inl ⟨by rfl, ?_⟩) ?_ ?_
  rotate_left
  ·intro w'
   go_simp
   with_reducible rfl
  rotate_left
  ·simp only [Act.put, List.setIfInBounds_toArray, List.set_cons_zero, List.set_cons_succ, i64_w, i32_w]
   rfl
  refine pure_ (i := 2) (N := some 45) (v := ?_) (a' := ?_) #[true, true, true, false, false, false, false, false, false, false] rfl rfl (by kernel_rfl) (fun _ _ _ h => h) (Or.inl ⟨by rfl, ?_⟩) ?_ ?_
  rotate_left
  ·intro w'
   go_simp
   with_reducible rfl
  rotate_left
  ·simp only [Act.put, List.setIfInBounds_toArray, List.set_cons_zero, List.set_cons_succ, i64_w, i32_w]
   rfl
  refine pure_ (i := 4) (N := some 47) (v := ?_) (a' := ?_) #[true, true, true, false, true, false, false, false, false, false] rfl rfl (by kernel_rfl) (fun _ _ _ h => h) (Or.inl ⟨by rfl, ?_⟩) ?_ ?_
  rotate_left
  ·intro w'
   go_simp
   with_reducible rfl
  rotate_left
  ·simp only [Act.put, List.setIfInBounds_toArray, List.set_cons_zero, List.set_cons_succ, i64_w, i32_w]
   rfl
  refine pure_ (i := 5) (N := some 48) (v := ?_) (a' := ?_) #[true, true, true, false, true, true, false, false, false, false] rfl rfl (by kernel_rfl) (fun _ _ _ h => h) (Or.inl ⟨by rfl, ?_⟩) ?_ ?_
  rotate_left
  ·intro w'
   go_simp
   with_reducible rfl
  rotate_left
  ·simp only [Act.put, List.setIfInBounds_toArray, List.set_cons_zero, List.set_cons_succ, i64_w, i32_w]
   rfl
  refine pure_ (i := 6) (N := some 49) (v := ?_) (a' := ?_) #[true, true, true, false, true, true, true, false, false, false] rfl rfl (by kernel_rfl) (fun _ _ _ h => h) (Or.inl ⟨by rfl, ?_⟩) ?_ ?_
  rotate_left
  ·intro w'
   go_simp
   with_reducible rfl
  rotate_left
  ·simp only [Act.put, List.setIfInBounds_toArray, List.set_cons_zero, List.set_cons_succ, i64_w, i32_w]
   rfl
  refine take_ (i := 3) (N := some 46) (v := ?_) (a' := ?_) #[true, true, true, true, true, true, true, false, false, false] rfl rfl (by kernel_rfl) (fun _ _ _ h => h) (Or.inl ⟨by rfl, ?_⟩) hHeld ?_ ?_
  rotate_left
  ·rintro w' ⟨s0, s1⟩
   go_simp
   with_reducible rfl
  rotate_left
  ·simp only [Act.put, List.setIfInBounds_toArray, List.set_cons_zero, List.set_cons_succ, i64_w, i32_w]
   rfl
  refine take_ (i := 7) (N := some 50) (v := ?_) (a' := ?_) #[true, true, true, true, true, true, true, true, false, false] rfl rfl (by kernel_rfl) (fun _ _ _ h => h) (Or.inl ⟨by rfl, ?_⟩) hHeld ?_ ?_
  rotate_left
  ·rintro w' ⟨s0, s1⟩
   go_simp
   with_reducible rfl
  rotate_left
  ·simp only [Act.put, List.setIfInBounds_toArray, List.set_cons_zero, List.set_cons_succ, i64_w, i32_w]
   rfl
  refine last_ (i := 8) (N := some 51) #[true, true, true, true, true, true, true, true, true, false] rfl rfl (by kernel_rfl) (by decide) (fun K hK => ?_)
  refine goes_ Tryd.func91 (by kernel_rfl) rfl #[.slice A xs.length c, .slice B ys.length d] (by rfl) rfl rfl (by simp only [List.map_toArray, List.map_cons, List.map_nil]; rfl) ?_
  with_reducible refine (cmpDigits_calls xs ys _ _ _ (HX.out.below Dw0.out).d (HY.out.below Dw0.out).d HX.out.ok HY.out.ok HX.out.ti HY.out.ti (Nat.le_trans HX.out.len (by omega)) (Nat.le_trans HY.out.len (by omega))).mono ?_
  rintro e w1 ⟨rfl, hb⟩
  refine ⟨_, rfl, ?_⟩
  have Hw1 := Aside0.mk (Dw0.out.trans (hb.mono Dw0.out.size))
  refine hK.out _ _ ?_
  clear hK K
  refine norm_ (a' := ?_) ?_ ?_
  rotate_left
  ·show Act.put _ (some 51) _ = _
   simp only [Act.put, List.setIfInBounds_toArray, List.set_cons_zero, List.set_cons_succ, i64_w, i32_w]
   rfl
  refine pure_ (i := 9) (N := some 4) (v := ?_) (a' := ?_) #[true, true, true, true, true, true, true, true, true, true] rfl rfl (by kernel_rfl) (fun _ _ _ h => h) (Or.inl ⟨by rfl, ?_⟩) ?_ ?_
  rotate_left
  ·intro w'
   go_simp
   with_reducible rfl
  rotate_left
  ·simp only [Act.put, List.setIfInBounds_toArray, List.set_cons_zero, List.set_cons_succ, i64_w, i32_w]
   rfl
  refine done_ (by kernel_rfl) ?_
  clear hb
  try go_wp2
  go_ret
  exact ⟨rfl, Hw1.out⟩
 ·have h : sgn (bval false xs - bval true ys) = 1 := by
   have := py rfl
   simp only [bval, sgn, Bool.false_eq_true, if_false, if_true]
   rw [if_neg (by omega), if_neg (by omega)]
  have H := Aside0.mk h
  clear px py vx vy h
  go_enter Tryd.func51, Tryd.ntmps51
  go_wp2
  go_ret
  exact ⟨by rw [H.out]; rfl, Below.refl _ _⟩
 ·have h : sgn (bval true xs - bval false ys) = -1 := by
   have := px rfl
   simp only [bval, sgn, Bool.false_eq_true, if_false, if_true]
   rw [if_pos (by omega)]
  have H := Aside0.mk h
  clear px py vx vy h
  go_enter Tryd.func51, Tryd.ntmps51
  go_wp2
  go_ret
  exact ⟨by rw [H.out]; rfl, Below.refl _ _⟩
 ·clear px py vx vy
  go_enter Tryd.func51, Tryd.ntmps51
  go_wp2_with fail
  refine start_ (n := 10) (S := fun w' => w'.cell? ⟨x, 1, none⟩ = some (.slice A xs.length c) ∧ w'.cell? ⟨y, 1, none⟩ = some (.slice B ys.length d)) (ds := [8]) #[false, false, false, false, false, false, false, false, false, false] (by kernel_rfl) rfl rfl ⟨c1, e1⟩ (fun hHeld => ?_)
  have Dw0 := Aside0.mk ((Below.refl w.heap.size w).drew)
  generalize w.drew = w0 at hHeld Dw0 ⊢
  refine pure_ (i := 0) (N := some 34) (v := ?_) (a' := ?_) #[true, false, false, false, false, false, false, false, false, false] rfl rfl (by kernel_rfl) (fun _ _ _ h => h) (Or.inl ⟨by rfl, ?_⟩) ?_ ?_
  rotate_left
  ·intro w'
   go_simp
   with_reducible rfl
  rotate_left
  ·simp only [Act.put, List.setIfInBounds_toArray, List.set_cons_zero, List.set_cons_succ, i64_w, i32_w]
   rfl
  refine pure_ (i := 1) (N := some 35) (v := ?_) (a' := ?_) #[true, true, false, false, false, false, false, false, false, false] rfl rfl (by kernel_rfl) (fun _ _ _ h => h) (Or.inl ⟨by rfl, ?_⟩) ?_ ?_
  rotate_left
  ·intro w'
   go_simp
   with_reducible rfl
  rotate_left
  ·simp only [Act.put, List.setIfInBounds_toArray, List.set_cons_zero, List.set_cons_succ, i64_w, i32_w]
   rfl
  refine pure_ (i := 2) (N := some 36) (v := ?_) (a' := ?_) #[true, true, true, false, false, false, false, false, false, false] rfl rfl (by kernel_rfl) (fun _ _ _ h => h) (Or.inl ⟨by rfl, ?_⟩) ?_ ?_
  rotate_left
  ·intro w'
   go_simp
   with_reducible rfl
  rotate_left
  ·simp only [Act.put, List.setIfInBounds_toArray, List.set_cons_zero, List.set_cons_succ, i64_w, i32_w]
   rfl
  refine pure_ (i := 4) (N := some 38) (v := ?_) (a' := ?_) #[true, true, true, false, true, false, false, false, false, false] rfl rfl (by kernel_rfl) (fun _ _ _ h => h) (Or.inl ⟨by rfl, ?_⟩) ?_ ?_
  rotate_left
  ·intro w'
   go_simp
   with_reducible rfl
  rotate_left
  ·simp only [Act.put, List.setIfInBounds_toArray, List.set_cons_zero, List.set_cons_succ, i64_w, i32_w]
   rfl
  refine pure_ (i := 5) (N := some 39) (v := ?_) (a' := ?_) #[true, true, true, false, true, true, false, false, false, false] rfl rfl (by kernel_rfl) (fun _ _ _ h => h) (Or.inl ⟨by rfl, ?_⟩) ?_ ?_
  rotate_left
  ·intro w'
   go_simp
   with_reducible rfl
  rotate_left
  ·simp only [Act.put, List.setIfInBounds_toArray, List.set_cons_zero, List.set_cons_succ, i64_w, i32_w]
   rfl
  refine pure_ (i := 6) (N := some 40) (v := ?_) (a' := ?_) #[true, true, true, false, true, true, true, false, false, false] rfl rfl (by kernel_rfl) (fun _ _ _ h => h) (Or.inl ⟨by rfl, ?_⟩) ?_ ?_
  rotate_left
  ·intro w'
   go_simp
   with_reducible rfl
  rotate_left
  ·simp only [Act.put, List.setIfInBounds_toArray, List.set_cons_zero, List.set_cons_succ, i64_w, i32_w]
   rfl
  refine take_ (i := 3) (N := some 37) (v := ?_) (a' := ?_) #[true, true, true, true, true, true, true, false, false, false] rfl rfl (by kernel_rfl) (fun _ _ _ h => h) (Or.inl ⟨by rfl, ?_⟩) hHeld ?_ ?_
  rotate_left
  ·rintro w' ⟨s0, s1⟩
   go_simp
   with_reducible rfl
  rotate_left
  ·simp only [Act.put, List.setIfInBounds_toArray, List.set_cons_zero, List.set_cons_succ, i64_w, i32_w]
   rfl
  refine take_ (i := 7) (N := some 41) (v := ?_) (a' := ?_) #[true, true, true, true, true, true, true, true, false, false] rfl rfl (by kernel_rfl) (fun _ _ _ h => h) (Or.inl ⟨by rfl, ?_⟩) hHeld ?_ ?_
  rotate_left
  ·rintro w' ⟨s0, s1⟩
   go_simp
   with_reducible rfl
  rotate_left
  ·simp only [Act.put, List.setIfInBounds_toArray, List.set_cons_zero, List.set_cons_succ, i64_w, i32_w]
   rfl
  refine last_ (i := 8) (N := some 42) #[true, true, true, true, true, true, true, true, true, false] rfl rfl (by kernel_rfl) (by decide) (fun K hK => ?_)
  refine goes_ Tryd.func91 (by kernel_rfl) rfl #[.slice B ys.length d, .slice A xs.length c] (by rfl) rfl rfl (by simp only [List.map_toArray, List.map_cons, List.map_nil]; rfl) ?_
  with_reducible refine (cmpDigits_calls ys xs _ _ _ (HY.out.below Dw0.out).d (HX.out.below Dw0.out).d HY.out.ok HX.out.ok HY.out.ti HX.out.ti (Nat.le_trans HY.out.len (by omega)) (Nat.le_trans HX.out.len (by omega))).mono ?_
  rintro e w1 ⟨rfl, hb⟩
  refine ⟨_, rfl, ?_⟩
  have Hw1 := Aside0.mk (Dw0.out.trans (hb.mono Dw0.out.size))
  refine hK.out _ _ ?_
  clear hK K
  refine norm_ (a' := ?_) ?_ ?_
  rotate_left
  ·show Act.put _ (some 42) _ = _
   simp only [Act.put, List.setIfInBounds_toArray, List.set_cons_zero, List.set_cons_succ, i64_w, i32_w]
   rfl
  refine pure_ (i := 9) (N := some 4) (v := ?_) (a' := ?_) #[true, true, true, true, true, true, true, true, true, true] rfl rfl (by kernel_rfl) (fun _ _ _ h => h) (Or.inl ⟨by rfl, ?_⟩) ?_ ?_
  rotate_left
  ·intro w'
   go_simp
   with_reducible rfl
  rotate_left
  ·simp only [Act.put, List.setIfInBounds_toArray, List.set_cons_zero, List.set_cons_succ, i64_w, i32_w]
   rfl
  refine done_ (by kernel_rfl) ?_
  clear hb
  try go_wp2
  go_ret
  exact ⟨by rw [sgn_neg_sub]; rfl, Hw1.out⟩
end Go.Proofs.YtlkomiiijhphnaaDoor.Big
/- The library's LeadingZeros32, by the kit's proved contract, at this translation's numbers. No conditions but the argument's range. -/
/- The walks of BitLen and Whole.value. Conditions: the pointers lead to bigInts of at most 1000000 digits; the limbs are limbs, at most 900000. -/
/- The walks of Int64 and IsInt64. Conditions: the pointer leads to a bigInt of at most 1000000 digits. -/
namespace Go.Proofs.YtlkomiiijhphnaaDoor.Big
open Go.RowKit Go.Proofs.YtlkomiiijhphnaaDoorW.PrintWords Go.Proofs.YtlkomiiijhphnaaDoorW.PrintLast Go.Proofs.YtlkomiiijhphnaaDoorW.PrintMore Go.Proofs.YtlkomiiijhphnaaDoor.Math
set_option linter.unusedVariables false
set_option linter.unusedSimpArgs false
set_option maxHeartbeats 2000000 in
theorem lsh_walk (z x n : Nat) (nx : Bool) (xs : List Int) (A : Option Addr) (c : Nat) (w : World) (hz : IsBig w z) (hx : Opd w x nx xs A c) (hn : n ≤ 1000000) :
  Calls Tryd.prog 84 #[.pointer (some ⟨z, 0, none⟩), .pointer (some ⟨x, 0, none⟩), .int .u64 n] w fun e w' => e = .returned (.pointer (some ⟨z, 0, none⟩)) ∧ Big w' z (bval nx xs * 2 ^ n) (xs.length + n / 32 + 1) ∧ w.grownBy w' (some z) := by
 have HZ := Aside0.mk hz
 have HX := Aside0.mk hx
 obtain ⟨c0, c1, -, -, -, -, hlen⟩ := hx
 have c1' := fun o => pw_cell_below (below_alloc (Below.refl w.heap.size w) o) c1
 clear hz
 have hmk := fun W => run_make_row' (P := Tryd.prog) 46 85 (.int .u32 0) 4 Tryd.underlying46 info32 rfl .i64 .i64 (xs.length + n / 32 + 1) (by omega) (by omega) W
 have ec : ((xs.length + n / 32 + 1 : Nat) : Int) = (xs.length : Int) + (n : Int) / 32 + 1 := by omega
 rw [ec] at hmk
 clear ec
 have D0 := Aside0.mk (Digs.made w (xs.length + n / 32 + 1) (by omega))
 go_enter Tryd.func84, Tryd.ntmps84
 go_wp2
 have hr : n % 32 ≤ 31 := by omega
 go_loopw [27] (fun i wr => ∃ (k : Nat), k ≤ xs.length ∧ i = .int .i64 k ∧
   Aside0 (∃ (top : Int) (ds : List Int), LshRel xs (n % 32) k top ds ∧ Digs wr (.slice (some ⟨w.heap.size, 0, none⟩) (xs.length + n / 32 + 1) (xs.length + n / 32 + 1)) (List.replicate (n / 32) 0 ++ ds ++ [top] ++ List.replicate (xs.length - k) 0) ∧ Below w.heap.size w wr)) (fun i _ => xs.length - (intOf i).toNat)
 case atStart =>
  refine ⟨0, Nat.zero_le _, rfl, ⟨0, [], LshRel.start _ _, ?_, (Below.refl _ _).alloc (Nat.le_refl _) _⟩⟩
  have h := D0.out
  rw [show List.replicate (xs.length + n / 32 + 1) (0 : Int) = List.replicate (n / 32) 0 ++ [] ++ [0] ++ List.replicate (xs.length - 0) 0 from by
   rw [List.append_nil, Nat.sub_zero, show ([0] : List Int) = List.replicate 1 0 from rfl, List.replicate_append_replicate, List.replicate_append_replicate]
   congr 1
   omega] at h
  exact h
 case round =>
  obtain ⟨k, hk, rfl, ⟨top, ds, hrl, hdg, hbl⟩⟩ := hrel
  have hl := hrl.len
  have hpl : (List.replicate (n / 32) (0 : Int) ++ ds).length = k + n / 32 := by simp [hl]; omega
  have HPL := Aside0.mk hpl
  have HR := Aside0.mk hrl
  have HD := Aside0.mk hdg
  have HB := Aside0.mk hbl
  clear hrl hdg hbl hl hpl
  by_cases hlt : k < xs.length
  ·obtain ⟨g, c', he, hg⟩ := HX.out.d.form (by omega)
   obtain ⟨he1, he3⟩ : A = some ⟨g, 0, none⟩ ∧ c = c' := ⟨(Value.slice.inj he).1, (Value.slice.inj he).2.2⟩
   subst he1 he3
   have hgw : g ≠ w.heap.size := by omega
   have hcx := ((HX.out.d.below HB.out).at_ hlt).1
   have hbx := getD_ok HX.out.ok k
   have hst := HR.out.step HX.out.ok hr hlt
   obtain ⟨x0, hxe⟩ : ∃ x0, x0 = xs.getD k 0 := ⟨_, rfl⟩
   rw [← hxe] at hcx hbx hst
   have HST := Aside0.mk hst
   clear hxe he hst
   have ho : (wr.cell? ⟨w.heap.size, k + n / 32, none⟩ = some (.int .u32 top) ∧ wr.frozen? ⟨w.heap.size, k + n / 32, none⟩ = false) ∧ wr.cell? ⟨w.heap.size, k + n / 32 + 1, none⟩ = some (.int .u32 0) ∧ wr.frozen? ⟨w.heap.size, k + n / 32 + 1, none⟩ = false := by
    have hd := HD.out
    have hg := getD_two (List.replicate (n / 32) (0 : Int) ++ ds) top (xs.length - (k + 1))
    rw [show xs.length - k = xs.length - (k + 1) + 1 from by omega] at hd
    rw [HPL.out] at hg
    have h1 := hd.at_ (k := k + n / 32) (by rw [List.length_append, List.length_append, HPL.out]; simp; omega)
    have h2 := hd.at_ (k := k + n / 32 + 1) (by rw [List.length_append, List.length_append, HPL.out]; simp)
    rw [hg.1] at h1
    rw [hg.2] at h2
    exact ⟨h1, h2⟩
   obtain ⟨⟨o1, o1f⟩, o2, o2f⟩ := ho
   have fin : Digs ((wr.setCell ⟨w.heap.size, k + n / 32, none⟩ (.int .u32 (bits BinOp.or IntKind.u32 top (IntKind.u64.wrap (x0 * 2 ^ (n % 32)) % 4294967296)))).setCell ⟨w.heap.size, k + n / 32 + 1, none⟩ (.int .u32 (IntKind.u64.wrap (x0 * 2 ^ (n % 32)) / 4294967296 % 4294967296)))
     (.slice (some ⟨w.heap.size, 0, none⟩) (xs.length + n / 32 + 1) (xs.length + n / 32 + 1)) (List.replicate (n / 32) 0 ++ (ds ++ [top + (x0 * 2 ^ (n % 32)) % 4294967296]) ++ [x0 * 2 ^ (n % 32) / 4294967296] ++ List.replicate (xs.length - (k + 1)) 0) := by
    obtain ⟨q1, q2, q3, q4⟩ := lsh_wide hr hbx.1 hbx.2
    have hs := HR.out.small hr
    rw [q1, or_low hr HR.out.c.1 HR.out.c.2 hbx.1, Int.emod_eq_of_lt (a := x0 * 2 ^ (n % 32) / 4294967296) (by omega) (by omega)]
    have hd := HD.out
    rw [show xs.length - k = xs.length - (k + 1) + 1 from by omega] at hd
    have hd1 := (hd.put (by rw [List.length_append, List.length_append, HPL.out]; simp; omega) (k + n / 32) (top + (x0 * 2 ^ (n % 32)) % 4294967296)).1
    have hd2 := (hd1.put (by rw [List.length_set, List.length_append, List.length_append, HPL.out]; simp; omega) (k + n / 32 + 1) (x0 * 2 ^ (n % 32) / 4294967296)).1
    have hse := set_two (List.replicate (n / 32) (0 : Int) ++ ds) top (top + (x0 * 2 ^ (n % 32)) % 4294967296) (x0 * 2 ^ (n % 32) / 4294967296) (xs.length - (k + 1))
    rw [HPL.out] at hse
    rw [hse, List.append_assoc (List.replicate (n / 32) (0 : Int)) ds] at hd2
    exact hd2
   have FIN := Aside0.mk fin
   have hts := HR.out.small hr
   clear fin
   go_wp2
   go_roundw
   case rel => exact ⟨k + 1, by omega, by go_num, ⟨_, _, HST.out.1, FIN.out, (HB.out.setCell (Nat.le_refl _) _).setCell (Nat.le_refl _) _⟩⟩
   case measure => simp [intOf]; omega
  ·obtain rfl : k = xs.length := by omega
   have k0 := pw_cell_below HB.out c0
   have hd := HD.out
   rw [Nat.sub_self, List.replicate_zero, List.append_nil] at hd
   have HD2 := Aside0.mk hd
   clear hd c0 c1 c1'
   go_wp2_with fail
   refine (put_big z nx _ _ _ (HZ.out.below HB.out) HD2.out (HR.out.done hr (n / 32)).1).mono ?_
   rintro e w' ⟨rfl, hb, hg⟩
   have HB2 := Aside0.mk hb
   have HG := Aside0.mk (below_z HB.out hg)
   clear hb hg
   go_wp2
   go_ret
   refine ⟨rfl, ?_, HG.out⟩
   have h := HB2.out
   have hv := (HR.out.done hr (n / 32)).2
   rw [show 32 * (n / 32) + n % 32 = n from by omega] at hv
   have he : bval nx (List.replicate (n / 32) 0 ++ ds ++ [top]) = bval nx xs * 2 ^ n := by
    cases nx <;> simp only [bval, Bool.false_eq_true, if_false, if_true, hv, Int.neg_mul]
   rw [he] at h
   refine h.more ?_
   rw [List.length_append, HPL.out]
   simp
theorem lsh_calls (z x n : Nat) (k : Int) (m : Nat) (w : World) (hz : IsBig w z) (hx : Big w x k m) (hm : m ≤ 1000000) (hn : n ≤ 1000000) :
  Calls Tryd.prog 84 #[.pointer (some ⟨z, 0, none⟩), .pointer (some ⟨x, 0, none⟩), .int .u64 n] w fun e w' => e = .returned (.pointer (some ⟨z, 0, none⟩)) ∧ Big w' z (k * 2 ^ n) (m + n / 32 + 1) ∧ w.grownBy w' (some z) := by
 obtain ⟨nx, xs, A, c, hxo, rfl, hlx⟩ := hx.opd hm
 refine (lsh_walk z x n nx xs A c w hz hxo hn).mono ?_
 rintro e w' ⟨h1, h2, h3⟩
 exact ⟨h1, h2.more (by omega), h3⟩
end Go.Proofs.YtlkomiiijhphnaaDoor.Big
namespace Go.Proofs.YtlkomiiijhphnaaDoor.Shelf
open Go.Shelf
def lays133_ren : Go.Shelf.Ren := ⟨fun | 133 => 103 | 128 => 100 | n => n, fun | 51 => 85 | 3 => 3 | 4 => 4 | 46 => 64 | 5 => 5 | 9 => 9 | n => n, fun | n => n⟩
theorem lays133 : Go.Proofs.Lays.n133 Tryd.prog lays133_ren := {
 mixed := by kernel_rfl
 f128 := Tryd.func100.trans (congrArg some (by kernel_rfl))
 f133 := Tryd.func103.trans (congrArg some (by kernel_rfl))
 t3 := Tryd.underlying3
 a3 := Tryd.isAgg3
 z3 := Tryd.sizeOf3
 v3 := Tryd.zeroValue3
 t4 := Tryd.underlying4
 a4 := Tryd.isAgg4
 z4 := Tryd.sizeOf4
 v4 := Tryd.zeroValue4
 t5 := Tryd.underlying5
 a5 := Tryd.isAgg5
 z5 := Tryd.sizeOf5
 v5 := Tryd.zeroValue5
 t9 := Tryd.underlying9
 a9 := Tryd.isAgg9
 z9 := Tryd.sizeOf9
 v9 := Tryd.zeroValue9
 t46 := Tryd.underlying64
 a46 := Tryd.isAgg64
 z46 := Tryd.sizeOf64
 v46 := Tryd.zeroValue64
 t51 := Tryd.underlying85
 a51 := Tryd.isAgg85
 z51 := Tryd.sizeOf85
 v51 := Tryd.zeroValue85 }
theorem bits_LeadingZeros32 (x : Int) (w : World) (h0 : 0 ≤ x) (h1 : x ≤ 4294967295) :
  Calls Tryd.prog 103 #[.int .u32 x] w fun e w' => e = .returned (.int .i64 (32 - (Lib.bitLen x.toNat : Int))) ∧ w' = w := Any.bits_LeadingZeros32 lays133 x w h0 h1
end Go.Proofs.YtlkomiiijhphnaaDoor.Shelf
namespace Go.Proofs.YtlkomiiijhphnaaDoor.Big
open Go.RowKit Go.Proofs.YtlkomiiijhphnaaDoorW.PrintWords Go.Proofs.YtlkomiiijhphnaaDoorW.PrintLast Go.Proofs.YtlkomiiijhphnaaDoorW.PrintMore Go.Proofs.YtlkomiiijhphnaaDoor.Math
set_option linter.unusedVariables false
set_option linter.unusedSimpArgs false
theorem Big.fit {w : World} {b : Nat} {n : Int} {m k : Nat} (h : Big w b n m) (hl : -4294967296 ^ k < n) (hr : n < 4294967296 ^ k) : Big w b n k := by
 obtain ⟨neg, xs, h1, h2, h3, h4, h5, h6⟩ := h
 refine ⟨neg, xs, h1, h2, h3, h4, tight_length h2 h3 ?_, h6⟩
 have := val_nonneg h2
 cases neg <;> simp only [bval, Bool.false_eq_true, if_false, if_true] at h6 <;> omega
set_option maxHeartbeats 400000 in
theorem bitLen_calls (x : Nat) (n : Int) (m : Nat) (w : World) (hx : Big w x n m) (hm : m ≤ 1000000) :
  Calls Tryd.prog 77 #[.pointer (some ⟨x, 0, none⟩)] w fun e w' => e = .returned (.int .i64 (blen n)) ∧ w' = w := by
 obtain ⟨nx, xs, A, c, hxo, rfl, hlx⟩ := hx.opd hm
 have HX := Aside0.mk hxo
 obtain ⟨c0, c1, -, -, -, -, hl6⟩ := hxo
 clear hx
 rcases snoc_cases xs with rfl | ⟨ys, y, rfl⟩
 ·have hv : blen (bval nx []) = 0 := by cases nx <;> rfl
  have HV := Aside0.mk hv
  clear hv
  go_enter Tryd.func77, Tryd.ntmps77
  go_wp2
  go_ret
  exact ⟨by rw [HV.out]; rfl, rfl⟩
 ·have hv : blen (bval nx (ys ++ [y])) = 32 * ys.length + Lib.bitLen y.toNat := by
   have hy : y ≠ 0 := by simpa using HX.out.ti (by simp)
   have h := blen_digits HX.out.ok hy
   cases nx <;> simp only [bval, Bool.false_eq_true, if_false, if_true, blen_neg] <;> exact h
  have hb := HX.out.ok.right.head
  have hbl : Lib.bitLen y.toNat ≤ 32 := by
   rw [bitLen_log2 (by have : (2 : Nat) ^ 64 = 18446744073709551616 := by decide
                       omega)]
   split
   ·omega
   ·rename_i h
    have := (Nat.log2_lt h (k := 32)).2 (by have : (2 : Nat) ^ 32 = 4294967296 := by decide
                                            omega)
    omega
  obtain ⟨hn, g, rfl, hcell, hb1, hb2⟩ := HX.out.d.last
  have HV := Aside0.mk hv
  have el : (ys ++ [y]).length = ys.length + 1 := by simp
  rw [el] at c1 hl6
  have EL := Aside0.mk el
  have hne : (((ys.length : Int) + 1) == 0) = false := by simp; omega
  clear hv hn el
  go_enter Tryd.func77, Tryd.ntmps77
  go_wp2_with fail
  refine (Shelf.bits_Len32 y _ hb.1 (by omega)).mono ?_
  rintro e w' ⟨rfl, rfl⟩
  go_wp2
  go_ret
  exact ⟨by rw [HV.out, Int.natCast_add, Int.natCast_mul]; rfl, rfl⟩
structure Lims (w : World) (A : Option Addr) (ls : List Int) : Prop where
 r : Kd.C (Kd.int .i64) w A ls.length ls
 ok : Okl ls
 len : ls.length ≤ 900000
theorem Lims.below {w w1 : World} {A : Option Addr} {ls : List Int} (h : Lims w A ls) (hb : Below w.heap.size w w1) : Lims w1 A ls := ⟨Kd.C_below h.r hb, h.ok, h.len⟩
theorem Lims.at_ {w : World} {A : Option Addr} {ls : List Int} (h : Lims w A ls) {k : Nat} (hk : k < ls.length) : ∃ a, A = some a ∧ w.cell? (a.add k) = some (.int .i64 (ls.getD k 0)) := by
 obtain ⟨ad, c, ha, hl, hc, hall⟩ := h.r.get_ 0 (k : Int) (by omega) (by omega)
 have e : c = [.int .i64 (ls.getD ((k : Int)).toNat 0)] := hc
 rw [Int.toNat_natCast] at e
 refine ⟨ad, ha, ?_⟩
 have := hall 0 (.int .i64 (ls.getD k 0)) (by rw [e]; rfl)
 have h1 : (Kd.int .i64).sz = 1 := rfl
 rw [h1, Int.toNat_natCast, Nat.mul_one, Nat.add_zero] at this
 exact this
theorem ten24 : (2 : Int) ^ 24 = 16777216 := by decide
structure ValInv (w wr : World) (s : Int) (A : Option Addr) (c : Nat) (ls : List Int) (n : Int) : Prop where
 b : Below w.heap.size w wr
 box : wr.heap[w.heap.size]? = some (.cells #[.int .i64 s, .slice A ls.length c] 26 (0, 0))
 big : Big wr (w.heap.size + 1) n ls.length
theorem ValInv.start (w : World) (s : Int) (A : Option Addr) (c : Nat) (ls : List Int) :
  ValInv w ((w.alloc (.cells #[.int .i64 s, .slice A ls.length c] 26)).alloc (.cells #[.bool false, .slice none 0 0] 48)) s A c ls 0 := by
 refine ⟨((Below.refl _ _).alloc (Nat.le_refl _) _).alloc (by simp) _, blk_alloc (heap_alloc_new w _) _, ⟨false, [], ⟨.slice none 0 0, ?_, own_nil _ _ _ _⟩, Okd.nil, (fun h => absurd rfl h), (fun h => by cases h), Nat.zero_le _, rfl⟩⟩
 have := heap_alloc_new (w.alloc (.cells #[.int .i64 s, .slice A ls.length c] 26)) (.cells #[.bool false, .slice none 0 0] 48)
 simpa using this
theorem ValInv.cells {w wr : World} {s : Int} {A : Option Addr} {c : Nat} {ls : List Int} {n : Int} (h : ValInv w wr s A c ls n) :
  wr.cell? ⟨w.heap.size, 0, none⟩ = some (.int .i64 s) ∧ wr.cell? ⟨w.heap.size, 1, none⟩ = some (.slice A ls.length c) :=
 ⟨(blk_cell h.box 0).trans rfl, (blk_cell h.box 1).trans rfl⟩
theorem below_box {w w1 w2 : World} (h : Below w.heap.size w w1) (hg : w1.grownBy w2 (some (w.heap.size + 1))) : Below w.heap.size w w2 := below_of_grown h hg (Nat.le_succ _)
theorem box_grown {w w1 : World} {g : Nat} {o : Obj} (h : w.heap[g]? = some o) (hg : w.grownBy w1 (some (g + 1))) : w1.heap[g]? = some o := blk_grown h hg (by intro e; injection e with e; omega)
set_option maxHeartbeats 4000000 in
theorem value_calls (s : Int) (A : Option Addr) (c : Nat) (ls : List Int) (w : World) (h : Lims w A ls) :
  Calls Tryd.prog 39 #[.agg #[.int .i64 s, .slice A ls.length c]] w fun e w' => ∃ b, e = .returned (.pointer (some ⟨b, 0, none⟩)) ∧ w.heap.size ≤ b ∧ Big w' b (wv s ls) ls.length ∧ Below w.heap.size w w' := by
 have HL := Aside0.mk h
 have hlen := h.len
 have H0 := Aside0.mk (ValInv.start w s A c ls)
 clear h
 go_enter Tryd.func39, Tryd.ntmps39
 go_wp2
 go_loopw [4] (fun i wr => ∃ k : Nat, k ≤ ls.length ∧ i = .int .i64 ((k : Int) - 1) ∧ Aside0 (ValInv w wr s A c ls (lv (ls.drop k)))) (fun i _ => (intOf i + 1).toNat)
 case atStart => exact ⟨ls.length, Nat.le_refl _, rfl, ⟨by rw [List.drop_of_length_le (Nat.le_refl _)]; exact H0.out⟩⟩
 case round =>
  obtain ⟨k, hk, rfl, hR⟩ := hrel
  obtain ⟨q0, q1⟩ := hR.out.cells
  cases k with
  | zero =>
   have hz0 := hR.out.big.is
   by_cases hs : s < 0
   ·go_wp2_with fail
    refine (neg_calls _ _ _ _ _ hR.out.big.is hR.out.big (by omega)).mono ?_
    rintro e w' ⟨rfl, hb, hg⟩
    have HB := Aside0.mk hb
    have HG := Aside0.mk (below_box hR.out.b hg)
    clear hb hg
    go_wp2
    go_ret
    refine ⟨_, rfl, Nat.le_succ _, ?_, HG.out⟩
    have := HB.out
    rw [wv, if_pos (by omega)]
    simpa using this
   ·go_wp2
    go_ret
    refine ⟨_, rfl, Nat.le_succ _, ?_, hR.out.b⟩
    have := hR.out.big
    rw [wv, if_neg (by omega)]
    simpa using this
  | succ k =>
   have ek : ((k + 1 : Nat) : Int) - 1 = (k : Int) := by omega
   rw [ek]
   clear ek
   go_wp2_with fail
   refine (lsh_calls _ _ 24 _ _ _ hR.out.big.is hR.out.big (by omega) (by omega)).mono ?_
   rintro e w1 ⟨rfl, hb1, hg1⟩
   have HB1 := Aside0.mk hb1
   have b1 := below_box hR.out.b hg1
   have x1 := box_grown hR.out.box hg1
   have X1 := Aside0.mk x1
   have B1 := Aside0.mk b1
   have r1 : w1.cell? ⟨w.heap.size, 1, none⟩ = some (.slice A ls.length c) := (blk_cell x1 1).trans rfl
   obtain ⟨ad, rfl, hcell⟩ := (HL.out.below b1).at_ (k := k) (by omega)
   clear hb1 hg1 b1 x1 q0 q1
   have hlb : 0 ≤ ls.getD k 0 ∧ ls.getD k 0 < 16777216 := HL.out.ok _ (by rw [List.getD_eq_getElem?_getD, List.getElem?_eq_getElem (show k < ls.length from by omega)]; exact List.getElem_mem _)
   have hdrop := lv_drop (xs := ls) (k := k) (by omega)
   obtain ⟨l, hle⟩ : ∃ l, l = ls.getD k 0 := ⟨_, rfl⟩
   rw [← hle] at hcell hlb hdrop
   have HDR := Aside0.mk hdrop
   clear hle hdrop
   go_wp2_with fail
   refine (newBig_calls l _ (by omega) (by omega)).mono ?_
   rintro e w2 ⟨rfl, hb2, hg2⟩
   have HB2 := Aside0.mk hb2
   have HZ2 := Aside0.mk (HB1.out.below hg2)
   have B2 := Aside0.mk (B1.out.trans (hg2.mono B1.out.size))
   have X2 := Aside0.mk (blk_below X1.out hg2)
   clear hb2 hg2
   go_wp2_with fail
   refine (add_calls _ _ _ _ _ _ _ _ HZ2.out.is HZ2.out (by omega) HB2.out (by omega)).mono ?_
   rintro e w3 ⟨rfl, hb3, hg3⟩
   have fin : ValInv w w3 s (some ad) c ls (lv (ls.drop k)) := by
    refine ⟨below_box B2.out hg3, box_grown X2.out hg3, ?_⟩
    rw [ten24] at hb3
    rw [HDR.out, Int.add_comm l, Int.mul_comm 16777216]
    have h1 := lv_nonneg (okl_drop HL.out.ok k)
    have h2 := lv_lt (okl_drop HL.out.ok k)
    rw [HDR.out] at h1 h2
    have h3 := lpow_le (ls.drop k).length
    have h4 := pow_mono (show (ls.drop k).length ≤ ls.length from by rw [List.length_drop]; omega)
    have h5 := pow_pos' ls.length
    exact hb3.fit (by omega) (by omega)
   have FIN := Aside0.mk fin
   clear hb3 hg3 fin
   go_wp2
   go_roundw
   case rel => exact ⟨k, by omega, by go_num, ⟨FIN.out⟩⟩
   case measure => simp [intOf]
end Go.Proofs.YtlkomiiijhphnaaDoor.Big
namespace Go.Proofs.YtlkomiiijhphnaaDoor.Big
open Go.RowKit Go.Proofs.YtlkomiiijhphnaaDoorW.PrintWords Go.Proofs.YtlkomiiijhphnaaDoorW.PrintLast Go.Proofs.YtlkomiiijhphnaaDoorW.PrintMore Go.Proofs.YtlkomiiijhphnaaDoor.Math
set_option linter.unusedVariables false
set_option linter.unusedSimpArgs false
theorem or_zero (x : Int) (h : 0 ≤ x ∧ x < 4294967296) : bits BinOp.or IntKind.u64 0 x = x := by
 obtain ⟨a, rfl⟩ := Int.eq_ofNat_of_zero_le h.1
 have := u64_or_nat 0 a (by omega) (by omega)
 simpa using this
theorem or_two (a b : Int) (h : 0 ≤ a ∧ a < 4294967296) (h' : 0 ≤ b ∧ b < 4294967296) : bits BinOp.or IntKind.u64 a (b * 4294967296) = a + 4294967296 * b := by
 obtain ⟨a, rfl⟩ := Int.eq_ofNat_of_zero_le h.1
 obtain ⟨b, rfl⟩ := Int.eq_ofNat_of_zero_le h'.1
 have := u64_or_nat a (b * 4294967296) (by omega) (by omega)
 rw [show ((b : Int) * 4294967296) = ((b * 4294967296 : Nat) : Int) from by omega, this, Nat.mul_comm, Nat.or_comm]
 have h2 := Nat.two_pow_add_eq_or_of_lt (b := a) (i := 32) (by omega) b
 rw [show (2 : Nat) ^ 32 = 4294967296 from by decide] at h2
 rw [← h2]
 omega
theorem wrap_neg (n : Int) : wrap64 (IntKind.u64.wrap (-n)) = wrap64 (-n) := by
 rw [wrapU]
 unfold wrap64
 omega
theorem val_take_one {xs : List Int} (h : 0 < xs.length) : val (xs.take 1) = xs.getD 0 0 := by
 have := val_take_succ (xs := xs) (k := 0) h
 simpa [val] using this
theorem val_take_two {xs : List Int} (h : 1 < xs.length) : val (xs.take 2) = xs.getD 0 0 + 4294967296 * xs.getD 1 0 := by
 have := val_take_succ (xs := xs) (k := 1) h
 rw [val_take_one (by omega)] at this
 simpa using this
set_option maxHeartbeats 2000000 in
theorem int64_walk (x : Nat) (nx : Bool) (xs : List Int) (A : Option Addr) (c : Nat) (w : World) (hx : Opd w x nx xs A c) :
  Calls Tryd.prog 62 #[.pointer (some ⟨x, 0, none⟩)] w fun e w' => e = .returned (.int .i64 (wrap64 (bval nx (xs.take 2)))) ∧ w' = w := by
 have HX := Aside0.mk hx
 obtain ⟨c0, c1, -, -, -, -, hlen⟩ := hx
 go_enter Tryd.func62, Tryd.ntmps62
 go_wp2
 go_loop [3, 11] (fun u i => ∃ (k : Nat) (n : Int), k ≤ xs.length ∧ i = .int .i64 k ∧ u = .int .u64 n ∧ Aside0 (n = val (xs.take (min k 2)))) (fun _ i => xs.length - (intOf i).toNat)
 case atStart => exact ⟨0, 0, Nat.zero_le _, rfl, rfl, ⟨rfl⟩⟩
 case round =>
  obtain ⟨k, n, hk, rfl, rfl, hR⟩ := hrel
  by_cases hlt : k < xs.length
  ·obtain ⟨g, c', he, hg⟩ := HX.out.d.form (by omega)
   obtain ⟨he1, he3⟩ : A = some ⟨g, 0, none⟩ ∧ c = c' := ⟨(Value.slice.inj he).1, (Value.slice.inj he).2.2⟩
   subst he1 he3
   have hcx := (HX.out.d.at_ hlt).1
   have hbx := getD_ok HX.out.ok k
   obtain ⟨x0, hxe⟩ : ∃ x0, x0 = xs.getD k 0 := ⟨_, rfl⟩
   rw [← hxe] at hcx hbx
   have HXE := Aside0.mk hxe
   clear hxe he
   rcases (show k = 0 ∨ k = 1 ∨ 2 ≤ k from by omega) with rfl | rfl | h2
   ·have hn : n = 0 := by
     have := hR.out
     simpa [val] using this
    have HN := Aside0.mk hn
    clear hn
    go_wp2
    go_round
    case rel => exact ⟨1, _, by omega, rfl, rfl, ⟨by rw [HN.out, or_zero _ hbx, show min 1 2 = 1 from rfl, val_take_one hlt, HXE.out]⟩⟩
    case measure => simp [intOf]; omega
   ·have hn : n = xs.getD 0 0 := by
     have := hR.out
     rwa [show min 1 2 = 1 from rfl, val_take_one (by omega)] at this
    have HN := Aside0.mk hn
    clear hn
    go_wp2
    go_round
    case rel => exact ⟨2, _, by omega, rfl, rfl, ⟨by rw [HN.out, or_two _ _ (getD_ok HX.out.ok 0) hbx, show min 2 2 = 2 from rfl, val_take_two hlt, HXE.out]⟩⟩
    case measure => simp [intOf]; omega
   ·go_wp2
    go_round
    case rel => exact ⟨k + 1, _, by omega, by go_num, rfl, ⟨by rw [hR.out, show min k 2 = 2 from by omega, show min (k + 1) 2 = 2 from by omega]⟩⟩
    case measure => simp [intOf]; omega
  ·have hn : n = val (xs.take 2) := by
    rw [hR.out]
    obtain rfl : k = xs.length := by omega
    rcases Nat.lt_or_ge xs.length 2 with h | h
    ·rw [show min xs.length 2 = xs.length from by omega, List.take_of_length_le (Nat.le_refl _), List.take_of_length_le (by omega)]
    ·rw [show min xs.length 2 = 2 from by omega]
   have HN := Aside0.mk hn
   clear hn
   cases nx
   ·go_wp2
    go_ret
    exact ⟨by rw [bval, if_neg (by decide), ← HN.out]; rfl, rfl⟩
   ·go_wp2
    go_ret
    exact ⟨by rw [bval, if_pos rfl, ← HN.out, ← wrap_neg]; rfl, rfl⟩
theorem int64_calls (x : Nat) (n : Int) (m : Nat) (w : World) (hx : Big w x n m) (hm : m ≤ 1000000) :
  ∃ t, (-9223372036854775808 ≤ t ∧ t ≤ 9223372036854775807) ∧ ((-9223372036854775808 ≤ n ∧ n ≤ 9223372036854775807) → t = n) ∧
   Calls Tryd.prog 62 #[.pointer (some ⟨x, 0, none⟩)] w fun e w' => e = .returned (.int .i64 t) ∧ w' = w := by
 obtain ⟨nx, xs, A, c, hxo, rfl, hlx⟩ := hx.opd hm
 refine ⟨_, ?_, ?_, int64_walk x nx xs A c w hxo⟩
 ·unfold wrap64
  omega
 ·intro h
  have h0 := val_nonneg hxo.ok
  have hv : val xs < 4294967296 ^ 2 := by
   have e : (4294967296 : Int) ^ 2 = 18446744073709551616 := by decide
   rw [e]
   cases nx <;> simp only [bval, Bool.false_eq_true, if_false, if_true] at h <;> omega
  rw [List.take_of_length_le (tight_length hxo.ok hxo.ti hv)]
  exact w64s h.1 h.2
def fits64 (n : Int) : Bool := decide (-9223372036854775808 ≤ n) && decide (n ≤ 9223372036854775807)
set_option maxHeartbeats 1000000 in
theorem isInt64_calls (x : Nat) (n : Int) (m : Nat) (w : World) (hx : Big w x n m) (hm : m ≤ 1000000) :
  Calls Tryd.prog 61 #[.pointer (some ⟨x, 0, none⟩)] w fun e w' => e = .returned (.bool (fits64 n)) ∧ Below w.heap.size w w' := by
 obtain ⟨t, ht, hf, hc⟩ := int64_calls x n m w hx hm
 have HX := Aside0.mk hx
 have HC := Aside0.mk hc
 have hb : (sgn (n - t) == 0) = fits64 n := by
  by_cases h : -9223372036854775808 ≤ n ∧ n ≤ 9223372036854775807
  ·rw [hf h, Int.sub_self]
   simp [sgn, fits64, h]
  ·have h1 : fits64 n = false := by
    simp only [fits64, Bool.and_eq_false_iff, decide_eq_false_iff_not]
    omega
   rw [h1]
   simp only [sgn]
   split
   ·rfl
   ·rw [if_neg (by omega)]
    rfl
 have HB := Aside0.mk hb
 have HT := Aside0.mk ht
 clear hx hc hb hf ht
 go_enter Tryd.func61, Tryd.ntmps61
 go_wp2_with fail
 refine HC.out.mono ?_
 rintro e w' ⟨rfl, rfl⟩
 go_wp2_with fail
 refine (newBig_calls t _ HT.out.1 HT.out.2).mono ?_
 rintro e w2 ⟨rfl, hb2, hl2⟩
 have B2 := Aside0.mk hb2
 have L2 := Aside0.mk hl2
 have X2 := Aside0.mk (HX.out.below hl2)
 clear hb2 hl2
 go_wp2_with fail
 refine (cmp_calls _ _ _ _ _ _ _ X2.out hm B2.out (by omega)).mono ?_
 rintro e w3 ⟨rfl, hl3⟩
 have L3 := Aside0.mk (L2.out.trans (hl3.mono L2.out.size))
 clear hl3
 go_wp2
 go_ret
 exact ⟨by rw [← HB.out]; rfl, L3.out⟩
end Go.Proofs.YtlkomiiijhphnaaDoor.Big
