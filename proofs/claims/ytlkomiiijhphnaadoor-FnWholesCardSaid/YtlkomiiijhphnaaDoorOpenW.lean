/- Opening an argument that is a struct of an int64 and a slice of int64 (laws.Whole): its reading gives its cells and the list of its limbs. No conditions. -/
import Derived.Test.YtlkomiiijhphnaaDoorWWords
import Derived.ProofKit
import Derived.OpenShut
import Derived.Lib.SmallJoins
namespace Go.Proofs.YtlkomiiijhphnaaDoor.OpenW
open Go.Deep Go.ChangeShapes Go.WideShapes Go.ChangeAt Go.RowKit Go.Joins Go.Proofs.YtlkomiiijhphnaaDoorW.PrintWords
set_option linter.unusedVariables false
section
variable {H : Type} {enc : TypeId × Value → H} {P : Program} {W : World}
theorem field_ints {fuel : Nat} {t e : TypeId} {k : IntKind} {v : Value} {y : DataW H × List MemPlace} (ht : P.underlying t = some (.slice e)) (he : P.underlying e = some (.int k)) (hc : P.cellsOf e = 1)
  (h : DataW.trod enc P W 0 (fun _ => true) true fuel t [v] = some y) :
  ∃ (a : Option Addr) (cap : Nat) (l : List Int), v = .slice a l.length cap ∧ Kd.C (Kd.int k) W a l.length l ∧ l.length ≤ maxLen ∧ (∀ x ∈ l, (Lit.int k x).wf = true) ∧ l.length ≤ cap := by
 have key : ∃ (a : Option Addr) (len cap : Nat) (zs : List Int), v = .slice a len cap ∧ ((a = none ∧ len = 0 ∧ cap = 0 ∧ zs = []) ∨ ∃ x, a = some x ∧ len ≤ cap ∧ cap ≤ maxLen ∧ zs.length = cap ∧ (∀ i, i < zs.length → W.cell? (x.add i) = some (.int k (zs.getD i 0))) ∧ ∀ n ∈ zs, (Lit.int k n).wf = true) := by
  rcases open_ints ht he hc h with ⟨hcs, _⟩ | ⟨x, l, c, zs, hcs, _, hl, hm, hz, _, hcell, hwz⟩
  ·simp only [List.cons.injEq, and_true] at hcs
   exact ⟨_, _, _, [], hcs, .inl ⟨rfl, rfl, rfl, rfl⟩⟩
  ·simp only [List.cons.injEq, and_true] at hcs
   exact ⟨_, _, _, zs, hcs, .inr ⟨_, rfl, hl, hm, by simpa using hz, hcell, hwz⟩⟩
 obtain ⟨a, len, cap, zs, hv, hr⟩ := key
 obtain ⟨l, rfl, hr, hm, hw, hc⟩ := ReadsInt.ofRowC hr
 exact ⟨a, cap, l, hv, Kd.C_of_reads (d := (0 : Int)) (h1 := fun _ => rfl) hr, hm, hw, hc⟩
theorem open_whole {r : Reach} {b0 : Nat} {t ti ts : TypeId} {f0 f1 : Field} {v : Value} {d : DataW H} {p : List MemPlace} (hs : P.underlying t = some (.struct #[f0, f1])) (hone : oneCellFields P #[f0, f1] = true) (hC : P.cellsOf t = 2)
  (h0 : f0.type = ti) (h1 : f1.type = ts) (hi : P.underlying ti = some (.int .i64)) (hsl : P.underlying ts = some (.slice ti)) (hci : P.cellsOf ti = 1)
  (hv : Value.okWide P W r b0 t v) (h : DataW.Trod enc P W 0 (fun _ => true) true t v d p) :
  ∃ (s : Int) (a : Option Addr) (cap : Nat) (l : List Int), v = .agg #[.int .i64 s, .slice a l.length cap] ∧ (Lit.int .i64 s).wf = true ∧ Kd.C (Kd.int .i64) W a l.length l ∧ l.length ≤ maxLen ∧ (∀ x ∈ l, (Lit.int .i64 x).wf = true) ∧ l.length ≤ cap := by
 obtain ⟨c0, c1, y0, y1, m, rfl, rfl, rfl, hy0, hy1⟩ := open_agg2 hs hone hC hv h
 rw [h0] at hy0
 rw [h1] at hy1
 obtain ⟨s, e0, _, ws⟩ := DataW.trod_int hi hy0
 simp only [List.cons.injEq, and_true] at e0
 subst e0
 obtain ⟨a, cap, l, rfl, hC, hm, hw, hc⟩ := field_ints hsl hi hci hy1
 exact ⟨s, a, cap, l, rfl, ws, hC, hm, hw, hc⟩
theorem cells_whole {n : Nat} {t ti ts : TypeId} {f0 f1 : Field} {c0 c1 : Value} {y : DataW H × List MemPlace} (hs : P.underlying t = some (.struct #[f0, f1])) (hone : oneCellFields P #[f0, f1] = true)
  (h0 : f0.type = ti) (h1 : f1.type = ts) (hi : P.underlying ti = some (.int .i64)) (hsl : P.underlying ts = some (.slice ti)) (hci : P.cellsOf ti = 1)
  (h : DataW.trod enc P W 0 (fun _ => true) true n t [c0, c1] = some y) :
  ∃ (s : Int) (a : Option Addr) (cap : Nat) (l : List Int), c0 = .int .i64 s ∧ c1 = .slice a l.length cap ∧ (Lit.int .i64 s).wf = true ∧ Kd.C (Kd.int .i64) W a l.length l ∧ l.length ≤ maxLen ∧ (∀ x ∈ l, (Lit.int .i64 x).wf = true) ∧ l.length ≤ cap := by
 obtain ⟨y0, y1, m, _, _, hy0, hy1⟩ := trod_struct2 hs h
 obtain ⟨o0, k0⟩ := hone_of hone 0 f0 rfl
 obtain ⟨o1, k1⟩ := hone_of hone 1 f1 rfl
 rw [o0, k0, h0] at hy0
 rw [o1, k1, h1] at hy1
 obtain ⟨s, e0, _, ws⟩ := DataW.trod_int hi (by simpa using hy0)
 simp only [List.cons.injEq, and_true] at e0
 obtain ⟨a, cap, l, e1, hC, hm, hw, hc⟩ := field_ints hsl hi hci (v := c1) (by simpa using hy1)
 exact ⟨s, a, cap, l, e0, e1, ws, hC, hm, hw, hc⟩
theorem cells_dyadic {n : Nat} {t tw ti ts : TypeId} {g0 g1 f0 f1 : Field} {c0 c1 c2 : Value} {y : DataW H × List MemPlace} (hg : P.underlying t = some (.struct #[g0, g1])) (hs : P.underlying tw = some (.struct #[f0, f1])) (hone : oneCellFields P #[f0, f1] = true)
  (q0 : g0.type = tw ∧ g0.offset = 0) (q1 : g1.type = ti ∧ g1.offset = 2) (h0 : f0.type = ti) (h1 : f1.type = ts) (hi : P.underlying ti = some (.int .i64)) (hsl : P.underlying ts = some (.slice ti)) (hci : P.cellsOf ti = 1) (hcw : P.cellsOf tw = 2)
  (h : DataW.trod enc P W 0 (fun _ => true) true n t [c0, c1, c2] = some y) :
  ∃ (s : Int) (a : Option Addr) (cap : Nat) (l : List Int) (e : Int), c0 = .int .i64 s ∧ c1 = .slice a l.length cap ∧ c2 = .int .i64 e ∧ (Lit.int .i64 s).wf = true ∧ (Lit.int .i64 e).wf = true ∧ Kd.C (Kd.int .i64) W a l.length l ∧ l.length ≤ maxLen ∧ (∀ x ∈ l, (Lit.int .i64 x).wf = true) ∧ l.length ≤ cap := by
 obtain ⟨y0, y1, m, _, _, hy0, hy1⟩ := trod_struct2 hg h
 rw [q0.1, q0.2, hcw] at hy0
 rw [q1.1, q1.2, hci] at hy1
 obtain ⟨s, a, cap, l, e0, e1, ws, hC, hm, hw, hc⟩ := cells_whole hs hone h0 h1 hi hsl hci (c0 := c0) (c1 := c1) (by simpa using hy0)
 obtain ⟨e, e2, _, we⟩ := DataW.trod_int hi (by simpa using hy1)
 simp only [List.cons.injEq, and_true] at e2
 exact ⟨s, a, cap, l, e, e0, e1, e2, ws, we, hC, hm, hw, hc⟩
theorem arr3 {cs : Array Value} (h : cs.size = 3) : ∃ c0 c1 c2, cs = #[c0, c1, c2] := by
 obtain ⟨l⟩ := cs
 match l, h with
 | [c0, c1, c2], _ => exact ⟨c0, c1, c2, rfl⟩
theorem arr6 {cs : Array Value} (h : cs.size = 6) : ∃ c0 c1 c2 c3 c4 c5, cs = #[c0, c1, c2, c3, c4, c5] := by
 obtain ⟨l⟩ := cs
 match l, h with
 | [c0, c1, c2, c3, c4, c5], _ => exact ⟨c0, c1, c2, c3, c4, c5, rfl⟩
theorem open_dyadic {r : Reach} {b0 : Nat} {t tw ti ts : TypeId} {g0 g1 f0 f1 : Field} {v : Value} {d : DataW H} {p : List MemPlace} (hg : P.underlying t = some (.struct #[g0, g1])) (hs : P.underlying tw = some (.struct #[f0, f1])) (hone : oneCellFields P #[f0, f1] = true)
  (q0 : g0.type = tw ∧ g0.offset = 0) (q1 : g1.type = ti ∧ g1.offset = 2) (h0 : f0.type = ti) (h1 : f1.type = ts) (hi : P.underlying ti = some (.int .i64)) (hsl : P.underlying ts = some (.slice ti)) (hci : P.cellsOf ti = 1) (hcw : P.cellsOf tw = 2) (hC : P.cellsOf t = 3)
  (hv : Value.okWide P W r b0 t v) (h : DataW.Trod enc P W 0 (fun _ => true) true t v d p) :
  ∃ (s : Int) (a : Option Addr) (cap : Nat) (l : List Int) (e : Int), v = .agg #[.int .i64 s, .slice a l.length cap, .int .i64 e] ∧ (Lit.int .i64 s).wf = true ∧ (Lit.int .i64 e).wf = true ∧ Kd.C (Kd.int .i64) W a l.length l ∧ l.length ≤ maxLen ∧ (∀ x ∈ l, (Lit.int .i64 x).wf = true) ∧ l.length ≤ cap := by
 obtain ⟨cs, rfl, hsz⟩ := okWide_struct hg hv
 obtain ⟨c0, c1, c2, rfl⟩ := arr3 (hsz.trans hC)
 obtain ⟨fuel, hf⟩ := h
 obtain ⟨s, a, cap, l, e, rfl, rfl, rfl, r⟩ := cells_dyadic hg hs hone q0 q1 h0 h1 hi hsl hci hcw hf
 exact ⟨s, a, cap, l, e, rfl, r⟩
theorem open_exact {r : Reach} {b0 : Nat} {t td tw ti ts : TypeId} {e0 e1 g0 g1 f0 f1 : Field} {v : Value} {d : DataW H} {p : List MemPlace} (he : P.underlying t = some (.struct #[e0, e1])) (hg : P.underlying td = some (.struct #[g0, g1])) (hs : P.underlying tw = some (.struct #[f0, f1])) (hone : oneCellFields P #[f0, f1] = true)
  (p0 : e0.type = td ∧ e0.offset = 0) (p1 : e1.type = td ∧ e1.offset = 3) (q0 : g0.type = tw ∧ g0.offset = 0) (q1 : g1.type = ti ∧ g1.offset = 2) (h0 : f0.type = ti) (h1 : f1.type = ts) (hi : P.underlying ti = some (.int .i64)) (hsl : P.underlying ts = some (.slice ti)) (hci : P.cellsOf ti = 1) (hcw : P.cellsOf tw = 2) (hcd : P.cellsOf td = 3) (hC : P.cellsOf t = 6)
  (hv : Value.okWide P W r b0 t v) (h : DataW.Trod enc P W 0 (fun _ => true) true t v d p) :
  ∃ (s : Int) (a : Option Addr) (cap : Nat) (l : List Int) (e : Int) (s' : Int) (a' : Option Addr) (cap' : Nat) (l' : List Int) (e' : Int), v = .agg #[.int .i64 s, .slice a l.length cap, .int .i64 e, .int .i64 s', .slice a' l'.length cap', .int .i64 e'] ∧
   ((Lit.int .i64 s).wf = true ∧ (Lit.int .i64 e).wf = true ∧ Kd.C (Kd.int .i64) W a l.length l ∧ l.length ≤ maxLen ∧ (∀ x ∈ l, (Lit.int .i64 x).wf = true) ∧ l.length ≤ cap) ∧
   (Lit.int .i64 s').wf = true ∧ (Lit.int .i64 e').wf = true ∧ Kd.C (Kd.int .i64) W a' l'.length l' ∧ l'.length ≤ maxLen ∧ (∀ x ∈ l', (Lit.int .i64 x).wf = true) ∧ l'.length ≤ cap' := by
 obtain ⟨cs, rfl, hsz⟩ := okWide_struct he hv
 obtain ⟨c0, c1, c2, c3, c4, c5, rfl⟩ := arr6 (hsz.trans hC)
 obtain ⟨fuel, hf⟩ := h
 obtain ⟨y0, y1, m, _, _, hy0, hy1⟩ := trod_struct2 he hf
 rw [p0.1, p0.2, hcd] at hy0
 rw [p1.1, p1.2, hcd] at hy1
 obtain ⟨s, a, cap, l, e, rfl, rfl, rfl, r⟩ := cells_dyadic hg hs hone q0 q1 h0 h1 hi hsl hci hcw (c0 := c0) (c1 := c1) (c2 := c2) (by simpa [Value.cells] using hy0)
 obtain ⟨s', a', cap', l', e', rfl, rfl, rfl, r'⟩ := cells_dyadic hg hs hone q0 q1 h0 h1 hi hsl hci hcw (c0 := c3) (c1 := c4) (c2 := c5) (by simpa [Value.cells] using hy1)
 exact ⟨s, a, cap, l, e, s', a', cap', l', e', rfl, r, r'⟩
end
end Go.Proofs.YtlkomiiijhphnaaDoor.OpenW
