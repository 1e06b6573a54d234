/- The contracts of impl.binary, impl.AddWholes, impl.SubtractWholes and impl.MultiplyWholes in plain words. Condition: at most 1000000000 limbs. -/
import Derived.Test.YthddlechoibdkaaDoorBnd1
import Derived.Test.YthddlechoibdkaaDoorBnd3
import Derived.Test.YthddlechoibdkaaDoorBigD
namespace Go.Proofs.YthddlechoibdkaaDoor
open Go.RowKit Go.Proofs.YthddlechoibdkaaDoorW.PrintWords Go.Proofs.YthddlechoibdkaaDoorW.PrintLast Go.Proofs.YthddlechoibdkaaDoorW.PrintMore Go.Proofs.YthddlechoibdkaaDoor.Math Go.Proofs.YthddlechoibdkaaDoor.Big
set_option linter.unusedVariables false
set_option linter.unusedSimpArgs false

/-- A call of a Go function that lies in a slot, by its contract. -/
theorem goesv_ {P : Program} {ops : Array Oper} {Q : Exit → Act → World → Prop} {oi : Oper} {N : Option Tmp} {a : Act} {w : World} {K : Act → World → Prop} {f : FuncId} {fn : Func} {o : Operand} {ys : Array Operand} {ts : Array TypeId} (hf : P.funcs[f]? = some fn) (hname : (fn.name == "runtime.NumGoroutine") = false) (hb : fn.body.isSome = true) (args : Array Value)
    (hw : Region.wanted oi (yielded ops a.tmps) = true) (hN : oi.dst = N) (hop : oi.op = .call { callee := .value o, args := ys, argTypes := ts }) (hev : a.eval o = .func (.func f) #[] #[]) (hargs : ys.map a.eval = args)
    (h : Calls P f args w fun e w' => ∃ v, e = .returned v ∧ K (a.put N v) w') : if Region.wanted oi (yielded ops a.tmps) = true then Oper.wp P oi a w K Q else K (a.put N undef) w := by
  refine call_ f args hw hN ?_ h
  have he := enters_ hf hname hb args w
  unfold execOp
  simp [hop, resolve, Deferred.ofValue, invoke, hev, hargs, he]

theorem ResAt.own {w wr : World} {b base : Nat} {u : Value} {xs : List Int} (h : ResAt w wr b) (hr : wr.ownsRow base 2 1 u xs.length (nums .i64 xs)) (hb : w.heap.size ≤ base) (a v : Value) :
    ((wr.setCell ⟨b, 0, none⟩ a).setCell ⟨b, 1, none⟩ v).ownsRow w.heap.size 2 1 u xs.length (nums .i64 xs) :=
  own_weaken (row_store (row_store hr h.box) (blk_put (cs := #[.int .i64 0, .slice none 0 0]) h.box 0 a rfl)) hb

/-- What binary asks of the function that it is given: it makes op of two numbers, and changes at most these. -/
def Makes (f : Nat) (op : Int → Int → Int) : Prop := ∀ (x y : Nat) (n k : Int) (w0 w : World), Big w x n 200 → Big w y k 200 → w0.heap.size ≤ x → w0.heap.size ≤ y → Below w0.heap.size w0 w →
  Calls Tryd.prog f #[.pointer (some ⟨x, 0, none⟩), .pointer (some ⟨y, 0, none⟩)] w fun e w' => ∃ z, e = .returned (.pointer (some ⟨z, 0, none⟩)) ∧ Big w' z (op n k) 500 ∧ Below w0.heap.size w0 w'

theorem Makes.at_ {f : Nat} {op : Int → Int → Int} (h : Makes f op) (x y : Nat) (n k : Int) (w0 w : World) (hx : Big w x n 200) (hy : Big w y k 200) (h1 : w0.heap.size ≤ x) (h2 : w0.heap.size ≤ y) (h3 : Below w0.heap.size w0 w) :
  Calls Tryd.prog f #[.pointer (some ⟨x, 0, none⟩), .pointer (some ⟨y, 0, none⟩)] w fun e w' => ∃ z, e = .returned (.pointer (some ⟨z, 0, none⟩)) ∧ Big w' z (op n k) 500 ∧ Below w0.heap.size w0 w' := h x y n k w0 w hx hy h1 h2 h3

theorem own_zero (w : World) (base : Nat) : w.ownsRow base 2 1 (.slice none 0 0) ([] : List Int).length (nums .i64 []) := own_nil _ _ _ _



end Go.Proofs.YthddlechoibdkaaDoor
