/- A part of a proof about the given program. -/
import Derived.Test.YtlkomiiijhphnaaDoorG10
namespace Go.Proofs.YtlkomiiijhphnaaDoorW.PrintLast
def up (b : Nat → Bool) (i : Nat) : Nat → Bool := fun j => if j = i then true else b j
section
variable {P : Program} {ops : Array Oper} {Q : Exit → Act → World → Prop} {md : Region.Mode} {T : Bool × List (List Nat × List Nat)} {B : List Nat} {O : List Nat} {b : Nat → Bool} {i j n : Nat}
def Closed (T : List (List Nat × List Nat)) (O : List Nat) (b : Nat → Bool) : Prop := ∀ d r, T[d]? = some r → O.contains d = true → b d = true → ∀ n ∈ r.1, O.contains n = true → b n = true
end
end Go.Proofs.YtlkomiiijhphnaaDoorW.PrintLast
namespace Go.Proofs.YtlkomiiijhphnaaDoorW.PrintWords
open Go.RowKit
end Go.Proofs.YtlkomiiijhphnaaDoorW.PrintWords
namespace Go.Proofs.YtlkomiiijhphnaaDoorW.PrintLast
section
variable {ops : Array Oper} {a : Act} {o og : Oper} {g : Nat} {t : Tmp} {u : Bool}
end
end Go.Proofs.YtlkomiiijhphnaaDoorW.PrintLast
