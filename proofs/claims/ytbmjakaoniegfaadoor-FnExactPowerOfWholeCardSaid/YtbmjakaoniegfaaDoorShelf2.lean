/- The library's TrailingZeros32, by the kit's proved contract, at this translation's numbers. Conditions: the table of the library holds its numbers. -/
import Derived.Shelf.Spec.TrailingZeros
import Derived.Test.YtbmjakaoniegfaaDoorProg
namespace Go.Proofs.YtbmjakaoniegfaaDoor.Shelf
open Go.Shelf
def lays28_ren : Go.Shelf.Ren := ⟨fun | 28 => 124 | n => n, fun | 0 => 0 | 3 => 3 | 4 => 4 | 5 => 5 | 25 => 60 | 27 => 102 | 53 => 119 | n => n, fun | 0 => 0 | n => n⟩
theorem lays28 : Go.Proofs.Lays7.n28 Tryd.prog lays28_ren := {
  mixed := by kernel_rfl
  f28 := Tryd.func124.trans (congrArg some (by kernel_rfl))
  t0 := Tryd.underlying0
  a0 := Tryd.isAgg0
  z0 := Tryd.sizeOf0
  v0 := Tryd.zeroValue0
  i0 := by kernel_rfl
  t3 := Tryd.underlying3
  a3 := Tryd.isAgg3
  z3 := Tryd.sizeOf3
  v3 := Tryd.zeroValue3
  i3 := by kernel_rfl
  t4 := Tryd.underlying4
  a4 := Tryd.isAgg4
  z4 := Tryd.sizeOf4
  v4 := Tryd.zeroValue4
  i4 := by kernel_rfl
  t5 := Tryd.underlying5
  a5 := Tryd.isAgg5
  z5 := Tryd.sizeOf5
  v5 := Tryd.zeroValue5
  i5 := by kernel_rfl
  t25 := Tryd.underlying60
  a25 := Tryd.isAgg60
  z25 := Tryd.sizeOf60
  v25 := Tryd.zeroValue60
  i25 := by kernel_rfl
  t27 := Tryd.underlying102
  a27 := Tryd.isAgg102
  z27 := Tryd.sizeOf102
  v27 := Tryd.zeroValue102
  i27 := by kernel_rfl
  t53 := Tryd.underlying119
  a53 := Tryd.isAgg119
  z53 := Tryd.sizeOf119
  v53 := Tryd.zeroValue119
  i53 := by kernel_rfl
  g0 := by kernel_rfl }
abbrev tabNo : Nat := 0
theorem bits_TrailingZeros32 (x : Nat) (hx : x < 4294967296) (w : World) (hT : x ≠ 0 → TabAt tabNo Lib.deBruijn32tab w) :
    Calls Tryd.prog 124 #[.int .u32 x] w fun e w' => e = .returned (.int .i64 (Lib.ctz 32 x)) ∧ w' = w := Any7.bits_TrailingZeros32 lays28 x hx w hT
end Go.Proofs.YtbmjakaoniegfaaDoor.Shelf
