/- The shelf's layings at this dump (written by the shelf's tool, names put in): slices.Insert at []int. Conditions: none. -/
import Derived.Shelf.Lays2
import Derived.Shelf.Spec.SlicesInsert
import Derived.Shelf.Spec.SlicesInsertGrow
import Derived.Test.YtgnhlaonckognaaProg
namespace Go.Proofs.Ytgnhlaonckognaa
open Go.Shelf
def insInt_ren : Go.Shelf.Ren := ⟨fun | 21 => 81 | 27 => 101 | 28 => 102 | 35 => 117 | 39 => 139 | n => n, fun | 22 => 34 | 3 => 3 | 4 => 4 | 0 => 0 | n => n, fun | n => n⟩
theorem insInt : Go.Proofs.Lays2.n21 Try.prog insInt_ren := {
  mixed := by kernel_rfl
  f21 := Try.func81.trans (congrArg some (by kernel_rfl))
  f27 := Try.func101.trans (congrArg some (by kernel_rfl))
  f28 := Try.func102.trans (congrArg some (by kernel_rfl))
  f35 := Try.func117.trans (congrArg some (by kernel_rfl))
  f39 := Try.func139.trans (congrArg some (by kernel_rfl))
  t0 := Try.underlying0
  a0 := Try.isAgg0
  z0 := Try.sizeOf0
  v0 := Try.zeroValue0
  t3 := Try.underlying3
  a3 := Try.isAgg3
  z3 := Try.sizeOf3
  v3 := Try.zeroValue3
  t4 := Try.underlying4
  a4 := Try.isAgg4
  z4 := Try.sizeOf4
  v4 := Try.zeroValue4
  t22 := Try.underlying34
  a22 := Try.isAgg34
  z22 := Try.sizeOf34
  v22 := Try.zeroValue34
  i3 := by kernel_rfl }
end Go.Proofs.Ytgnhlaonckognaa
