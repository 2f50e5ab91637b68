/- Library functions, laid at this program: no walk of the library. -/
import Derived.Shelf.SlGeneric
import Derived.Shelf.SlSortCmp.InsertionK
import Derived.Ground.SlsfProg
import Derived.Test.YticchchcobjpdaaProg
namespace Go.Proofs.Yticchchcobjpdaa
open Go.Shelf
def sh_insl_ren : Go.Shelf.Ren := ⟨fun | 20 => 73 | n => n, fun | 24 => 25 | 22 => 51 | 3 => 3 | 25 => 109 | 4 => 4 | 0 => 0 | n => n, fun | n => n⟩
theorem sh_insl : Go.Proofs.SlLaysF0.n20 Try.prog sh_insl_ren := {
  mixed := by kernel_rfl
  f20 := ⟨Try.f73.name, by decide, Try.func73.trans (congrArg some (by kernel_rfl))⟩
  t0 := Try.underlying0
  a0 := Try.isAgg0
  z0 := Try.sizeOf0
  v0 := Try.zeroValue0
  t3 := Try.underlying3
  a3 := Try.isAgg3
  z3 := Try.sizeOf3
  v3 := Try.zeroValue3
  t4 := Try.underlying4
  a4 := Try.isAgg4
  z4 := Try.sizeOf4
  v4 := Try.zeroValue4
  t22 := Try.underlying51
  a22 := Try.isAgg51
  z22 := Try.sizeOf51
  v22 := Try.zeroValue51
  t25 := Try.underlying109
  a25 := Try.isAgg109
  z25 := Try.sizeOf109
  v25 := Try.zeroValue109 }
end Go.Proofs.Yticchchcobjpdaa
