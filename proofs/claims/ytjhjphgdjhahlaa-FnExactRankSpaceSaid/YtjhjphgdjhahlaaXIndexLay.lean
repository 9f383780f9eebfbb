/- The numbers of slices.IndexFunc at Space in this translation (written by the kit's lay-plain.mjs). -/
import Derived.Shelf.SlLaysH0
import Derived.Test.YtjhjphgdjhahlaaProg
-- plain
namespace Go.Proofs.Ytjhjphgdjhahlaa.P
open Go.Shelf
def indexSp_ren : Go.Shelf.Ren := ⟨fun | 6 => 90 | n => n, fun | 22 => 59 | 23 => 28 | 25 => 66 | 3 => 3 | 0 => 0 | 4 => 4 | n => n, fun | n => n⟩
theorem indexSp : Go.Proofs.SlLaysH0.n6 Try.prog indexSp_ren := {
  mixed := by kernel_rfl
  f6 := ⟨Try.f90.name, by decide, Try.func90.trans (congrArg some (by kernel_rfl))⟩
  t0 := Try.underlying0
  a0 := Try.isAgg0
  z0 := Try.sizeOf0
  v0 := Try.zeroValue0
  t3 := Try.underlying3
  a3 := Try.isAgg3
  z3 := Try.sizeOf3
  v3 := Try.zeroValue3
  t4 := Try.underlying4
  a4 := Try.isAgg4
  z4 := Try.sizeOf4
  v4 := Try.zeroValue4
  t22 := Try.underlying59
  a22 := Try.isAgg59
  z22 := Try.sizeOf59
  v22 := Try.zeroValue59
  t25 := Try.underlying66
  a25 := Try.isAgg66
  z25 := Try.sizeOf66
  v25 := Try.zeroValue66 }
end Go.Proofs.Ytjhjphgdjhahlaa.P
