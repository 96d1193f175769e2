/- The shelf's premise at this dump, in plain words, written by the kit's own tools. -/
import Derived.Shelf.SlicesG.SearchI
import Derived.Ground.SlgnProg
import Derived.Test.YtmjiljhcjfnfpaaGreatProg
namespace Go.Proofs
open Go.Shelf
def Tryz.lBs_ren : Go.Shelf.Ren := ⟨fun | 49 => 41 | 59 => 65 | 60 => 66 | 68 => 102 | n => n, fun | 22 => 31 | 23 => 3 | 3 => 3 | 4 => 4 | 51 => 97 | 0 => 0 | n => n, fun | n => n⟩
theorem Tryz.lBs : Go.Proofs.SlLaysN.n49 Tryz.prog Tryz.lBs_ren := {
  mixed := by kernel_rfl
  f49 := ⟨Tryz.f41.name, by decide, Tryz.func41.trans (congrArg some (by kernel_rfl))⟩
  f59 := ⟨Tryz.f65.name, by decide, Tryz.func65.trans (congrArg some (by kernel_rfl))⟩
  f60 := ⟨Tryz.f66.name, by decide, Tryz.func66.trans (congrArg some (by kernel_rfl))⟩
  f68 := ⟨Tryz.f102.name, by decide, Tryz.func102.trans (congrArg some (by kernel_rfl))⟩
  t0 := Tryz.underlying0
  a0 := Tryz.isAgg0
  z0 := Tryz.sizeOf0
  v0 := Tryz.zeroValue0
  t3 := Tryz.underlying3
  a3 := Tryz.isAgg3
  z3 := Tryz.sizeOf3
  v3 := Tryz.zeroValue3
  t4 := Tryz.underlying4
  a4 := Tryz.isAgg4
  z4 := Tryz.sizeOf4
  v4 := Tryz.zeroValue4
  t22 := Tryz.underlying31
  a22 := Tryz.isAgg31
  z22 := Tryz.sizeOf31
  v22 := Tryz.zeroValue31
  t23 := Tryz.underlying3
  a23 := Tryz.isAgg3
  z23 := Tryz.sizeOf3
  v23 := Tryz.zeroValue3
  t51 := Tryz.underlying97
  a51 := Tryz.isAgg97
  z51 := Tryz.sizeOf97
  v51 := Tryz.zeroValue97 }
end Go.Proofs
