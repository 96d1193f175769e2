/- The shelf's premise at this dump, in plain words, written by the kit's own tools. -/
import Derived.Shelf.SlicesG.SearchI
import Derived.Ground.SlgnProg
import Derived.Test.YtnomibjbjplieaaGreatProg
namespace Go.Proofs
open Go.Shelf
def Tryz.lBs_ren : Go.Shelf.Ren := ⟨fun | 49 => 60 | 59 => 93 | 60 => 94 | 68 => 136 | n => n, fun | 22 => 29 | 23 => 3 | 3 => 3 | 4 => 4 | 51 => 138 | 0 => 0 | n => n, fun | n => n⟩
theorem Tryz.lBs : Go.Proofs.SlLaysN.n49 Tryz.prog Tryz.lBs_ren := {
  mixed := by kernel_rfl
  f49 := ⟨Tryz.f60.name, by decide, Tryz.func60.trans (congrArg some (by kernel_rfl))⟩
  f59 := ⟨Tryz.f93.name, by decide, Tryz.func93.trans (congrArg some (by kernel_rfl))⟩
  f60 := ⟨Tryz.f94.name, by decide, Tryz.func94.trans (congrArg some (by kernel_rfl))⟩
  f68 := ⟨Tryz.f136.name, by decide, Tryz.func136.trans (congrArg some (by kernel_rfl))⟩
  t0 := Tryz.underlying0
  a0 := Tryz.isAgg0
  z0 := Tryz.sizeOf0
  v0 := Tryz.zeroValue0
  t3 := Tryz.underlying3
  a3 := Tryz.isAgg3
  z3 := Tryz.sizeOf3
  v3 := Tryz.zeroValue3
  t4 := Tryz.underlying4
  a4 := Tryz.isAgg4
  z4 := Tryz.sizeOf4
  v4 := Tryz.zeroValue4
  t22 := Tryz.underlying29
  a22 := Tryz.isAgg29
  z22 := Tryz.sizeOf29
  v22 := Tryz.zeroValue29
  t23 := Tryz.underlying3
  a23 := Tryz.isAgg3
  z23 := Tryz.sizeOf3
  v23 := Tryz.zeroValue3
  t51 := Tryz.underlying138
  a51 := Tryz.isAgg138
  z51 := Tryz.sizeOf138
  v51 := Tryz.zeroValue138 }
end Go.Proofs
