/- 'FsigsNames' is proved. For all arguments it returns true, and its arguments read as they did. No condition. -/
import Derived.Test.YtnomibjbjplieaaGreatKFsigsNamesL
import Derived.Test.YtnomibjbjplieaaGreatKFsigsNamesJ
namespace Go.Proofs.YtnomibjbjplieaaGreat.fsigsNames
open Go.ChangeShapes Go.WideShapes Go.ChangeAt Go.RowKit

/-- The given statement. -/
theorem proved : Rows.FsigsNamesSaid :=
  OpenClaim.holds_of_wide 3 Tryz.f3 rfl rfl rfl rfl rfl rfl rfl ⟨rfl, rfl, rfl, rfl, rfl⟩ rfl rfl rfl rfl rfl named Tryz.func3 closed inst wrap
    (fun os started H enc _ => lifted os started H enc)
#print axioms proved

end Go.Proofs.YtnomibjbjplieaaGreat.fsigsNames
