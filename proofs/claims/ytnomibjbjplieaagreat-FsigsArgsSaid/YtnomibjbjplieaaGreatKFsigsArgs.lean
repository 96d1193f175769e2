/- 'FsigsArgs' is proved. For all arguments it returns true, and its arguments read as they did. No condition. -/
import Derived.Test.YtnomibjbjplieaaGreatKFsigsArgsL
import Derived.Test.YtnomibjbjplieaaGreatKFsigsArgsJ
namespace Go.Proofs.YtnomibjbjplieaaGreat.fsigsArgs
open Go.ChangeShapes Go.WideShapes Go.ChangeAt Go.RowKit

/-- The given statement. -/
theorem proved : Rows.FsigsArgsSaid :=
  OpenClaim.holds_of_wide 4 Tryz.f4 rfl rfl rfl rfl rfl rfl rfl ⟨rfl, rfl, rfl, rfl, rfl⟩ rfl rfl rfl rfl rfl named Tryz.func4 closed inst wrap
    (fun os started H enc _ => lifted os started H enc)
#print axioms proved

end Go.Proofs.YtnomibjbjplieaaGreat.fsigsArgs
