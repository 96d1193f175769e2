/- 'FtermsMakes' is proved. For all arguments it returns true, and its arguments read as they did. No condition. -/
import Derived.Test.YtjacjpeeinnkcaaGreatKFtermsMakesL
import Derived.Test.YtjacjpeeinnkcaaGreatKFtermsMakesJ
namespace Go.Proofs.YtjacjpeeinnkcaaGreat.ftermsMakes
open Go.ChangeShapes Go.WideShapes Go.ChangeAt Go.RowKit

/-- The given statement. -/
theorem proved : Rows.FtermsMakesSaid :=
  OpenClaim.holds_of_wide 3 Tryz.f3 rfl rfl rfl rfl rfl rfl rfl ⟨rfl, rfl, rfl, rfl, rfl⟩ rfl rfl rfl rfl rfl named Tryz.func3 closed inst wrap
    (fun os started H enc _ => lifted os started H enc)
#print axioms proved

end Go.Proofs.YtjacjpeeinnkcaaGreat.ftermsMakes
