import Derived.Test.YtigafbmabjglfaaGreatDoorJT31
import Derived.Lib.SmallJoins
namespace Go.Proofs.YtigafbmabjglfaaGreatDoor
open Go.RowKit Go.ChangeShapes Go.WideShapes Go.Deep
section
variable {H : Type}{enc:TypeId×Value→H}{P:Program}{w:World}{base:Nat}{spare:Nat→Bool}{held:Bool}
end
theorem IP {P:Program}{W:World}{r:Reach}{b:Nat}{t:TypeId}{v:Value}{fs:Array Field}(ht:P.underlying t=some (.struct fs)) (h:Value.okWide P W r b t v):∃cs,v=.agg cs:=by
 unfold Value.okWide at h;rw[ht] at h;obtain⟨cs,h,_⟩:=h;exact⟨cs,h⟩
end Go.Proofs.YtigafbmabjglfaaGreatDoor
