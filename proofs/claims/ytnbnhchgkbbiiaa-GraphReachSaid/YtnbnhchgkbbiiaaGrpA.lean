/- The record of a search, laid anew. -/
import Derived.Test.YtnbnhchgkbbiiaaWait
namespace Go.Proofs.Ytnbnhchgkbbiiaa
open Go.RowKit

def WR.new (v : Value) : WR := ⟨v, 0, fun _ => 0, fun _ => 0, fun _ => false, .slice none 0 0, .slice none 0 0, fun _ => 0⟩
set_option maxRecDepth 100000 in
theorem new_walk (A : Option Addr) (n c : Nat) : Try.zeroCells70.setIfInBounds 0 (.slice A n c) = cellsOf 4004 (WR.new (.slice A n c)).cell := by kernel_rfl
def TS.first : TS := ⟨0, fun _ => 0, fun _ => 0, fun _ => false, [], [], fun _ => 0⟩
theorem Mem.first {ty int : TypeId} {rb wb : Nat} {w : World} {v : Value} (h : Wk ty w wb (WR.new v)) : Mem ty int rb w wb v TS.first (.slice none 0 0) (.slice none 0 0) :=
  ⟨h, World.ownsRow_nil _ _ _ _, World.ownsRow_nil _ _ _ _, by intro k h; cases h⟩

end Go.Proofs.Ytnbnhchgkbbiiaa
