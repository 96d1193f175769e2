/-
  NARROWER THAN 'FOR EVERY INPUT', by the rows' own cells (each row's printed sentence says how): FsigsNames: loops · FsigsArgs: loops.
  DERIVED. THE GIVEN ROWS OF THIS SEAT. 2 by the template 'for every input the law returns true; each argument reads behind the call as it read before'; 0 by the template 'total and deterministic' (their statements: YtnomibjbjplieaaGreatTotals.lean).
  GIVEN WITH THE SEED: the statements are not yours to turn. If you find one false, say at which input.
  Laid BY PROGRAM, IN A SANDBOX (cutbox-rows.mjs): the forced cells as the released guide's own fill.sh prints them over the translation 58bd78b8fa3b656d… (all of the seat's roots in one cut). By AI agents, Wed Nov 11 2026. No macro, syntax, notation, axiom, sorry.
-/
import Derived.Test.YtnomibjbjplieaaGreatChecked
import GoSem.Claim
import GoSem.ClaimJoined
import GoSem.ClaimMapViews
import Derived.JoinedTies
import Derived.KernelRfl
namespace Go.Proofs.YtnomibjbjplieaaGreat
/- THE CELL 'sum', in the pinned program and in every row, IS THE sha256 OF THE DUMP (.gsa) THAT YtnomibjbjplieaaGreatProg.lean LOADS. Nothing in Lean hashes anything: it is a label: what it is worth is what the hold of that sum in a sandbox is worth. -/
noncomputable def Tryz.pinned : Pinned := { name := "ytnomibjbjplieaagreat", sum := "58bd78b8fa3b656d45b00c25960a729eb20fd209cd51b415422b27f886fda006", checked := Tryz.checked }
namespace Rows
def none {H : Type} : Left H := { results := [], args := [] }

/-- 'envoylaw33.FsigsNames': WHATEVER THE INPUT: true; the input reads as it did. -/
def fsigsNamesSpec : ChangeSpec := { name := "fsigsNames", fn := fun _ => fun
  | [d1, d2, d3] => { results := [.lit (.bool true)], args := [d1, d2, d3] }
  | _ => none }
def fsigsNamesRow : OpenClaim := { program := "ytnomibjbjplieaagreat", sum := "58bd78b8fa3b656d45b00c25960a729eb20fd209cd51b415422b27f886fda006", func := "envoy/envoylaw33.FsigsNames", spec := "fsigsNames", inPlace := ["slices.overlaps[envoy/api.Pair]", "internal/abi.NoEscape", "internal/bytealg.MakeNoZero"], unfollowed := true, recurses := true, loops := true, apart := false }
def FsigsNamesSaid : Prop := fsigsNamesRow.holds Tryz.pinned (OpenSpec.ofChange fsigsNamesSpec)

/-- ITS FALSE NEIGHBOUR: 'it returns false'. Refute it at one input. -/
def fsigsNamesWrong : ChangeSpec := { name := "fsigsNames", fn := fun _ => fun
  | [d1, d2, d3] => { results := [.lit (.bool false)], args := [d1, d2, d3] }
  | _ => none }
def FsigsNamesWrongFalsely : Prop := fsigsNamesRow.holds Tryz.pinned (OpenSpec.ofChange fsigsNamesWrong)

/-- 'envoylaw33.FsigsArgs': WHATEVER THE INPUT: true; the input reads as it did. -/
def fsigsArgsSpec : ChangeSpec := { name := "fsigsArgs", fn := fun _ => fun
  | [d1, d2] => { results := [.lit (.bool true)], args := [d1, d2] }
  | _ => none }
def fsigsArgsRow : OpenClaim := { program := "ytnomibjbjplieaagreat", sum := "58bd78b8fa3b656d45b00c25960a729eb20fd209cd51b415422b27f886fda006", func := "envoy/envoylaw33.FsigsArgs", spec := "fsigsArgs", inPlace := ["slices.overlaps[envoy/api.Pair]", "internal/abi.NoEscape", "internal/bytealg.MakeNoZero"], unfollowed := true, recurses := true, loops := true, apart := false }
def FsigsArgsSaid : Prop := fsigsArgsRow.holds Tryz.pinned (OpenSpec.ofChange fsigsArgsSpec)

/-- ITS FALSE NEIGHBOUR: 'it returns false'. Refute it at one input. -/
def fsigsArgsWrong : ChangeSpec := { name := "fsigsArgs", fn := fun _ => fun
  | [d1, d2] => { results := [.lit (.bool false)], args := [d1, d2] }
  | _ => none }
def FsigsArgsWrongFalsely : Prop := fsigsArgsRow.holds Tryz.pinned (OpenSpec.ofChange fsigsArgsWrong)

/- THE SECOND FORM. 'bulk': how many values and letters a reading holds, each counted each time it is reached (what is shared counts as often as it is met; a slice's spare places count too). A statement '..UptoSaid' is the law's where the arguments, and the package variables that the reading takes, are together of bulk at most 1048576: NARROWER than '..Said'. Prove '..Said' where nothing that the law and all that it calls make is longer than what came in: it says more and counts as full. Else prove '..UptoSaid'. A law counts once. -/
mutual
def uptoBulk {H : Type} : DataW H → Nat
  | .lit (.string bytes) => bytes.length + 1
  | .lit _ => 1
  | .nil => 1
  | .ptr d => uptoBulk d + 1
  | .slice elems spare => uptoBulkAll elems + uptoBulkAll spare + 1
  | .agg parts => uptoBulkAll parts + 1
  | .iface _ d => uptoBulk d + 1
  | .map entries => uptoBulkEntries entries + 1
  | .held _ => 1
def uptoBulkAll {H : Type} : List (DataW H) → Nat
  | [] => 0
  | d :: r => uptoBulk d + uptoBulkAll r
def uptoBulkEntries {H : Type} : List (Lit × DataW H) → Nat
  | [] => 0
  | x :: r => uptoBulkEntry x + uptoBulkEntries r
def uptoBulkEntry {H : Type} : Lit × DataW H → Nat
  | (.string bytes, d) => bytes.length + uptoBulk d + 1
  | (_, d) => uptoBulk d + 1
 end
def uptoSmall : (H : Type) → List (DataW H) → Bool := fun _ ds => decide (uptoBulkAll ds ≤ 1048576)
def OpenSpec.upto (s : _root_.Go.ChangeSpec) : _root_.Go.OpenSpec := { _root_.Go.OpenSpec.ofChange s with cond := some uptoSmall }

/-- 'envoylaw33.FsigsNames', WHERE WHAT IT READS IS OF BULK AT MOST 1048576: true; the input reads as it did. -/
def fsigsNamesUptoRow : OpenClaim := { program := "ytnomibjbjplieaagreat", sum := "58bd78b8fa3b656d45b00c25960a729eb20fd209cd51b415422b27f886fda006", func := "envoy/envoylaw33.FsigsNames", spec := "fsigsNames", inPlace := ["slices.overlaps[envoy/api.Pair]", "internal/abi.NoEscape", "internal/bytealg.MakeNoZero"], unfollowed := true, recurses := true, loops := true, apart := false, narrowed := true }
def FsigsNamesUptoSaid : Prop := fsigsNamesUptoRow.holds Tryz.pinned (OpenSpec.upto fsigsNamesSpec)

/-- 'envoylaw33.FsigsArgs', WHERE WHAT IT READS IS OF BULK AT MOST 1048576: true; the input reads as it did. -/
def fsigsArgsUptoRow : OpenClaim := { program := "ytnomibjbjplieaagreat", sum := "58bd78b8fa3b656d45b00c25960a729eb20fd209cd51b415422b27f886fda006", func := "envoy/envoylaw33.FsigsArgs", spec := "fsigsArgs", inPlace := ["slices.overlaps[envoy/api.Pair]", "internal/abi.NoEscape", "internal/bytealg.MakeNoZero"], unfollowed := true, recurses := true, loops := true, apart := false, narrowed := true }
def FsigsArgsUptoSaid : Prop := fsigsArgsUptoRow.holds Tryz.pinned (OpenSpec.upto fsigsArgsSpec)

end Rows
end Go.Proofs.YtnomibjbjplieaaGreat
