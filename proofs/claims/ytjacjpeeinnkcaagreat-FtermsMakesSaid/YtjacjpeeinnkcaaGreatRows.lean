/-
  NARROWER THAN 'FOR EVERY INPUT', by the rows' own cells (each row's printed sentence says how): FtermsMakes: loops · FtermsOnce: loops · GroupsSigned: loops · FsigsNames: loops · FsigsArgs: loops · FsigsClosed: loops.
  DERIVED. THE GIVEN ROWS OF THIS SEAT. 6 by the template 'for every input the law returns true; each argument reads behind the call as it read before'; 0 by the template 'total and deterministic' (their statements: YtjacjpeeinnkcaaGreatTotals.lean).
  GIVEN WITH THE SEED: the statements are not yours to turn. If you find one false, say at which input.
  Laid BY PROGRAM, IN A SANDBOX (cutbox-rows.mjs): the forced cells as the released guide's own fill.sh prints them over the translation 3948cac51781acc5… (all of the seat's roots in one cut). By AI agents, Wed Nov 11 2026. No macro, syntax, notation, axiom, sorry.
-/
import Derived.Test.YtjacjpeeinnkcaaGreatChecked
import GoSem.Claim
import GoSem.ClaimJoined
import GoSem.ClaimMapViews
import Derived.JoinedTies
import Derived.KernelRfl
namespace Go.Proofs.YtjacjpeeinnkcaaGreat
/- THE CELL 'sum', in the pinned program and in every row, IS THE sha256 OF THE DUMP (.gsa) THAT YtjacjpeeinnkcaaGreatProg.lean LOADS. Nothing in Lean hashes anything: it is a label: what it is worth is what the hold of that sum in a sandbox is worth. -/
noncomputable def Tryz.pinned : Pinned := { name := "ytjacjpeeinnkcaagreat", sum := "3948cac51781acc54b3b4831d5ff484e1f36071696a58918f84845b6d3f825d8", checked := Tryz.checked }
namespace Rows
def none {H : Type} : Left H := { results := [], args := [] }

/-- 'envoylaw32.FtermsMakes': WHATEVER THE INPUT: true; the input reads as it did. -/
def ftermsMakesSpec : ChangeSpec := { name := "ftermsMakes", fn := fun _ => fun
  | [d1, d2, d3] => { results := [.lit (.bool true)], args := [d1, d2, d3] }
  | _ => none }
def ftermsMakesRow : OpenClaim := { program := "ytjacjpeeinnkcaagreat", sum := "3948cac51781acc54b3b4831d5ff484e1f36071696a58918f84845b6d3f825d8", func := "envoy/envoylaw32.FtermsMakes", spec := "ftermsMakes", inPlace := ["internal/abi.NoEscape", "internal/bytealg.MakeNoZero"], unfollowed := true, recurses := true, loops := true, apart := false }
def FtermsMakesSaid : Prop := ftermsMakesRow.holds Tryz.pinned (OpenSpec.ofChange ftermsMakesSpec)

/-- ITS FALSE NEIGHBOUR: 'it returns false'. Refute it at one input. -/
def ftermsMakesWrong : ChangeSpec := { name := "ftermsMakes", fn := fun _ => fun
  | [d1, d2, d3] => { results := [.lit (.bool false)], args := [d1, d2, d3] }
  | _ => none }
def FtermsMakesWrongFalsely : Prop := ftermsMakesRow.holds Tryz.pinned (OpenSpec.ofChange ftermsMakesWrong)

/-- 'envoylaw32.FtermsOnce': WHATEVER THE INPUT: true; the input reads as it did. -/
def ftermsOnceSpec : ChangeSpec := { name := "ftermsOnce", fn := fun _ => fun
  | [d] => { results := [.lit (.bool true)], args := [d] }
  | _ => none }
def ftermsOnceRow : OpenClaim := { program := "ytjacjpeeinnkcaagreat", sum := "3948cac51781acc54b3b4831d5ff484e1f36071696a58918f84845b6d3f825d8", func := "envoy/envoylaw32.FtermsOnce", spec := "ftermsOnce", inPlace := ["internal/abi.NoEscape", "internal/bytealg.MakeNoZero"], unfollowed := true, recurses := true, loops := true, apart := false }
def FtermsOnceSaid : Prop := ftermsOnceRow.holds Tryz.pinned (OpenSpec.ofChange ftermsOnceSpec)

/-- ITS FALSE NEIGHBOUR: 'it returns false'. Refute it at one input. -/
def ftermsOnceWrong : ChangeSpec := { name := "ftermsOnce", fn := fun _ => fun
  | [d] => { results := [.lit (.bool false)], args := [d] }
  | _ => none }
def FtermsOnceWrongFalsely : Prop := ftermsOnceRow.holds Tryz.pinned (OpenSpec.ofChange ftermsOnceWrong)

/-- 'envoylaw15.GroupsSigned': WHATEVER THE INPUT: true; the input reads as it did. -/
def groupsSignedSpec : ChangeSpec := { name := "groupsSigned", fn := fun _ => fun
  | [d] => { results := [.lit (.bool true)], args := [d] }
  | _ => none }
def groupsSignedRow : OpenClaim := { program := "ytjacjpeeinnkcaagreat", sum := "3948cac51781acc54b3b4831d5ff484e1f36071696a58918f84845b6d3f825d8", func := "envoy/envoylaw15.GroupsSigned", spec := "groupsSigned", unfollowed := true, recurses := true, loops := true, apart := false }
def GroupsSignedSaid : Prop := groupsSignedRow.holds Tryz.pinned (OpenSpec.ofChange groupsSignedSpec)

/-- ITS FALSE NEIGHBOUR: 'it returns false'. Refute it at one input. -/
def groupsSignedWrong : ChangeSpec := { name := "groupsSigned", fn := fun _ => fun
  | [d] => { results := [.lit (.bool false)], args := [d] }
  | _ => none }
def GroupsSignedWrongFalsely : Prop := groupsSignedRow.holds Tryz.pinned (OpenSpec.ofChange groupsSignedWrong)

/-- 'envoylaw33.FsigsNames': WHATEVER THE INPUT: true; the input reads as it did. -/
def fsigsNamesSpec : ChangeSpec := { name := "fsigsNames", fn := fun _ => fun
  | [d1, d2, d3] => { results := [.lit (.bool true)], args := [d1, d2, d3] }
  | _ => none }
def fsigsNamesRow : OpenClaim := { program := "ytjacjpeeinnkcaagreat", sum := "3948cac51781acc54b3b4831d5ff484e1f36071696a58918f84845b6d3f825d8", func := "envoy/envoylaw33.FsigsNames", spec := "fsigsNames", inPlace := ["slices.overlaps[envoy/api.Pair]", "internal/abi.NoEscape", "internal/bytealg.MakeNoZero"], unfollowed := true, recurses := true, loops := true, apart := false }
def FsigsNamesSaid : Prop := fsigsNamesRow.holds Tryz.pinned (OpenSpec.ofChange fsigsNamesSpec)

/-- ITS FALSE NEIGHBOUR: 'it returns false'. Refute it at one input. -/
def fsigsNamesWrong : ChangeSpec := { name := "fsigsNames", fn := fun _ => fun
  | [d1, d2, d3] => { results := [.lit (.bool false)], args := [d1, d2, d3] }
  | _ => none }
def FsigsNamesWrongFalsely : Prop := fsigsNamesRow.holds Tryz.pinned (OpenSpec.ofChange fsigsNamesWrong)

/-- 'envoylaw33.FsigsArgs': WHATEVER THE INPUT: true; the input reads as it did. -/
def fsigsArgsSpec : ChangeSpec := { name := "fsigsArgs", fn := fun _ => fun
  | [d1, d2] => { results := [.lit (.bool true)], args := [d1, d2] }
  | _ => none }
def fsigsArgsRow : OpenClaim := { program := "ytjacjpeeinnkcaagreat", sum := "3948cac51781acc54b3b4831d5ff484e1f36071696a58918f84845b6d3f825d8", func := "envoy/envoylaw33.FsigsArgs", spec := "fsigsArgs", inPlace := ["slices.overlaps[envoy/api.Pair]", "internal/abi.NoEscape", "internal/bytealg.MakeNoZero"], unfollowed := true, recurses := true, loops := true, apart := false }
def FsigsArgsSaid : Prop := fsigsArgsRow.holds Tryz.pinned (OpenSpec.ofChange fsigsArgsSpec)

/-- ITS FALSE NEIGHBOUR: 'it returns false'. Refute it at one input. -/
def fsigsArgsWrong : ChangeSpec := { name := "fsigsArgs", fn := fun _ => fun
  | [d1, d2] => { results := [.lit (.bool false)], args := [d1, d2] }
  | _ => none }
def FsigsArgsWrongFalsely : Prop := fsigsArgsRow.holds Tryz.pinned (OpenSpec.ofChange fsigsArgsWrong)

/-- 'envoylaw33.FsigsClosed': WHATEVER THE INPUT: true; the input reads as it did. -/
def fsigsClosedSpec : ChangeSpec := { name := "fsigsClosed", fn := fun _ => fun
  | [d] => { results := [.lit (.bool true)], args := [d] }
  | _ => none }
def fsigsClosedRow : OpenClaim := { program := "ytjacjpeeinnkcaagreat", sum := "3948cac51781acc54b3b4831d5ff484e1f36071696a58918f84845b6d3f825d8", func := "envoy/envoylaw33.FsigsClosed", spec := "fsigsClosed", inPlace := ["slices.overlaps[envoy/api.Pair]", "internal/abi.NoEscape", "internal/bytealg.MakeNoZero"], unfollowed := true, recurses := true, loops := true, apart := false }
def FsigsClosedSaid : Prop := fsigsClosedRow.holds Tryz.pinned (OpenSpec.ofChange fsigsClosedSpec)

/-- ITS FALSE NEIGHBOUR: 'it returns false'. Refute it at one input. -/
def fsigsClosedWrong : ChangeSpec := { name := "fsigsClosed", fn := fun _ => fun
  | [d] => { results := [.lit (.bool false)], args := [d] }
  | _ => none }
def FsigsClosedWrongFalsely : Prop := fsigsClosedRow.holds Tryz.pinned (OpenSpec.ofChange fsigsClosedWrong)

/- THE SECOND FORM. 'bulk': how many values and letters a reading holds, each counted each time it is reached (what is shared counts as often as it is met; a slice's spare places count too). A statement '..UptoSaid' is the law's where the arguments, and the package variables that the reading takes, are together of bulk at most 1048576: NARROWER than '..Said'. Prove '..Said' where nothing that the law and all that it calls make is longer than what came in: it says more and counts as full. Else prove '..UptoSaid'. A law counts once. -/
mutual
def uptoBulk {H : Type} : DataW H → Nat
  | .lit (.string bytes) => bytes.length + 1
  | .lit _ => 1
  | .nil => 1
  | .ptr d => uptoBulk d + 1
  | .slice elems spare => uptoBulkAll elems + uptoBulkAll spare + 1
  | .agg parts => uptoBulkAll parts + 1
  | .iface _ d => uptoBulk d + 1
  | .map entries => uptoBulkEntries entries + 1
  | .held _ => 1
def uptoBulkAll {H : Type} : List (DataW H) → Nat
  | [] => 0
  | d :: r => uptoBulk d + uptoBulkAll r
def uptoBulkEntries {H : Type} : List (Lit × DataW H) → Nat
  | [] => 0
  | x :: r => uptoBulkEntry x + uptoBulkEntries r
def uptoBulkEntry {H : Type} : Lit × DataW H → Nat
  | (.string bytes, d) => bytes.length + uptoBulk d + 1
  | (_, d) => uptoBulk d + 1
 end
def uptoSmall : (H : Type) → List (DataW H) → Bool := fun _ ds => decide (uptoBulkAll ds ≤ 1048576)
def OpenSpec.upto (s : _root_.Go.ChangeSpec) : _root_.Go.OpenSpec := { _root_.Go.OpenSpec.ofChange s with cond := some uptoSmall }

/-- 'envoylaw32.FtermsMakes', WHERE WHAT IT READS IS OF BULK AT MOST 1048576: true; the input reads as it did. -/
def ftermsMakesUptoRow : OpenClaim := { program := "ytjacjpeeinnkcaagreat", sum := "3948cac51781acc54b3b4831d5ff484e1f36071696a58918f84845b6d3f825d8", func := "envoy/envoylaw32.FtermsMakes", spec := "ftermsMakes", inPlace := ["internal/abi.NoEscape", "internal/bytealg.MakeNoZero"], unfollowed := true, recurses := true, loops := true, apart := false, narrowed := true }
def FtermsMakesUptoSaid : Prop := ftermsMakesUptoRow.holds Tryz.pinned (OpenSpec.upto ftermsMakesSpec)

/-- 'envoylaw32.FtermsOnce', WHERE WHAT IT READS IS OF BULK AT MOST 1048576: true; the input reads as it did. -/
def ftermsOnceUptoRow : OpenClaim := { program := "ytjacjpeeinnkcaagreat", sum := "3948cac51781acc54b3b4831d5ff484e1f36071696a58918f84845b6d3f825d8", func := "envoy/envoylaw32.FtermsOnce", spec := "ftermsOnce", inPlace := ["internal/abi.NoEscape", "internal/bytealg.MakeNoZero"], unfollowed := true, recurses := true, loops := true, apart := false, narrowed := true }
def FtermsOnceUptoSaid : Prop := ftermsOnceUptoRow.holds Tryz.pinned (OpenSpec.upto ftermsOnceSpec)

/-- 'envoylaw15.GroupsSigned', WHERE WHAT IT READS IS OF BULK AT MOST 1048576: true; the input reads as it did. -/
def groupsSignedUptoRow : OpenClaim := { program := "ytjacjpeeinnkcaagreat", sum := "3948cac51781acc54b3b4831d5ff484e1f36071696a58918f84845b6d3f825d8", func := "envoy/envoylaw15.GroupsSigned", spec := "groupsSigned", unfollowed := true, recurses := true, loops := true, apart := false, narrowed := true }
def GroupsSignedUptoSaid : Prop := groupsSignedUptoRow.holds Tryz.pinned (OpenSpec.upto groupsSignedSpec)

/-- 'envoylaw33.FsigsNames', WHERE WHAT IT READS IS OF BULK AT MOST 1048576: true; the input reads as it did. -/
def fsigsNamesUptoRow : OpenClaim := { program := "ytjacjpeeinnkcaagreat", sum := "3948cac51781acc54b3b4831d5ff484e1f36071696a58918f84845b6d3f825d8", func := "envoy/envoylaw33.FsigsNames", spec := "fsigsNames", inPlace := ["slices.overlaps[envoy/api.Pair]", "internal/abi.NoEscape", "internal/bytealg.MakeNoZero"], unfollowed := true, recurses := true, loops := true, apart := false, narrowed := true }
def FsigsNamesUptoSaid : Prop := fsigsNamesUptoRow.holds Tryz.pinned (OpenSpec.upto fsigsNamesSpec)

/-- 'envoylaw33.FsigsArgs', WHERE WHAT IT READS IS OF BULK AT MOST 1048576: true; the input reads as it did. -/
def fsigsArgsUptoRow : OpenClaim := { program := "ytjacjpeeinnkcaagreat", sum := "3948cac51781acc54b3b4831d5ff484e1f36071696a58918f84845b6d3f825d8", func := "envoy/envoylaw33.FsigsArgs", spec := "fsigsArgs", inPlace := ["slices.overlaps[envoy/api.Pair]", "internal/abi.NoEscape", "internal/bytealg.MakeNoZero"], unfollowed := true, recurses := true, loops := true, apart := false, narrowed := true }
def FsigsArgsUptoSaid : Prop := fsigsArgsUptoRow.holds Tryz.pinned (OpenSpec.upto fsigsArgsSpec)

/-- 'envoylaw33.FsigsClosed', WHERE WHAT IT READS IS OF BULK AT MOST 1048576: true; the input reads as it did. -/
def fsigsClosedUptoRow : OpenClaim := { program := "ytjacjpeeinnkcaagreat", sum := "3948cac51781acc54b3b4831d5ff484e1f36071696a58918f84845b6d3f825d8", func := "envoy/envoylaw33.FsigsClosed", spec := "fsigsClosed", inPlace := ["slices.overlaps[envoy/api.Pair]", "internal/abi.NoEscape", "internal/bytealg.MakeNoZero"], unfollowed := true, recurses := true, loops := true, apart := false, narrowed := true }
def FsigsClosedUptoSaid : Prop := fsigsClosedUptoRow.holds Tryz.pinned (OpenSpec.upto fsigsClosedSpec)

end Rows
end Go.Proofs.YtjacjpeeinnkcaaGreat
