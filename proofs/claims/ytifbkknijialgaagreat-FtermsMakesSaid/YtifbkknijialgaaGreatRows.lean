/-
  NARROWER THAN 'FOR EVERY INPUT', by the rows' own cells (each row's printed sentence says how): FtypesOf: loops · GroupsSigned: loops · FtermsMakes: loops · FtermsOnce: loops · FtermsBound: loops.
  DERIVED. THE GIVEN ROWS OF THIS SEAT. 5 by the template 'for every input the law returns true; each argument reads behind the call as it read before'; 0 by the template 'total and deterministic' (their statements: YtifbkknijialgaaGreatTotals.lean).
  GIVEN WITH THE SEED: the statements are not yours to turn. If you find one false, say at which input.
  Laid BY PROGRAM, IN A SANDBOX (cutbox-rows.mjs): the forced cells as the released guide's own fill.sh prints them over the translation f25e5df69421218e… (all of the seat's roots in one cut). By AI agents, Wed Nov 11 2026. No macro, syntax, notation, axiom, sorry.
-/
import Derived.Test.YtifbkknijialgaaGreatChecked
import GoSem.Claim
import GoSem.ClaimJoined
import GoSem.ClaimMapViews
import Derived.JoinedTies
import Derived.KernelRfl
namespace Go.Proofs.YtifbkknijialgaaGreat
/- THE CELL 'sum', in the pinned program and in every row, IS THE sha256 OF THE DUMP (.gsa) THAT YtifbkknijialgaaGreatProg.lean LOADS. Nothing in Lean hashes anything: it is a label: what it is worth is what the hold of that sum in a sandbox is worth. -/
noncomputable def Tryz.pinned : Pinned := { name := "ytifbkknijialgaagreat", sum := "f25e5df69421218ebc773b654fc64c8b0b4fde41e9c228490761a08617e77cfa", checked := Tryz.checked }
namespace Rows
def none {H : Type} : Left H := { results := [], args := [] }

/-- 'envoylaw31.FtypesOf': WHATEVER THE INPUT: true; the input reads as it did. -/
def ftypesOfSpec : ChangeSpec := { name := "ftypesOf", fn := fun _ => fun
  | [d] => { results := [.lit (.bool true)], args := [d] }
  | _ => none }
def ftypesOfRow : OpenClaim := { program := "ytifbkknijialgaagreat", sum := "f25e5df69421218ebc773b654fc64c8b0b4fde41e9c228490761a08617e77cfa", func := "envoy/envoylaw31.FtypesOf", spec := "ftypesOf", inPlace := ["internal/abi.NoEscape"], unfollowed := true, recurses := true, loops := true, apart := false }
def FtypesOfSaid : Prop := ftypesOfRow.holds Tryz.pinned (OpenSpec.ofChange ftypesOfSpec)

/-- ITS FALSE NEIGHBOUR: 'it returns false'. Refute it at one input. -/
def ftypesOfWrong : ChangeSpec := { name := "ftypesOf", fn := fun _ => fun
  | [d] => { results := [.lit (.bool false)], args := [d] }
  | _ => none }
def FtypesOfWrongFalsely : Prop := ftypesOfRow.holds Tryz.pinned (OpenSpec.ofChange ftypesOfWrong)

/-- 'envoylaw15.GroupsSigned': WHATEVER THE INPUT: true; the input reads as it did. -/
def groupsSignedSpec : ChangeSpec := { name := "groupsSigned", fn := fun _ => fun
  | [d] => { results := [.lit (.bool true)], args := [d] }
  | _ => none }
def groupsSignedRow : OpenClaim := { program := "ytifbkknijialgaagreat", sum := "f25e5df69421218ebc773b654fc64c8b0b4fde41e9c228490761a08617e77cfa", func := "envoy/envoylaw15.GroupsSigned", spec := "groupsSigned", unfollowed := true, recurses := true, loops := true, apart := false }
def GroupsSignedSaid : Prop := groupsSignedRow.holds Tryz.pinned (OpenSpec.ofChange groupsSignedSpec)

/-- ITS FALSE NEIGHBOUR: 'it returns false'. Refute it at one input. -/
def groupsSignedWrong : ChangeSpec := { name := "groupsSigned", fn := fun _ => fun
  | [d] => { results := [.lit (.bool false)], args := [d] }
  | _ => none }
def GroupsSignedWrongFalsely : Prop := groupsSignedRow.holds Tryz.pinned (OpenSpec.ofChange groupsSignedWrong)

/-- 'envoylaw32.FtermsMakes': WHATEVER THE INPUT: true; the input reads as it did. -/
def ftermsMakesSpec : ChangeSpec := { name := "ftermsMakes", fn := fun _ => fun
  | [d1, d2, d3] => { results := [.lit (.bool true)], args := [d1, d2, d3] }
  | _ => none }
def ftermsMakesRow : OpenClaim := { program := "ytifbkknijialgaagreat", sum := "f25e5df69421218ebc773b654fc64c8b0b4fde41e9c228490761a08617e77cfa", func := "envoy/envoylaw32.FtermsMakes", spec := "ftermsMakes", inPlace := ["internal/abi.NoEscape", "internal/bytealg.MakeNoZero"], unfollowed := true, recurses := true, loops := true, apart := false }
def FtermsMakesSaid : Prop := ftermsMakesRow.holds Tryz.pinned (OpenSpec.ofChange ftermsMakesSpec)

/-- ITS FALSE NEIGHBOUR: 'it returns false'. Refute it at one input. -/
def ftermsMakesWrong : ChangeSpec := { name := "ftermsMakes", fn := fun _ => fun
  | [d1, d2, d3] => { results := [.lit (.bool false)], args := [d1, d2, d3] }
  | _ => none }
def FtermsMakesWrongFalsely : Prop := ftermsMakesRow.holds Tryz.pinned (OpenSpec.ofChange ftermsMakesWrong)

/-- 'envoylaw32.FtermsOnce': WHATEVER THE INPUT: true; the input reads as it did. -/
def ftermsOnceSpec : ChangeSpec := { name := "ftermsOnce", fn := fun _ => fun
  | [d] => { results := [.lit (.bool true)], args := [d] }
  | _ => none }
def ftermsOnceRow : OpenClaim := { program := "ytifbkknijialgaagreat", sum := "f25e5df69421218ebc773b654fc64c8b0b4fde41e9c228490761a08617e77cfa", func := "envoy/envoylaw32.FtermsOnce", spec := "ftermsOnce", inPlace := ["internal/abi.NoEscape", "internal/bytealg.MakeNoZero"], unfollowed := true, recurses := true, loops := true, apart := false }
def FtermsOnceSaid : Prop := ftermsOnceRow.holds Tryz.pinned (OpenSpec.ofChange ftermsOnceSpec)

/-- ITS FALSE NEIGHBOUR: 'it returns false'. Refute it at one input. -/
def ftermsOnceWrong : ChangeSpec := { name := "ftermsOnce", fn := fun _ => fun
  | [d] => { results := [.lit (.bool false)], args := [d] }
  | _ => none }
def FtermsOnceWrongFalsely : Prop := ftermsOnceRow.holds Tryz.pinned (OpenSpec.ofChange ftermsOnceWrong)

/-- 'envoylaw32.FtermsBound': WHATEVER THE INPUT: true; the input reads as it did. -/
def ftermsBoundSpec : ChangeSpec := { name := "ftermsBound", fn := fun _ => fun
  | [d1, d2] => { results := [.lit (.bool true)], args := [d1, d2] }
  | _ => none }
def ftermsBoundRow : OpenClaim := { program := "ytifbkknijialgaagreat", sum := "f25e5df69421218ebc773b654fc64c8b0b4fde41e9c228490761a08617e77cfa", func := "envoy/envoylaw32.FtermsBound", spec := "ftermsBound", inPlace := ["internal/abi.NoEscape", "internal/bytealg.MakeNoZero"], unfollowed := true, recurses := true, loops := true, apart := false }
def FtermsBoundSaid : Prop := ftermsBoundRow.holds Tryz.pinned (OpenSpec.ofChange ftermsBoundSpec)

/-- ITS FALSE NEIGHBOUR: 'it returns false'. Refute it at one input. -/
def ftermsBoundWrong : ChangeSpec := { name := "ftermsBound", fn := fun _ => fun
  | [d1, d2] => { results := [.lit (.bool false)], args := [d1, d2] }
  | _ => none }
def FtermsBoundWrongFalsely : Prop := ftermsBoundRow.holds Tryz.pinned (OpenSpec.ofChange ftermsBoundWrong)

/- THE SECOND FORM. 'bulk': how many values and letters a reading holds, each counted each time it is reached (what is shared counts as often as it is met; a slice's spare places count too). A statement '..UptoSaid' is the law's where the arguments, and the package variables that the reading takes, are together of bulk at most 1048576: NARROWER than '..Said'. Prove '..Said' where nothing that the law and all that it calls make is longer than what came in: it says more and counts as full. Else prove '..UptoSaid'. A law counts once. -/
mutual
def uptoBulk {H : Type} : DataW H → Nat
  | .lit (.string bytes) => bytes.length + 1
  | .lit _ => 1
  | .nil => 1
  | .ptr d => uptoBulk d + 1
  | .slice elems spare => uptoBulkAll elems + uptoBulkAll spare + 1
  | .agg parts => uptoBulkAll parts + 1
  | .iface _ d => uptoBulk d + 1
  | .map entries => uptoBulkEntries entries + 1
  | .held _ => 1
def uptoBulkAll {H : Type} : List (DataW H) → Nat
  | [] => 0
  | d :: r => uptoBulk d + uptoBulkAll r
def uptoBulkEntries {H : Type} : List (Lit × DataW H) → Nat
  | [] => 0
  | x :: r => uptoBulkEntry x + uptoBulkEntries r
def uptoBulkEntry {H : Type} : Lit × DataW H → Nat
  | (.string bytes, d) => bytes.length + uptoBulk d + 1
  | (_, d) => uptoBulk d + 1
 end
def uptoSmall : (H : Type) → List (DataW H) → Bool := fun _ ds => decide (uptoBulkAll ds ≤ 1048576)
def OpenSpec.upto (s : _root_.Go.ChangeSpec) : _root_.Go.OpenSpec := { _root_.Go.OpenSpec.ofChange s with cond := some uptoSmall }

/-- 'envoylaw31.FtypesOf', WHERE WHAT IT READS IS OF BULK AT MOST 1048576: true; the input reads as it did. -/
def ftypesOfUptoRow : OpenClaim := { program := "ytifbkknijialgaagreat", sum := "f25e5df69421218ebc773b654fc64c8b0b4fde41e9c228490761a08617e77cfa", func := "envoy/envoylaw31.FtypesOf", spec := "ftypesOf", inPlace := ["internal/abi.NoEscape"], unfollowed := true, recurses := true, loops := true, apart := false, narrowed := true }
def FtypesOfUptoSaid : Prop := ftypesOfUptoRow.holds Tryz.pinned (OpenSpec.upto ftypesOfSpec)

/-- 'envoylaw15.GroupsSigned', WHERE WHAT IT READS IS OF BULK AT MOST 1048576: true; the input reads as it did. -/
def groupsSignedUptoRow : OpenClaim := { program := "ytifbkknijialgaagreat", sum := "f25e5df69421218ebc773b654fc64c8b0b4fde41e9c228490761a08617e77cfa", func := "envoy/envoylaw15.GroupsSigned", spec := "groupsSigned", unfollowed := true, recurses := true, loops := true, apart := false, narrowed := true }
def GroupsSignedUptoSaid : Prop := groupsSignedUptoRow.holds Tryz.pinned (OpenSpec.upto groupsSignedSpec)

/-- 'envoylaw32.FtermsMakes', WHERE WHAT IT READS IS OF BULK AT MOST 1048576: true; the input reads as it did. -/
def ftermsMakesUptoRow : OpenClaim := { program := "ytifbkknijialgaagreat", sum := "f25e5df69421218ebc773b654fc64c8b0b4fde41e9c228490761a08617e77cfa", func := "envoy/envoylaw32.FtermsMakes", spec := "ftermsMakes", inPlace := ["internal/abi.NoEscape", "internal/bytealg.MakeNoZero"], unfollowed := true, recurses := true, loops := true, apart := false, narrowed := true }
def FtermsMakesUptoSaid : Prop := ftermsMakesUptoRow.holds Tryz.pinned (OpenSpec.upto ftermsMakesSpec)

/-- 'envoylaw32.FtermsOnce', WHERE WHAT IT READS IS OF BULK AT MOST 1048576: true; the input reads as it did. -/
def ftermsOnceUptoRow : OpenClaim := { program := "ytifbkknijialgaagreat", sum := "f25e5df69421218ebc773b654fc64c8b0b4fde41e9c228490761a08617e77cfa", func := "envoy/envoylaw32.FtermsOnce", spec := "ftermsOnce", inPlace := ["internal/abi.NoEscape", "internal/bytealg.MakeNoZero"], unfollowed := true, recurses := true, loops := true, apart := false, narrowed := true }
def FtermsOnceUptoSaid : Prop := ftermsOnceUptoRow.holds Tryz.pinned (OpenSpec.upto ftermsOnceSpec)

/-- 'envoylaw32.FtermsBound', WHERE WHAT IT READS IS OF BULK AT MOST 1048576: true; the input reads as it did. -/
def ftermsBoundUptoRow : OpenClaim := { program := "ytifbkknijialgaagreat", sum := "f25e5df69421218ebc773b654fc64c8b0b4fde41e9c228490761a08617e77cfa", func := "envoy/envoylaw32.FtermsBound", spec := "ftermsBound", inPlace := ["internal/abi.NoEscape", "internal/bytealg.MakeNoZero"], unfollowed := true, recurses := true, loops := true, apart := false, narrowed := true }
def FtermsBoundUptoSaid : Prop := ftermsBoundUptoRow.holds Tryz.pinned (OpenSpec.upto ftermsBoundSpec)

end Rows
end Go.Proofs.YtifbkknijialgaaGreat
