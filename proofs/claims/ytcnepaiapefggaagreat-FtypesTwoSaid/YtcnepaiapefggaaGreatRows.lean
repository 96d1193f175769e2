/-
  NARROWER THAN 'FOR EVERY INPUT', by the rows' own cells (each row's printed sentence says how): FtypesDicts: loops · FtypesTwo: loops · FtypesOf: loops · GroupsSigned: loops.
  DERIVED. THE GIVEN ROWS OF THIS SEAT. 4 by the template 'for every input the law returns true; each argument reads behind the call as it read before'; 0 by the template 'total and deterministic' (their statements: YtcnepaiapefggaaGreatTotals.lean).
  GIVEN WITH THE SEED: the statements are not yours to turn. If you find one false, say at which input.
  Laid BY PROGRAM, IN A SANDBOX (cutbox-rows.mjs): the forced cells as the released guide's own fill.sh prints them over the translation acd896723bdaf8af… (all of the seat's roots in one cut). By AI agents, Wed Nov 11 2026. No macro, syntax, notation, axiom, sorry.
-/
import Derived.Test.YtcnepaiapefggaaGreatChecked
import GoSem.Claim
import GoSem.ClaimJoined
import GoSem.ClaimMapViews
import Derived.JoinedTies
import Derived.KernelRfl
namespace Go.Proofs.YtcnepaiapefggaaGreat
/- THE CELL 'sum', in the pinned program and in every row, IS THE sha256 OF THE DUMP (.gsa) THAT YtcnepaiapefggaaGreatProg.lean LOADS. Nothing in Lean hashes anything: it is a label: what it is worth is what the hold of that sum in a sandbox is worth. -/
noncomputable def Tryz.pinned : Pinned := { name := "ytcnepaiapefggaagreat", sum := "acd896723bdaf8af0e91fe2355a1be59303676d8be2e3dfb53e2f72df1d66f56", checked := Tryz.checked }
namespace Rows
def none {H : Type} : Left H := { results := [], args := [] }

/-- 'envoylaw31.FtypesDicts': WHATEVER THE INPUT: true; the input reads as it did. -/
def ftypesDictsSpec : ChangeSpec := { name := "ftypesDicts", fn := fun _ => fun
  | [d1, d2] => { results := [.lit (.bool true)], args := [d1, d2] }
  | _ => none }
def ftypesDictsRow : OpenClaim := { program := "ytcnepaiapefggaagreat", sum := "acd896723bdaf8af0e91fe2355a1be59303676d8be2e3dfb53e2f72df1d66f56", func := "envoy/envoylaw31.FtypesDicts", spec := "ftypesDicts", inPlace := ["internal/abi.NoEscape"], unfollowed := true, recurses := true, loops := true, apart := false }
def FtypesDictsSaid : Prop := ftypesDictsRow.holds Tryz.pinned (OpenSpec.ofChange ftypesDictsSpec)

/-- ITS FALSE NEIGHBOUR: 'it returns false'. Refute it at one input. -/
def ftypesDictsWrong : ChangeSpec := { name := "ftypesDicts", fn := fun _ => fun
  | [d1, d2] => { results := [.lit (.bool false)], args := [d1, d2] }
  | _ => none }
def FtypesDictsWrongFalsely : Prop := ftypesDictsRow.holds Tryz.pinned (OpenSpec.ofChange ftypesDictsWrong)

/-- 'envoylaw31.FtypesTwo': WHATEVER THE INPUT: true; the input reads as it did. -/
def ftypesTwoSpec : ChangeSpec := { name := "ftypesTwo", fn := fun _ => fun
  | [d1, d2] => { results := [.lit (.bool true)], args := [d1, d2] }
  | _ => none }
def ftypesTwoRow : OpenClaim := { program := "ytcnepaiapefggaagreat", sum := "acd896723bdaf8af0e91fe2355a1be59303676d8be2e3dfb53e2f72df1d66f56", func := "envoy/envoylaw31.FtypesTwo", spec := "ftypesTwo", inPlace := ["internal/abi.NoEscape"], unfollowed := true, recurses := true, loops := true, apart := false }
def FtypesTwoSaid : Prop := ftypesTwoRow.holds Tryz.pinned (OpenSpec.ofChange ftypesTwoSpec)

/-- ITS FALSE NEIGHBOUR: 'it returns false'. Refute it at one input. -/
def ftypesTwoWrong : ChangeSpec := { name := "ftypesTwo", fn := fun _ => fun
  | [d1, d2] => { results := [.lit (.bool false)], args := [d1, d2] }
  | _ => none }
def FtypesTwoWrongFalsely : Prop := ftypesTwoRow.holds Tryz.pinned (OpenSpec.ofChange ftypesTwoWrong)

/-- 'envoylaw31.FtypesOf': WHATEVER THE INPUT: true; the input reads as it did. -/
def ftypesOfSpec : ChangeSpec := { name := "ftypesOf", fn := fun _ => fun
  | [d] => { results := [.lit (.bool true)], args := [d] }
  | _ => none }
def ftypesOfRow : OpenClaim := { program := "ytcnepaiapefggaagreat", sum := "acd896723bdaf8af0e91fe2355a1be59303676d8be2e3dfb53e2f72df1d66f56", func := "envoy/envoylaw31.FtypesOf", spec := "ftypesOf", inPlace := ["internal/abi.NoEscape"], unfollowed := true, recurses := true, loops := true, apart := false }
def FtypesOfSaid : Prop := ftypesOfRow.holds Tryz.pinned (OpenSpec.ofChange ftypesOfSpec)

/-- ITS FALSE NEIGHBOUR: 'it returns false'. Refute it at one input. -/
def ftypesOfWrong : ChangeSpec := { name := "ftypesOf", fn := fun _ => fun
  | [d] => { results := [.lit (.bool false)], args := [d] }
  | _ => none }
def FtypesOfWrongFalsely : Prop := ftypesOfRow.holds Tryz.pinned (OpenSpec.ofChange ftypesOfWrong)

/-- 'envoylaw15.GroupsSigned': WHATEVER THE INPUT: true; the input reads as it did. -/
def groupsSignedSpec : ChangeSpec := { name := "groupsSigned", fn := fun _ => fun
  | [d] => { results := [.lit (.bool true)], args := [d] }
  | _ => none }
def groupsSignedRow : OpenClaim := { program := "ytcnepaiapefggaagreat", sum := "acd896723bdaf8af0e91fe2355a1be59303676d8be2e3dfb53e2f72df1d66f56", func := "envoy/envoylaw15.GroupsSigned", spec := "groupsSigned", unfollowed := true, recurses := true, loops := true, apart := false }
def GroupsSignedSaid : Prop := groupsSignedRow.holds Tryz.pinned (OpenSpec.ofChange groupsSignedSpec)

/-- ITS FALSE NEIGHBOUR: 'it returns false'. Refute it at one input. -/
def groupsSignedWrong : ChangeSpec := { name := "groupsSigned", fn := fun _ => fun
  | [d] => { results := [.lit (.bool false)], args := [d] }
  | _ => none }
def GroupsSignedWrongFalsely : Prop := groupsSignedRow.holds Tryz.pinned (OpenSpec.ofChange groupsSignedWrong)

/- THE SECOND FORM. 'bulk': how many values and letters a reading holds, each counted each time it is reached (what is shared counts as often as it is met; a slice's spare places count too). A statement '..UptoSaid' is the law's where the arguments, and the package variables that the reading takes, are together of bulk at most 1048576: NARROWER than '..Said'. Prove '..Said' where nothing that the law and all that it calls make is longer than what came in: it says more and counts as full. Else prove '..UptoSaid'. A law counts once. -/
mutual
def uptoBulk {H : Type} : DataW H → Nat
  | .lit (.string bytes) => bytes.length + 1
  | .lit _ => 1
  | .nil => 1
  | .ptr d => uptoBulk d + 1
  | .slice elems spare => uptoBulkAll elems + uptoBulkAll spare + 1
  | .agg parts => uptoBulkAll parts + 1
  | .iface _ d => uptoBulk d + 1
  | .map entries => uptoBulkEntries entries + 1
  | .held _ => 1
def uptoBulkAll {H : Type} : List (DataW H) → Nat
  | [] => 0
  | d :: r => uptoBulk d + uptoBulkAll r
def uptoBulkEntries {H : Type} : List (Lit × DataW H) → Nat
  | [] => 0
  | x :: r => uptoBulkEntry x + uptoBulkEntries r
def uptoBulkEntry {H : Type} : Lit × DataW H → Nat
  | (.string bytes, d) => bytes.length + uptoBulk d + 1
  | (_, d) => uptoBulk d + 1
 end
def uptoSmall : (H : Type) → List (DataW H) → Bool := fun _ ds => decide (uptoBulkAll ds ≤ 1048576)
def OpenSpec.upto (s : _root_.Go.ChangeSpec) : _root_.Go.OpenSpec := { _root_.Go.OpenSpec.ofChange s with cond := some uptoSmall }

/-- 'envoylaw31.FtypesDicts', WHERE WHAT IT READS IS OF BULK AT MOST 1048576: true; the input reads as it did. -/
def ftypesDictsUptoRow : OpenClaim := { program := "ytcnepaiapefggaagreat", sum := "acd896723bdaf8af0e91fe2355a1be59303676d8be2e3dfb53e2f72df1d66f56", func := "envoy/envoylaw31.FtypesDicts", spec := "ftypesDicts", inPlace := ["internal/abi.NoEscape"], unfollowed := true, recurses := true, loops := true, apart := false, narrowed := true }
def FtypesDictsUptoSaid : Prop := ftypesDictsUptoRow.holds Tryz.pinned (OpenSpec.upto ftypesDictsSpec)

/-- 'envoylaw31.FtypesTwo', WHERE WHAT IT READS IS OF BULK AT MOST 1048576: true; the input reads as it did. -/
def ftypesTwoUptoRow : OpenClaim := { program := "ytcnepaiapefggaagreat", sum := "acd896723bdaf8af0e91fe2355a1be59303676d8be2e3dfb53e2f72df1d66f56", func := "envoy/envoylaw31.FtypesTwo", spec := "ftypesTwo", inPlace := ["internal/abi.NoEscape"], unfollowed := true, recurses := true, loops := true, apart := false, narrowed := true }
def FtypesTwoUptoSaid : Prop := ftypesTwoUptoRow.holds Tryz.pinned (OpenSpec.upto ftypesTwoSpec)

/-- 'envoylaw31.FtypesOf', WHERE WHAT IT READS IS OF BULK AT MOST 1048576: true; the input reads as it did. -/
def ftypesOfUptoRow : OpenClaim := { program := "ytcnepaiapefggaagreat", sum := "acd896723bdaf8af0e91fe2355a1be59303676d8be2e3dfb53e2f72df1d66f56", func := "envoy/envoylaw31.FtypesOf", spec := "ftypesOf", inPlace := ["internal/abi.NoEscape"], unfollowed := true, recurses := true, loops := true, apart := false, narrowed := true }
def FtypesOfUptoSaid : Prop := ftypesOfUptoRow.holds Tryz.pinned (OpenSpec.upto ftypesOfSpec)

/-- 'envoylaw15.GroupsSigned', WHERE WHAT IT READS IS OF BULK AT MOST 1048576: true; the input reads as it did. -/
def groupsSignedUptoRow : OpenClaim := { program := "ytcnepaiapefggaagreat", sum := "acd896723bdaf8af0e91fe2355a1be59303676d8be2e3dfb53e2f72df1d66f56", func := "envoy/envoylaw15.GroupsSigned", spec := "groupsSigned", unfollowed := true, recurses := true, loops := true, apart := false, narrowed := true }
def GroupsSignedUptoSaid : Prop := groupsSignedUptoRow.holds Tryz.pinned (OpenSpec.upto groupsSignedSpec)

end Rows
end Go.Proofs.YtcnepaiapefggaaGreat
