/-
  NARROWER THAN 'FOR EVERY INPUT', by the rows' own cells (each row's printed sentence says how): SchemeTwo: loops · SchemeBack: loops · SchemeOrder: loops.
  DERIVED. THE GIVEN ROWS OF THIS SEAT. 3 by the template 'for every input the law returns true; each argument reads behind the call as it read before'; 0 by the template 'total and deterministic' (their statements: YtmjiljhcjfnfpaaGreatTotals.lean).
  GIVEN WITH THE SEED: the statements are not yours to turn. If you find one false, say at which input.
  Laid BY PROGRAM, IN A SANDBOX (cutbox-rows.mjs): the forced cells as the released guide's own fill.sh prints them over the translation 421a65faeae2299b… (all of the seat's roots in one cut). By AI agents, Wed Nov 11 2026. No macro, syntax, notation, axiom, sorry.
-/
import Derived.Test.YtmjiljhcjfnfpaaGreatChecked
import GoSem.Claim
import GoSem.ClaimJoined
import GoSem.ClaimMapViews
import Derived.JoinedTies
import Derived.KernelRfl
namespace Go.Proofs.YtmjiljhcjfnfpaaGreat
/- THE CELL 'sum', in the pinned program and in every row, IS THE sha256 OF THE DUMP (.gsa) THAT YtmjiljhcjfnfpaaGreatProg.lean LOADS. Nothing in Lean hashes anything: it is a label: what it is worth is what the hold of that sum in a sandbox is worth. -/
noncomputable def Tryz.pinned : Pinned := { name := "ytmjiljhcjfnfpaagreat", sum := "421a65faeae2299bec376a64b7e7d36f364f009e9c01b90354ef3cf2a3939769", checked := Tryz.checked }
namespace Rows
def none {H : Type} : Left H := { results := [], args := [] }

/-- 'envoylaw21.SchemeTwo': WHATEVER THE INPUT: true; the input reads as it did. -/
def schemeTwoSpec : ChangeSpec := { name := "schemeTwo", fn := fun _ => fun
  | [d1, d2] => { results := [.lit (.bool true)], args := [d1, d2] }
  | _ => none }
def schemeTwoRow : OpenClaim := { program := "ytmjiljhcjfnfpaagreat", sum := "421a65faeae2299bec376a64b7e7d36f364f009e9c01b90354ef3cf2a3939769", func := "envoy/envoylaw21.SchemeTwo", spec := "schemeTwo", inPlace := ["internal/bytealg.IndexByteString", "internal/bytealg.IndexString", "internal/abi.NoEscape", "slices.overlaps[envoy/api.Pair]", "internal/bytealg.MakeNoZero"], unfollowed := true, recurses := true, named := ["internal/bytealg.MaxLen"], loops := true, apart := false }
def SchemeTwoSaid : Prop := schemeTwoRow.holds Tryz.pinned (OpenSpec.ofChange schemeTwoSpec)

/-- ITS FALSE NEIGHBOUR: 'it returns false'. Refute it at one input. -/
def schemeTwoWrong : ChangeSpec := { name := "schemeTwo", fn := fun _ => fun
  | [d1, d2] => { results := [.lit (.bool false)], args := [d1, d2] }
  | _ => none }
def SchemeTwoWrongFalsely : Prop := schemeTwoRow.holds Tryz.pinned (OpenSpec.ofChange schemeTwoWrong)

/-- 'envoylaw21.SchemeBack': WHATEVER THE INPUT: true; the input reads as it did. -/
def schemeBackSpec : ChangeSpec := { name := "schemeBack", fn := fun _ => fun
  | [d1, d2] => { results := [.lit (.bool true)], args := [d1, d2] }
  | _ => none }
def schemeBackRow : OpenClaim := { program := "ytmjiljhcjfnfpaagreat", sum := "421a65faeae2299bec376a64b7e7d36f364f009e9c01b90354ef3cf2a3939769", func := "envoy/envoylaw21.SchemeBack", spec := "schemeBack", inPlace := ["internal/bytealg.IndexByteString", "internal/bytealg.IndexString", "internal/abi.NoEscape", "slices.overlaps[envoy/api.Pair]", "internal/bytealg.MakeNoZero"], unfollowed := true, recurses := true, named := ["internal/bytealg.MaxLen"], loops := true, apart := false }
def SchemeBackSaid : Prop := schemeBackRow.holds Tryz.pinned (OpenSpec.ofChange schemeBackSpec)

/-- ITS FALSE NEIGHBOUR: 'it returns false'. Refute it at one input. -/
def schemeBackWrong : ChangeSpec := { name := "schemeBack", fn := fun _ => fun
  | [d1, d2] => { results := [.lit (.bool false)], args := [d1, d2] }
  | _ => none }
def SchemeBackWrongFalsely : Prop := schemeBackRow.holds Tryz.pinned (OpenSpec.ofChange schemeBackWrong)

/-- 'envoylaw21.SchemeOrder': WHATEVER THE INPUT: true; the input reads as it did. -/
def schemeOrderSpec : ChangeSpec := { name := "schemeOrder", fn := fun _ => fun
  | [d1, d2] => { results := [.lit (.bool true)], args := [d1, d2] }
  | _ => none }
def schemeOrderRow : OpenClaim := { program := "ytmjiljhcjfnfpaagreat", sum := "421a65faeae2299bec376a64b7e7d36f364f009e9c01b90354ef3cf2a3939769", func := "envoy/envoylaw21.SchemeOrder", spec := "schemeOrder", inPlace := ["internal/bytealg.IndexByteString", "internal/bytealg.IndexString", "internal/abi.NoEscape", "slices.overlaps[envoy/api.Pair]", "internal/bytealg.MakeNoZero"], unfollowed := true, recurses := true, named := ["internal/bytealg.MaxLen"], loops := true, apart := false }
def SchemeOrderSaid : Prop := schemeOrderRow.holds Tryz.pinned (OpenSpec.ofChange schemeOrderSpec)

/-- ITS FALSE NEIGHBOUR: 'it returns false'. Refute it at one input. -/
def schemeOrderWrong : ChangeSpec := { name := "schemeOrder", fn := fun _ => fun
  | [d1, d2] => { results := [.lit (.bool false)], args := [d1, d2] }
  | _ => none }
def SchemeOrderWrongFalsely : Prop := schemeOrderRow.holds Tryz.pinned (OpenSpec.ofChange schemeOrderWrong)

/- THE SECOND FORM. 'bulk': how many values and letters a reading holds, each counted each time it is reached (what is shared counts as often as it is met; a slice's spare places count too). A statement '..UptoSaid' is the law's where the arguments, and the package variables that the reading takes, are together of bulk at most 1048576: NARROWER than '..Said'. Prove '..Said' where nothing that the law and all that it calls make is longer than what came in: it says more and counts as full. Else prove '..UptoSaid'. A law counts once. -/
mutual
def uptoBulk {H : Type} : DataW H → Nat
  | .lit (.string bytes) => bytes.length + 1
  | .lit _ => 1
  | .nil => 1
  | .ptr d => uptoBulk d + 1
  | .slice elems spare => uptoBulkAll elems + uptoBulkAll spare + 1
  | .agg parts => uptoBulkAll parts + 1
  | .iface _ d => uptoBulk d + 1
  | .map entries => uptoBulkEntries entries + 1
  | .held _ => 1
def uptoBulkAll {H : Type} : List (DataW H) → Nat
  | [] => 0
  | d :: r => uptoBulk d + uptoBulkAll r
def uptoBulkEntries {H : Type} : List (Lit × DataW H) → Nat
  | [] => 0
  | x :: r => uptoBulkEntry x + uptoBulkEntries r
def uptoBulkEntry {H : Type} : Lit × DataW H → Nat
  | (.string bytes, d) => bytes.length + uptoBulk d + 1
  | (_, d) => uptoBulk d + 1
 end
def uptoSmall : (H : Type) → List (DataW H) → Bool := fun _ ds => decide (uptoBulkAll ds ≤ 1048576)
def OpenSpec.upto (s : _root_.Go.ChangeSpec) : _root_.Go.OpenSpec := { _root_.Go.OpenSpec.ofChange s with cond := some uptoSmall }

/-- 'envoylaw21.SchemeTwo', WHERE WHAT IT READS IS OF BULK AT MOST 1048576: true; the input reads as it did. -/
def schemeTwoUptoRow : OpenClaim := { program := "ytmjiljhcjfnfpaagreat", sum := "421a65faeae2299bec376a64b7e7d36f364f009e9c01b90354ef3cf2a3939769", func := "envoy/envoylaw21.SchemeTwo", spec := "schemeTwo", inPlace := ["internal/bytealg.IndexByteString", "internal/bytealg.IndexString", "internal/abi.NoEscape", "slices.overlaps[envoy/api.Pair]", "internal/bytealg.MakeNoZero"], unfollowed := true, recurses := true, named := ["internal/bytealg.MaxLen"], loops := true, apart := false, narrowed := true }
def SchemeTwoUptoSaid : Prop := schemeTwoUptoRow.holds Tryz.pinned (OpenSpec.upto schemeTwoSpec)

/-- 'envoylaw21.SchemeBack', WHERE WHAT IT READS IS OF BULK AT MOST 1048576: true; the input reads as it did. -/
def schemeBackUptoRow : OpenClaim := { program := "ytmjiljhcjfnfpaagreat", sum := "421a65faeae2299bec376a64b7e7d36f364f009e9c01b90354ef3cf2a3939769", func := "envoy/envoylaw21.SchemeBack", spec := "schemeBack", inPlace := ["internal/bytealg.IndexByteString", "internal/bytealg.IndexString", "internal/abi.NoEscape", "slices.overlaps[envoy/api.Pair]", "internal/bytealg.MakeNoZero"], unfollowed := true, recurses := true, named := ["internal/bytealg.MaxLen"], loops := true, apart := false, narrowed := true }
def SchemeBackUptoSaid : Prop := schemeBackUptoRow.holds Tryz.pinned (OpenSpec.upto schemeBackSpec)

/-- 'envoylaw21.SchemeOrder', WHERE WHAT IT READS IS OF BULK AT MOST 1048576: true; the input reads as it did. -/
def schemeOrderUptoRow : OpenClaim := { program := "ytmjiljhcjfnfpaagreat", sum := "421a65faeae2299bec376a64b7e7d36f364f009e9c01b90354ef3cf2a3939769", func := "envoy/envoylaw21.SchemeOrder", spec := "schemeOrder", inPlace := ["internal/bytealg.IndexByteString", "internal/bytealg.IndexString", "internal/abi.NoEscape", "slices.overlaps[envoy/api.Pair]", "internal/bytealg.MakeNoZero"], unfollowed := true, recurses := true, named := ["internal/bytealg.MaxLen"], loops := true, apart := false, narrowed := true }
def SchemeOrderUptoSaid : Prop := schemeOrderUptoRow.holds Tryz.pinned (OpenSpec.upto schemeOrderSpec)

end Rows
end Go.Proofs.YtmjiljhcjfnfpaaGreat
