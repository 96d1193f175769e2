/-
  NARROWER THAN 'FOR EVERY INPUT', by the rows' own cells (each row's printed sentence says how): EvtermsTerm: loops, laid · EvtermsAll: loops, laid.
  DERIVED. THE GIVEN ROWS OF THIS SEAT. 2 by the template 'for every input the law returns true; each argument reads behind the call as it read before'; 0 by the template 'total and deterministic' (their statements: YtigafbmabjglfaaGreatDoorTotals.lean).
  GIVEN WITH THE SEED: the statements are not yours to turn. If you find one false, say at which input.
  Laid BY PROGRAM, IN A SANDBOX (cutbox-rows.mjs): the forced cells as the released guide's own fill.sh prints them over the translation 758efd8d7e178637… (all of the seat's roots in one cut). By AI agents, Wed Nov 11 2026. No macro, syntax, notation, axiom, sorry.
-/
import Derived.Test.YtigafbmabjglfaaGreatDoorChecked
import GoSem.Claim
import GoSem.ClaimJoined
import GoSem.ClaimMapViews
import Derived.JoinedTies
import Derived.KernelRfl
namespace Go.Proofs.YtigafbmabjglfaaGreatDoor
/- THE CELL 'sum', in the pinned program and in every row, IS THE sha256 OF THE DUMP (.gsa) THAT YtigafbmabjglfaaGreatDoorProg.lean LOADS. Nothing in Lean hashes anything: it is a label: what it is worth is what the hold of that sum in a sandbox is worth. -/
noncomputable def Tryz.pinned : Pinned := { name := "ytigafbmabjglfaagreatdoor", sum := "758efd8d7e178637dc271e9231aa3122f558ac2fdf0ab1f4c34509d3134f13be", checked := Tryz.checked }
namespace Rows
def none {H : Type} : Left H := { results := [], args := [] }

/- WHAT THE LISTED PACKAGE-LEVEL VARIABLES READ AS WHEN THE CALL BEGINS. Each datum BY PROGRAM (the guide's laid-datum.mjs) off the statement by which the dump's own 'gosem.cut.vars' lays the variable. In a bare row this is a premise. The card (YtigafbmabjglfaaGreatDoorCards.lean) ties it to the program's text. -/
def laid_errors_errorType {H : Type} : DataW H := .iface "internal/reflectlite.rtype" (.agg [.ptr (.lit (.string [101, 114, 114, 111, 114]))])
def laid_envoy_evterms_errNone {H : Type} : DataW H := .iface "*errors.errorString" (.ptr (.agg [.lit (.string [110, 111, 110, 101])]))
def laid_envoy_evterms_errGreat {H : Type} : DataW H := .iface "*errors.errorString" (.ptr (.agg [.lit (.string [103, 114, 101, 97, 116])]))

/-- 'envoylaw40.EvtermsTerm': WHATEVER THE INPUT: true; the input reads as it did. -/
def evtermsTermSpec : ChangeSpec := { name := "evtermsTerm", fn := fun _ => fun
  | [d1, d2] => { results := [.lit (.bool true)], args := [d1, d2] }
  | _ => none }
def evtermsTermRow : OpenClaim := { program := "ytigafbmabjglfaagreatdoor", sum := "758efd8d7e178637dc271e9231aa3122f558ac2fdf0ab1f4c34509d3134f13be", func := "envoy/envoylaw40.EvtermsTerm", spec := "evtermsTerm", inPlace := ["internal/reflectlite.ValueOf", "(internal/reflectlite.Value).Type", "(internal/reflectlite.Value).IsNil", "internal/reflectlite.TypeOf", "(internal/reflectlite.Value).Elem", "(internal/reflectlite.Value).Set", "slices.overlaps[envoy/api.Pair]", "internal/abi.NoEscape", "internal/bytealg.MakeNoZero"], unfollowed := true, recurses := true, named := ["envoy/evterms.errNone", "envoy/evterms.errGreat", "errors.errorType"], loops := true, apart := false, laid := [("errors.errorType", laid_errors_errorType), ("envoy/evterms.errNone", laid_envoy_evterms_errNone), ("envoy/evterms.errGreat", laid_envoy_evterms_errGreat)] }
def EvtermsTermSaid : Prop := evtermsTermRow.holds Tryz.pinned (OpenSpec.ofChange evtermsTermSpec)

/-- ITS FALSE NEIGHBOUR: 'it returns false'. Refute it at one input. -/
def evtermsTermWrong : ChangeSpec := { name := "evtermsTerm", fn := fun _ => fun
  | [d1, d2] => { results := [.lit (.bool false)], args := [d1, d2] }
  | _ => none }
def EvtermsTermWrongFalsely : Prop := evtermsTermRow.holds Tryz.pinned (OpenSpec.ofChange evtermsTermWrong)

/-- 'envoylaw40.EvtermsAll': WHATEVER THE INPUT: true; the input reads as it did. -/
def evtermsAllSpec : ChangeSpec := { name := "evtermsAll", fn := fun _ => fun
  | [d1, d2] => { results := [.lit (.bool true)], args := [d1, d2] }
  | _ => none }
def evtermsAllRow : OpenClaim := { program := "ytigafbmabjglfaagreatdoor", sum := "758efd8d7e178637dc271e9231aa3122f558ac2fdf0ab1f4c34509d3134f13be", func := "envoy/envoylaw40.EvtermsAll", spec := "evtermsAll", inPlace := ["internal/reflectlite.ValueOf", "(internal/reflectlite.Value).Type", "(internal/reflectlite.Value).IsNil", "internal/reflectlite.TypeOf", "(internal/reflectlite.Value).Elem", "(internal/reflectlite.Value).Set", "slices.overlaps[envoy/api.Pair]", "internal/abi.NoEscape", "internal/bytealg.MakeNoZero"], unfollowed := true, recurses := true, named := ["envoy/evterms.errNone", "envoy/evterms.errGreat", "errors.errorType"], loops := true, apart := false, laid := [("errors.errorType", laid_errors_errorType), ("envoy/evterms.errNone", laid_envoy_evterms_errNone), ("envoy/evterms.errGreat", laid_envoy_evterms_errGreat)] }
def EvtermsAllSaid : Prop := evtermsAllRow.holds Tryz.pinned (OpenSpec.ofChange evtermsAllSpec)

/-- ITS FALSE NEIGHBOUR: 'it returns false'. Refute it at one input. -/
def evtermsAllWrong : ChangeSpec := { name := "evtermsAll", fn := fun _ => fun
  | [d1, d2] => { results := [.lit (.bool false)], args := [d1, d2] }
  | _ => none }
def EvtermsAllWrongFalsely : Prop := evtermsAllRow.holds Tryz.pinned (OpenSpec.ofChange evtermsAllWrong)

/- THE SECOND FORM. 'bulk': how many values and letters a reading holds, each counted each time it is reached (what is shared counts as often as it is met; a slice's spare places count too). A statement '..UptoSaid' is the law's where the arguments, and the package variables that the reading takes, are together of bulk at most 1048576: NARROWER than '..Said'. Prove '..Said' where nothing that the law and all that it calls make is longer than what came in: it says more and counts as full. Else prove '..UptoSaid'. A law counts once. -/
mutual
def uptoBulk {H : Type} : DataW H → Nat
  | .lit (.string bytes) => bytes.length + 1
  | .lit _ => 1
  | .nil => 1
  | .ptr d => uptoBulk d + 1
  | .slice elems spare => uptoBulkAll elems + uptoBulkAll spare + 1
  | .agg parts => uptoBulkAll parts + 1
  | .iface _ d => uptoBulk d + 1
  | .map entries => uptoBulkEntries entries + 1
  | .held _ => 1
def uptoBulkAll {H : Type} : List (DataW H) → Nat
  | [] => 0
  | d :: r => uptoBulk d + uptoBulkAll r
def uptoBulkEntries {H : Type} : List (Lit × DataW H) → Nat
  | [] => 0
  | x :: r => uptoBulkEntry x + uptoBulkEntries r
def uptoBulkEntry {H : Type} : Lit × DataW H → Nat
  | (.string bytes, d) => bytes.length + uptoBulk d + 1
  | (_, d) => uptoBulk d + 1
 end
def uptoSmall : (H : Type) → List (DataW H) → Bool := fun _ ds => decide (uptoBulkAll ds ≤ 1048576)
def OpenSpec.upto (s : _root_.Go.ChangeSpec) : _root_.Go.OpenSpec := { _root_.Go.OpenSpec.ofChange s with cond := some uptoSmall }

/-- 'envoylaw40.EvtermsTerm', WHERE WHAT IT READS IS OF BULK AT MOST 1048576: true; the input reads as it did. -/
def evtermsTermUptoRow : OpenClaim := { program := "ytigafbmabjglfaagreatdoor", sum := "758efd8d7e178637dc271e9231aa3122f558ac2fdf0ab1f4c34509d3134f13be", func := "envoy/envoylaw40.EvtermsTerm", spec := "evtermsTerm", inPlace := ["internal/reflectlite.ValueOf", "(internal/reflectlite.Value).Type", "(internal/reflectlite.Value).IsNil", "internal/reflectlite.TypeOf", "(internal/reflectlite.Value).Elem", "(internal/reflectlite.Value).Set", "slices.overlaps[envoy/api.Pair]", "internal/abi.NoEscape", "internal/bytealg.MakeNoZero"], unfollowed := true, recurses := true, named := ["envoy/evterms.errNone", "envoy/evterms.errGreat", "errors.errorType"], loops := true, apart := false, laid := [("errors.errorType", laid_errors_errorType), ("envoy/evterms.errNone", laid_envoy_evterms_errNone), ("envoy/evterms.errGreat", laid_envoy_evterms_errGreat)], narrowed := true }
def EvtermsTermUptoSaid : Prop := evtermsTermUptoRow.holds Tryz.pinned (OpenSpec.upto evtermsTermSpec)

/-- 'envoylaw40.EvtermsAll', WHERE WHAT IT READS IS OF BULK AT MOST 1048576: true; the input reads as it did. -/
def evtermsAllUptoRow : OpenClaim := { program := "ytigafbmabjglfaagreatdoor", sum := "758efd8d7e178637dc271e9231aa3122f558ac2fdf0ab1f4c34509d3134f13be", func := "envoy/envoylaw40.EvtermsAll", spec := "evtermsAll", inPlace := ["internal/reflectlite.ValueOf", "(internal/reflectlite.Value).Type", "(internal/reflectlite.Value).IsNil", "internal/reflectlite.TypeOf", "(internal/reflectlite.Value).Elem", "(internal/reflectlite.Value).Set", "slices.overlaps[envoy/api.Pair]", "internal/abi.NoEscape", "internal/bytealg.MakeNoZero"], unfollowed := true, recurses := true, named := ["envoy/evterms.errNone", "envoy/evterms.errGreat", "errors.errorType"], loops := true, apart := false, laid := [("errors.errorType", laid_errors_errorType), ("envoy/evterms.errNone", laid_envoy_evterms_errNone), ("envoy/evterms.errGreat", laid_envoy_evterms_errGreat)], narrowed := true }
def EvtermsAllUptoSaid : Prop := evtermsAllUptoRow.holds Tryz.pinned (OpenSpec.upto evtermsAllSpec)

end Rows
end Go.Proofs.YtigafbmabjglfaaGreatDoor
