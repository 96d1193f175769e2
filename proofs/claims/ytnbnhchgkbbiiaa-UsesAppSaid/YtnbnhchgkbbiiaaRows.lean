/-
  NARROWER THAN 'FOR EVERY INPUT', by the rows' own cells (each row's printed sentence says how): UsesBinds: loops · UsesLam: loops · UsesApp: loops.
  DERIVED. THE GIVEN ROWS OF THIS SEAT. 7 by the template 'for every input the law returns true; each argument reads behind the call as it read before'; 0 by the template 'total and deterministic' (their statements: YtnbnhchgkbbiiaaTotals.lean).
  GIVEN WITH THE SEED: the statements are not yours to turn. If you find one false, say at which input.
  Laid BY PROGRAM, IN A SANDBOX (cutbox-rows.mjs): the forced cells as the released guide's own fill.sh prints them over the translation c0bbd73157dcce4a… (all of the seat's roots in one cut). By AI agents, Wed Nov 11 2026. No macro, syntax, notation, axiom, sorry.
-/
import Derived.Test.YtnbnhchgkbbiiaaChecked
import GoSem.Claim
import GoSem.ClaimJoined
import GoSem.ClaimMapViews
import Derived.JoinedTies
import Derived.KernelRfl
namespace Go.Proofs.Ytnbnhchgkbbiiaa
/- THE CELL 'sum', in the pinned program and in every row, IS THE sha256 OF THE DUMP (.gsa) THAT YtnbnhchgkbbiiaaProg.lean LOADS. Nothing in Lean hashes anything: it is a label: what it is worth is what the hold of that sum in a sandbox is worth. -/
noncomputable def Try.pinned : Pinned := { name := "ytnbnhchgkbbiiaa", sum := "c0bbd73157dcce4a73dda6762b08d70cc61ca0f1ecd5add9ffb690f4da66e725", checked := Try.checked }
namespace Rows
def none {H : Type} : Left H := { results := [], args := [] }

/-- 'envoylaw13.GraphGroups': WHATEVER THE INPUT: true; the input reads as it did. -/
def graphGroupsSpec : ChangeSpec := { name := "graphGroups", fn := fun _ => fun
  | [d1, d2] => { results := [.lit (.bool true)], args := [d1, d2] }
  | _ => none }
def graphGroupsRow : OpenClaim := { program := "ytnbnhchgkbbiiaa", sum := "c0bbd73157dcce4a73dda6762b08d70cc61ca0f1ecd5add9ffb690f4da66e725", func := "envoy/envoylaw13.GraphGroups", spec := "graphGroups", unfollowed := true, recurses := true, apart := false }
def GraphGroupsSaid : Prop := graphGroupsRow.holds Try.pinned (OpenSpec.ofChange graphGroupsSpec)

/-- ITS FALSE NEIGHBOUR: 'it returns false'. Refute it at one input. -/
def graphGroupsWrong : ChangeSpec := { name := "graphGroups", fn := fun _ => fun
  | [d1, d2] => { results := [.lit (.bool false)], args := [d1, d2] }
  | _ => none }
def GraphGroupsWrongFalsely : Prop := graphGroupsRow.holds Try.pinned (OpenSpec.ofChange graphGroupsWrong)

/-- 'envoylaw13.GraphReach': WHATEVER THE INPUT: true; the input reads as it did. -/
def graphReachSpec : ChangeSpec := { name := "graphReach", fn := fun _ => fun
  | [d1, d2, d3] => { results := [.lit (.bool true)], args := [d1, d2, d3] }
  | _ => none }
def graphReachRow : OpenClaim := { program := "ytnbnhchgkbbiiaa", sum := "c0bbd73157dcce4a73dda6762b08d70cc61ca0f1ecd5add9ffb690f4da66e725", func := "envoy/envoylaw13.GraphReach", spec := "graphReach", unfollowed := true, recurses := true, apart := false }
def GraphReachSaid : Prop := graphReachRow.holds Try.pinned (OpenSpec.ofChange graphReachSpec)

/-- ITS FALSE NEIGHBOUR: 'it returns false'. Refute it at one input. -/
def graphReachWrong : ChangeSpec := { name := "graphReach", fn := fun _ => fun
  | [d1, d2, d3] => { results := [.lit (.bool false)], args := [d1, d2, d3] }
  | _ => none }
def GraphReachWrongFalsely : Prop := graphReachRow.holds Try.pinned (OpenSpec.ofChange graphReachWrong)

/-- 'envoylaw13.GraphAhead': WHATEVER THE INPUT: true; the input reads as it did. -/
def graphAheadSpec : ChangeSpec := { name := "graphAhead", fn := fun _ => fun
  | [d1, d2] => { results := [.lit (.bool true)], args := [d1, d2] }
  | _ => none }
def graphAheadRow : OpenClaim := { program := "ytnbnhchgkbbiiaa", sum := "c0bbd73157dcce4a73dda6762b08d70cc61ca0f1ecd5add9ffb690f4da66e725", func := "envoy/envoylaw13.GraphAhead", spec := "graphAhead", unfollowed := true, recurses := true, apart := false }
def GraphAheadSaid : Prop := graphAheadRow.holds Try.pinned (OpenSpec.ofChange graphAheadSpec)

/-- ITS FALSE NEIGHBOUR: 'it returns false'. Refute it at one input. -/
def graphAheadWrong : ChangeSpec := { name := "graphAhead", fn := fun _ => fun
  | [d1, d2] => { results := [.lit (.bool false)], args := [d1, d2] }
  | _ => none }
def GraphAheadWrongFalsely : Prop := graphAheadRow.holds Try.pinned (OpenSpec.ofChange graphAheadWrong)

/-- 'envoylaw13.GraphCycles': WHATEVER THE INPUT: true; the input reads as it did. -/
def graphCyclesSpec : ChangeSpec := { name := "graphCycles", fn := fun _ => fun
  | [d1, d2] => { results := [.lit (.bool true)], args := [d1, d2] }
  | _ => none }
def graphCyclesRow : OpenClaim := { program := "ytnbnhchgkbbiiaa", sum := "c0bbd73157dcce4a73dda6762b08d70cc61ca0f1ecd5add9ffb690f4da66e725", func := "envoy/envoylaw13.GraphCycles", spec := "graphCycles", unfollowed := true, recurses := true, apart := false }
def GraphCyclesSaid : Prop := graphCyclesRow.holds Try.pinned (OpenSpec.ofChange graphCyclesSpec)

/-- ITS FALSE NEIGHBOUR: 'it returns false'. Refute it at one input. -/
def graphCyclesWrong : ChangeSpec := { name := "graphCycles", fn := fun _ => fun
  | [d1, d2] => { results := [.lit (.bool false)], args := [d1, d2] }
  | _ => none }
def GraphCyclesWrongFalsely : Prop := graphCyclesRow.holds Try.pinned (OpenSpec.ofChange graphCyclesWrong)

/-- 'envoylaw14.UsesBinds': WHATEVER THE INPUT: true; the input reads as it did. -/
def usesBindsSpec : ChangeSpec := { name := "usesBinds", fn := fun _ => fun
  | [d] => { results := [.lit (.bool true)], args := [d] }
  | _ => none }
def usesBindsRow : OpenClaim := { program := "ytnbnhchgkbbiiaa", sum := "c0bbd73157dcce4a73dda6762b08d70cc61ca0f1ecd5add9ffb690f4da66e725", func := "envoy/envoylaw14.UsesBinds", spec := "usesBinds", unfollowed := true, recurses := true, loops := true, apart := false }
def UsesBindsSaid : Prop := usesBindsRow.holds Try.pinned (OpenSpec.ofChange usesBindsSpec)

/-- ITS FALSE NEIGHBOUR: 'it returns false'. Refute it at one input. -/
def usesBindsWrong : ChangeSpec := { name := "usesBinds", fn := fun _ => fun
  | [d] => { results := [.lit (.bool false)], args := [d] }
  | _ => none }
def UsesBindsWrongFalsely : Prop := usesBindsRow.holds Try.pinned (OpenSpec.ofChange usesBindsWrong)

/-- 'envoylaw14.UsesLam': WHATEVER THE INPUT: true; the input reads as it did. -/
def usesLamSpec : ChangeSpec := { name := "usesLam", fn := fun _ => fun
  | [d1, d2] => { results := [.lit (.bool true)], args := [d1, d2] }
  | _ => none }
def usesLamRow : OpenClaim := { program := "ytnbnhchgkbbiiaa", sum := "c0bbd73157dcce4a73dda6762b08d70cc61ca0f1ecd5add9ffb690f4da66e725", func := "envoy/envoylaw14.UsesLam", spec := "usesLam", unfollowed := true, recurses := true, loops := true, apart := false }
def UsesLamSaid : Prop := usesLamRow.holds Try.pinned (OpenSpec.ofChange usesLamSpec)

/-- ITS FALSE NEIGHBOUR: 'it returns false'. Refute it at one input. -/
def usesLamWrong : ChangeSpec := { name := "usesLam", fn := fun _ => fun
  | [d1, d2] => { results := [.lit (.bool false)], args := [d1, d2] }
  | _ => none }
def UsesLamWrongFalsely : Prop := usesLamRow.holds Try.pinned (OpenSpec.ofChange usesLamWrong)

/-- 'envoylaw14.UsesApp': WHATEVER THE INPUT: true; the input reads as it did. -/
def usesAppSpec : ChangeSpec := { name := "usesApp", fn := fun _ => fun
  | [d1, d2] => { results := [.lit (.bool true)], args := [d1, d2] }
  | _ => none }
def usesAppRow : OpenClaim := { program := "ytnbnhchgkbbiiaa", sum := "c0bbd73157dcce4a73dda6762b08d70cc61ca0f1ecd5add9ffb690f4da66e725", func := "envoy/envoylaw14.UsesApp", spec := "usesApp", unfollowed := true, recurses := true, loops := true, apart := false }
def UsesAppSaid : Prop := usesAppRow.holds Try.pinned (OpenSpec.ofChange usesAppSpec)

/-- ITS FALSE NEIGHBOUR: 'it returns false'. Refute it at one input. -/
def usesAppWrong : ChangeSpec := { name := "usesApp", fn := fun _ => fun
  | [d1, d2] => { results := [.lit (.bool false)], args := [d1, d2] }
  | _ => none }
def UsesAppWrongFalsely : Prop := usesAppRow.holds Try.pinned (OpenSpec.ofChange usesAppWrong)

/- THE SECOND FORM. 'bulk': how many values and letters a reading holds, each counted each time it is reached (what is shared counts as often as it is met; a slice's spare places count too). A statement '..UptoSaid' is the law's where the arguments, and the package variables that the reading takes, are together of bulk at most 1048576: NARROWER than '..Said'. Prove '..Said' where nothing that the law and all that it calls make is longer than what came in: it says more and counts as full. Else prove '..UptoSaid'. A law counts once. -/
mutual
def uptoBulk {H : Type} : DataW H → Nat
  | .lit (.string bytes) => bytes.length + 1
  | .lit _ => 1
  | .nil => 1
  | .ptr d => uptoBulk d + 1
  | .slice elems spare => uptoBulkAll elems + uptoBulkAll spare + 1
  | .agg parts => uptoBulkAll parts + 1
  | .iface _ d => uptoBulk d + 1
  | .map entries => uptoBulkEntries entries + 1
  | .held _ => 1
def uptoBulkAll {H : Type} : List (DataW H) → Nat
  | [] => 0
  | d :: r => uptoBulk d + uptoBulkAll r
def uptoBulkEntries {H : Type} : List (Lit × DataW H) → Nat
  | [] => 0
  | x :: r => uptoBulkEntry x + uptoBulkEntries r
def uptoBulkEntry {H : Type} : Lit × DataW H → Nat
  | (.string bytes, d) => bytes.length + uptoBulk d + 1
  | (_, d) => uptoBulk d + 1
 end
def uptoSmall : (H : Type) → List (DataW H) → Bool := fun _ ds => decide (uptoBulkAll ds ≤ 1048576)
def OpenSpec.upto (s : _root_.Go.ChangeSpec) : _root_.Go.OpenSpec := { _root_.Go.OpenSpec.ofChange s with cond := some uptoSmall }

/-- 'envoylaw13.GraphGroups', WHERE WHAT IT READS IS OF BULK AT MOST 1048576: true; the input reads as it did. -/
def graphGroupsUptoRow : OpenClaim := { program := "ytnbnhchgkbbiiaa", sum := "c0bbd73157dcce4a73dda6762b08d70cc61ca0f1ecd5add9ffb690f4da66e725", func := "envoy/envoylaw13.GraphGroups", spec := "graphGroups", unfollowed := true, recurses := true, apart := false, narrowed := true }
def GraphGroupsUptoSaid : Prop := graphGroupsUptoRow.holds Try.pinned (OpenSpec.upto graphGroupsSpec)

/-- 'envoylaw13.GraphReach', WHERE WHAT IT READS IS OF BULK AT MOST 1048576: true; the input reads as it did. -/
def graphReachUptoRow : OpenClaim := { program := "ytnbnhchgkbbiiaa", sum := "c0bbd73157dcce4a73dda6762b08d70cc61ca0f1ecd5add9ffb690f4da66e725", func := "envoy/envoylaw13.GraphReach", spec := "graphReach", unfollowed := true, recurses := true, apart := false, narrowed := true }
def GraphReachUptoSaid : Prop := graphReachUptoRow.holds Try.pinned (OpenSpec.upto graphReachSpec)

/-- 'envoylaw13.GraphAhead', WHERE WHAT IT READS IS OF BULK AT MOST 1048576: true; the input reads as it did. -/
def graphAheadUptoRow : OpenClaim := { program := "ytnbnhchgkbbiiaa", sum := "c0bbd73157dcce4a73dda6762b08d70cc61ca0f1ecd5add9ffb690f4da66e725", func := "envoy/envoylaw13.GraphAhead", spec := "graphAhead", unfollowed := true, recurses := true, apart := false, narrowed := true }
def GraphAheadUptoSaid : Prop := graphAheadUptoRow.holds Try.pinned (OpenSpec.upto graphAheadSpec)

/-- 'envoylaw13.GraphCycles', WHERE WHAT IT READS IS OF BULK AT MOST 1048576: true; the input reads as it did. -/
def graphCyclesUptoRow : OpenClaim := { program := "ytnbnhchgkbbiiaa", sum := "c0bbd73157dcce4a73dda6762b08d70cc61ca0f1ecd5add9ffb690f4da66e725", func := "envoy/envoylaw13.GraphCycles", spec := "graphCycles", unfollowed := true, recurses := true, apart := false, narrowed := true }
def GraphCyclesUptoSaid : Prop := graphCyclesUptoRow.holds Try.pinned (OpenSpec.upto graphCyclesSpec)

/-- 'envoylaw14.UsesBinds', WHERE WHAT IT READS IS OF BULK AT MOST 1048576: true; the input reads as it did. -/
def usesBindsUptoRow : OpenClaim := { program := "ytnbnhchgkbbiiaa", sum := "c0bbd73157dcce4a73dda6762b08d70cc61ca0f1ecd5add9ffb690f4da66e725", func := "envoy/envoylaw14.UsesBinds", spec := "usesBinds", unfollowed := true, recurses := true, loops := true, apart := false, narrowed := true }
def UsesBindsUptoSaid : Prop := usesBindsUptoRow.holds Try.pinned (OpenSpec.upto usesBindsSpec)

/-- 'envoylaw14.UsesLam', WHERE WHAT IT READS IS OF BULK AT MOST 1048576: true; the input reads as it did. -/
def usesLamUptoRow : OpenClaim := { program := "ytnbnhchgkbbiiaa", sum := "c0bbd73157dcce4a73dda6762b08d70cc61ca0f1ecd5add9ffb690f4da66e725", func := "envoy/envoylaw14.UsesLam", spec := "usesLam", unfollowed := true, recurses := true, loops := true, apart := false, narrowed := true }
def UsesLamUptoSaid : Prop := usesLamUptoRow.holds Try.pinned (OpenSpec.upto usesLamSpec)

/-- 'envoylaw14.UsesApp', WHERE WHAT IT READS IS OF BULK AT MOST 1048576: true; the input reads as it did. -/
def usesAppUptoRow : OpenClaim := { program := "ytnbnhchgkbbiiaa", sum := "c0bbd73157dcce4a73dda6762b08d70cc61ca0f1ecd5add9ffb690f4da66e725", func := "envoy/envoylaw14.UsesApp", spec := "usesApp", unfollowed := true, recurses := true, loops := true, apart := false, narrowed := true }
def UsesAppUptoSaid : Prop := usesAppUptoRow.holds Try.pinned (OpenSpec.upto usesAppSpec)

end Rows
end Go.Proofs.Ytnbnhchgkbbiiaa
