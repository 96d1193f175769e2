/-
  NARROWER THAN 'FOR EVERY INPUT', by the rows' own cells (each row's printed sentence says how): SupersChecks: loops · SupersPaths: loops · SupersLead: loops · SupersOrder: loops.
  DERIVED. THE GIVEN ROWS OF THIS SEAT. 12 by the template 'for every input the law returns true; each argument reads behind the call as it read before'; 0 by the template 'total and deterministic' (their statements: YtnegamkakdbhfaaTotals.lean).
  GIVEN WITH THE SEED: the statements are not yours to turn. If you find one false, say at which input.
  Laid BY PROGRAM, IN A SANDBOX (cutbox-rows.mjs): the forced cells as the released guide's own fill.sh prints them over the translation 0d30e43983b83c1b… (all of the seat's roots in one cut). By AI agents, Wed Nov 11 2026. No macro, syntax, notation, axiom, sorry.
-/
import Derived.Test.YtnegamkakdbhfaaChecked
import GoSem.Claim
import GoSem.ClaimJoined
import GoSem.ClaimMapViews
import Derived.JoinedTies
import Derived.KernelRfl
namespace Go.Proofs.Ytnegamkakdbhfaa
/- THE CELL 'sum', in the pinned program and in every row, IS THE sha256 OF THE DUMP (.gsa) THAT YtnegamkakdbhfaaProg.lean LOADS. Nothing in Lean hashes anything: it is a label: what it is worth is what the hold of that sum in a sandbox is worth. -/
noncomputable def Try.pinned : Pinned := { name := "ytnegamkakdbhfaa", sum := "0d30e43983b83c1b28e0715eb9ce4cb2c0703d8e65339ce6817312737547421a", checked := Try.checked }
namespace Rows
def none {H : Type} : Left H := { results := [], args := [] }

/-- 'envoylaw05.CursorPlays': WHATEVER THE INPUT: true; the input reads as it did. -/
def cursorPlaysSpec : ChangeSpec := { name := "cursorPlays", fn := fun _ => fun
  | [d1, d2] => { results := [.lit (.bool true)], args := [d1, d2] }
  | _ => none }
def cursorPlaysRow : OpenClaim := { program := "ytnegamkakdbhfaa", sum := "0d30e43983b83c1b28e0715eb9ce4cb2c0703d8e65339ce6817312737547421a", func := "envoy/envoylaw05.CursorPlays", spec := "cursorPlays", apart := false }
def CursorPlaysSaid : Prop := cursorPlaysRow.holds Try.pinned (OpenSpec.ofChange cursorPlaysSpec)

/-- ITS FALSE NEIGHBOUR: 'it returns false'. Refute it at one input. -/
def cursorPlaysWrong : ChangeSpec := { name := "cursorPlays", fn := fun _ => fun
  | [d1, d2] => { results := [.lit (.bool false)], args := [d1, d2] }
  | _ => none }
def CursorPlaysWrongFalsely : Prop := cursorPlaysRow.holds Try.pinned (OpenSpec.ofChange cursorPlaysWrong)

/-- 'envoylaw05.CursorNests': WHATEVER THE INPUT: true; the input reads as it did. -/
def cursorNestsSpec : ChangeSpec := { name := "cursorNests", fn := fun _ => fun
  | [d1, d2] => { results := [.lit (.bool true)], args := [d1, d2] }
  | _ => none }
def cursorNestsRow : OpenClaim := { program := "ytnegamkakdbhfaa", sum := "0d30e43983b83c1b28e0715eb9ce4cb2c0703d8e65339ce6817312737547421a", func := "envoy/envoylaw05.CursorNests", spec := "cursorNests", apart := false }
def CursorNestsSaid : Prop := cursorNestsRow.holds Try.pinned (OpenSpec.ofChange cursorNestsSpec)

/-- ITS FALSE NEIGHBOUR: 'it returns false'. Refute it at one input. -/
def cursorNestsWrong : ChangeSpec := { name := "cursorNests", fn := fun _ => fun
  | [d1, d2] => { results := [.lit (.bool false)], args := [d1, d2] }
  | _ => none }
def CursorNestsWrongFalsely : Prop := cursorNestsRow.holds Try.pinned (OpenSpec.ofChange cursorNestsWrong)

/-- 'envoylaw05.CursorFails': WHATEVER THE INPUT: true; the input reads as it did. -/
def cursorFailsSpec : ChangeSpec := { name := "cursorFails", fn := fun _ => fun
  | [d1, d2, d3] => { results := [.lit (.bool true)], args := [d1, d2, d3] }
  | _ => none }
def cursorFailsRow : OpenClaim := { program := "ytnegamkakdbhfaa", sum := "0d30e43983b83c1b28e0715eb9ce4cb2c0703d8e65339ce6817312737547421a", func := "envoy/envoylaw05.CursorFails", spec := "cursorFails", apart := false }
def CursorFailsSaid : Prop := cursorFailsRow.holds Try.pinned (OpenSpec.ofChange cursorFailsSpec)

/-- ITS FALSE NEIGHBOUR: 'it returns false'. Refute it at one input. -/
def cursorFailsWrong : ChangeSpec := { name := "cursorFails", fn := fun _ => fun
  | [d1, d2, d3] => { results := [.lit (.bool false)], args := [d1, d2, d3] }
  | _ => none }
def CursorFailsWrongFalsely : Prop := cursorFailsRow.holds Try.pinned (OpenSpec.ofChange cursorFailsWrong)

/-- 'envoylaw05.CursorNone': WHATEVER THE INPUT: true; the input reads as it did. -/
def cursorNoneSpec : ChangeSpec := { name := "cursorNone", fn := fun _ => fun
  | [d] => { results := [.lit (.bool true)], args := [d] }
  | _ => none }
def cursorNoneRow : OpenClaim := { program := "ytnegamkakdbhfaa", sum := "0d30e43983b83c1b28e0715eb9ce4cb2c0703d8e65339ce6817312737547421a", func := "envoy/envoylaw05.CursorNone", spec := "cursorNone", apart := false }
def CursorNoneSaid : Prop := cursorNoneRow.holds Try.pinned (OpenSpec.ofChange cursorNoneSpec)

/-- ITS FALSE NEIGHBOUR: 'it returns false'. Refute it at one input. -/
def cursorNoneWrong : ChangeSpec := { name := "cursorNone", fn := fun _ => fun
  | [d] => { results := [.lit (.bool false)], args := [d] }
  | _ => none }
def CursorNoneWrongFalsely : Prop := cursorNoneRow.holds Try.pinned (OpenSpec.ofChange cursorNoneWrong)

/-- 'envoylaw22.SupersChecks': WHATEVER THE INPUT: true; the input reads as it did. -/
def supersChecksSpec : ChangeSpec := { name := "supersChecks", fn := fun _ => fun
  | [d1, d2] => { results := [.lit (.bool true)], args := [d1, d2] }
  | _ => none }
def supersChecksRow : OpenClaim := { program := "ytnegamkakdbhfaa", sum := "0d30e43983b83c1b28e0715eb9ce4cb2c0703d8e65339ce6817312737547421a", func := "envoy/envoylaw22.SupersChecks", spec := "supersChecks", recurses := true, loops := true, apart := false }
def SupersChecksSaid : Prop := supersChecksRow.holds Try.pinned (OpenSpec.ofChange supersChecksSpec)

/-- ITS FALSE NEIGHBOUR: 'it returns false'. Refute it at one input. -/
def supersChecksWrong : ChangeSpec := { name := "supersChecks", fn := fun _ => fun
  | [d1, d2] => { results := [.lit (.bool false)], args := [d1, d2] }
  | _ => none }
def SupersChecksWrongFalsely : Prop := supersChecksRow.holds Try.pinned (OpenSpec.ofChange supersChecksWrong)

/-- 'envoylaw22.SupersPaths': WHATEVER THE INPUT: true; the input reads as it did. -/
def supersPathsSpec : ChangeSpec := { name := "supersPaths", fn := fun _ => fun
  | [d1, d2, d3] => { results := [.lit (.bool true)], args := [d1, d2, d3] }
  | _ => none }
def supersPathsRow : OpenClaim := { program := "ytnegamkakdbhfaa", sum := "0d30e43983b83c1b28e0715eb9ce4cb2c0703d8e65339ce6817312737547421a", func := "envoy/envoylaw22.SupersPaths", spec := "supersPaths", recurses := true, loops := true, apart := false }
def SupersPathsSaid : Prop := supersPathsRow.holds Try.pinned (OpenSpec.ofChange supersPathsSpec)

/-- ITS FALSE NEIGHBOUR: 'it returns false'. Refute it at one input. -/
def supersPathsWrong : ChangeSpec := { name := "supersPaths", fn := fun _ => fun
  | [d1, d2, d3] => { results := [.lit (.bool false)], args := [d1, d2, d3] }
  | _ => none }
def SupersPathsWrongFalsely : Prop := supersPathsRow.holds Try.pinned (OpenSpec.ofChange supersPathsWrong)

/-- 'envoylaw22.SupersLead': WHATEVER THE INPUT: true; the input reads as it did. -/
def supersLeadSpec : ChangeSpec := { name := "supersLead", fn := fun _ => fun
  | [d1, d2, d3] => { results := [.lit (.bool true)], args := [d1, d2, d3] }
  | _ => none }
def supersLeadRow : OpenClaim := { program := "ytnegamkakdbhfaa", sum := "0d30e43983b83c1b28e0715eb9ce4cb2c0703d8e65339ce6817312737547421a", func := "envoy/envoylaw22.SupersLead", spec := "supersLead", recurses := true, loops := true, apart := false }
def SupersLeadSaid : Prop := supersLeadRow.holds Try.pinned (OpenSpec.ofChange supersLeadSpec)

/-- ITS FALSE NEIGHBOUR: 'it returns false'. Refute it at one input. -/
def supersLeadWrong : ChangeSpec := { name := "supersLead", fn := fun _ => fun
  | [d1, d2, d3] => { results := [.lit (.bool false)], args := [d1, d2, d3] }
  | _ => none }
def SupersLeadWrongFalsely : Prop := supersLeadRow.holds Try.pinned (OpenSpec.ofChange supersLeadWrong)

/-- 'envoylaw22.SupersOrder': WHATEVER THE INPUT: true; the input reads as it did. -/
def supersOrderSpec : ChangeSpec := { name := "supersOrder", fn := fun _ => fun
  | [d1, d2] => { results := [.lit (.bool true)], args := [d1, d2] }
  | _ => none }
def supersOrderRow : OpenClaim := { program := "ytnegamkakdbhfaa", sum := "0d30e43983b83c1b28e0715eb9ce4cb2c0703d8e65339ce6817312737547421a", func := "envoy/envoylaw22.SupersOrder", spec := "supersOrder", recurses := true, loops := true, apart := false }
def SupersOrderSaid : Prop := supersOrderRow.holds Try.pinned (OpenSpec.ofChange supersOrderSpec)

/-- ITS FALSE NEIGHBOUR: 'it returns false'. Refute it at one input. -/
def supersOrderWrong : ChangeSpec := { name := "supersOrder", fn := fun _ => fun
  | [d1, d2] => { results := [.lit (.bool false)], args := [d1, d2] }
  | _ => none }
def SupersOrderWrongFalsely : Prop := supersOrderRow.holds Try.pinned (OpenSpec.ofChange supersOrderWrong)

/-- 'envoylaw12.SetsPlays': WHATEVER THE INPUT: true; the input reads as it did. -/
def setsPlaysSpec : ChangeSpec := { name := "setsPlays", fn := fun _ => fun
  | [d1, d2] => { results := [.lit (.bool true)], args := [d1, d2] }
  | _ => none }
def setsPlaysRow : OpenClaim := { program := "ytnegamkakdbhfaa", sum := "0d30e43983b83c1b28e0715eb9ce4cb2c0703d8e65339ce6817312737547421a", func := "envoy/envoylaw12.SetsPlays", spec := "setsPlays", unfollowed := true, recurses := true, apart := false }
def SetsPlaysSaid : Prop := setsPlaysRow.holds Try.pinned (OpenSpec.ofChange setsPlaysSpec)

/-- ITS FALSE NEIGHBOUR: 'it returns false'. Refute it at one input. -/
def setsPlaysWrong : ChangeSpec := { name := "setsPlays", fn := fun _ => fun
  | [d1, d2] => { results := [.lit (.bool false)], args := [d1, d2] }
  | _ => none }
def SetsPlaysWrongFalsely : Prop := setsPlaysRow.holds Try.pinned (OpenSpec.ofChange setsPlaysWrong)

/-- 'envoylaw12.SetsTwo': WHATEVER THE INPUT: true; the input reads as it did. -/
def setsTwoSpec : ChangeSpec := { name := "setsTwo", fn := fun _ => fun
  | [d1, d2] => { results := [.lit (.bool true)], args := [d1, d2] }
  | _ => none }
def setsTwoRow : OpenClaim := { program := "ytnegamkakdbhfaa", sum := "0d30e43983b83c1b28e0715eb9ce4cb2c0703d8e65339ce6817312737547421a", func := "envoy/envoylaw12.SetsTwo", spec := "setsTwo", unfollowed := true, recurses := true, apart := false }
def SetsTwoSaid : Prop := setsTwoRow.holds Try.pinned (OpenSpec.ofChange setsTwoSpec)

/-- ITS FALSE NEIGHBOUR: 'it returns false'. Refute it at one input. -/
def setsTwoWrong : ChangeSpec := { name := "setsTwo", fn := fun _ => fun
  | [d1, d2] => { results := [.lit (.bool false)], args := [d1, d2] }
  | _ => none }
def SetsTwoWrongFalsely : Prop := setsTwoRow.holds Try.pinned (OpenSpec.ofChange setsTwoWrong)

/-- 'envoylaw12.SetsLaws': WHATEVER THE INPUT: true; the input reads as it did. -/
def setsLawsSpec : ChangeSpec := { name := "setsLaws", fn := fun _ => fun
  | [d1, d2] => { results := [.lit (.bool true)], args := [d1, d2] }
  | _ => none }
def setsLawsRow : OpenClaim := { program := "ytnegamkakdbhfaa", sum := "0d30e43983b83c1b28e0715eb9ce4cb2c0703d8e65339ce6817312737547421a", func := "envoy/envoylaw12.SetsLaws", spec := "setsLaws", unfollowed := true, recurses := true, apart := false }
def SetsLawsSaid : Prop := setsLawsRow.holds Try.pinned (OpenSpec.ofChange setsLawsSpec)

/-- ITS FALSE NEIGHBOUR: 'it returns false'. Refute it at one input. -/
def setsLawsWrong : ChangeSpec := { name := "setsLaws", fn := fun _ => fun
  | [d1, d2] => { results := [.lit (.bool false)], args := [d1, d2] }
  | _ => none }
def SetsLawsWrongFalsely : Prop := setsLawsRow.holds Try.pinned (OpenSpec.ofChange setsLawsWrong)

/-- 'envoylaw12.SetsNone': WHATEVER THE INPUT: true; the input reads as it did. -/
def setsNoneSpec : ChangeSpec := { name := "setsNone", fn := fun _ => fun
  | [d1, d2] => { results := [.lit (.bool true)], args := [d1, d2] }
  | _ => none }
def setsNoneRow : OpenClaim := { program := "ytnegamkakdbhfaa", sum := "0d30e43983b83c1b28e0715eb9ce4cb2c0703d8e65339ce6817312737547421a", func := "envoy/envoylaw12.SetsNone", spec := "setsNone", unfollowed := true, recurses := true, apart := false }
def SetsNoneSaid : Prop := setsNoneRow.holds Try.pinned (OpenSpec.ofChange setsNoneSpec)

/-- ITS FALSE NEIGHBOUR: 'it returns false'. Refute it at one input. -/
def setsNoneWrong : ChangeSpec := { name := "setsNone", fn := fun _ => fun
  | [d1, d2] => { results := [.lit (.bool false)], args := [d1, d2] }
  | _ => none }
def SetsNoneWrongFalsely : Prop := setsNoneRow.holds Try.pinned (OpenSpec.ofChange setsNoneWrong)

/- THE SECOND FORM. 'bulk': how many values and letters a reading holds, each counted each time it is reached (what is shared counts as often as it is met; a slice's spare places count too). A statement '..UptoSaid' is the law's where the arguments, and the package variables that the reading takes, are together of bulk at most 1048576: NARROWER than '..Said'. Prove '..Said' where nothing that the law and all that it calls make is longer than what came in: it says more and counts as full. Else prove '..UptoSaid'. A law counts once. -/
mutual
def uptoBulk {H : Type} : DataW H → Nat
  | .lit (.string bytes) => bytes.length + 1
  | .lit _ => 1
  | .nil => 1
  | .ptr d => uptoBulk d + 1
  | .slice elems spare => uptoBulkAll elems + uptoBulkAll spare + 1
  | .agg parts => uptoBulkAll parts + 1
  | .iface _ d => uptoBulk d + 1
  | .map entries => uptoBulkEntries entries + 1
  | .held _ => 1
def uptoBulkAll {H : Type} : List (DataW H) → Nat
  | [] => 0
  | d :: r => uptoBulk d + uptoBulkAll r
def uptoBulkEntries {H : Type} : List (Lit × DataW H) → Nat
  | [] => 0
  | x :: r => uptoBulkEntry x + uptoBulkEntries r
def uptoBulkEntry {H : Type} : Lit × DataW H → Nat
  | (.string bytes, d) => bytes.length + uptoBulk d + 1
  | (_, d) => uptoBulk d + 1
 end
def uptoSmall : (H : Type) → List (DataW H) → Bool := fun _ ds => decide (uptoBulkAll ds ≤ 1048576)
def OpenSpec.upto (s : _root_.Go.ChangeSpec) : _root_.Go.OpenSpec := { _root_.Go.OpenSpec.ofChange s with cond := some uptoSmall }

/-- 'envoylaw05.CursorPlays', WHERE WHAT IT READS IS OF BULK AT MOST 1048576: true; the input reads as it did. -/
def cursorPlaysUptoRow : OpenClaim := { program := "ytnegamkakdbhfaa", sum := "0d30e43983b83c1b28e0715eb9ce4cb2c0703d8e65339ce6817312737547421a", func := "envoy/envoylaw05.CursorPlays", spec := "cursorPlays", apart := false, narrowed := true }
def CursorPlaysUptoSaid : Prop := cursorPlaysUptoRow.holds Try.pinned (OpenSpec.upto cursorPlaysSpec)

/-- 'envoylaw05.CursorNests', WHERE WHAT IT READS IS OF BULK AT MOST 1048576: true; the input reads as it did. -/
def cursorNestsUptoRow : OpenClaim := { program := "ytnegamkakdbhfaa", sum := "0d30e43983b83c1b28e0715eb9ce4cb2c0703d8e65339ce6817312737547421a", func := "envoy/envoylaw05.CursorNests", spec := "cursorNests", apart := false, narrowed := true }
def CursorNestsUptoSaid : Prop := cursorNestsUptoRow.holds Try.pinned (OpenSpec.upto cursorNestsSpec)

/-- 'envoylaw05.CursorFails', WHERE WHAT IT READS IS OF BULK AT MOST 1048576: true; the input reads as it did. -/
def cursorFailsUptoRow : OpenClaim := { program := "ytnegamkakdbhfaa", sum := "0d30e43983b83c1b28e0715eb9ce4cb2c0703d8e65339ce6817312737547421a", func := "envoy/envoylaw05.CursorFails", spec := "cursorFails", apart := false, narrowed := true }
def CursorFailsUptoSaid : Prop := cursorFailsUptoRow.holds Try.pinned (OpenSpec.upto cursorFailsSpec)

/-- 'envoylaw05.CursorNone', WHERE WHAT IT READS IS OF BULK AT MOST 1048576: true; the input reads as it did. -/
def cursorNoneUptoRow : OpenClaim := { program := "ytnegamkakdbhfaa", sum := "0d30e43983b83c1b28e0715eb9ce4cb2c0703d8e65339ce6817312737547421a", func := "envoy/envoylaw05.CursorNone", spec := "cursorNone", apart := false, narrowed := true }
def CursorNoneUptoSaid : Prop := cursorNoneUptoRow.holds Try.pinned (OpenSpec.upto cursorNoneSpec)

/-- 'envoylaw22.SupersChecks', WHERE WHAT IT READS IS OF BULK AT MOST 1048576: true; the input reads as it did. -/
def supersChecksUptoRow : OpenClaim := { program := "ytnegamkakdbhfaa", sum := "0d30e43983b83c1b28e0715eb9ce4cb2c0703d8e65339ce6817312737547421a", func := "envoy/envoylaw22.SupersChecks", spec := "supersChecks", recurses := true, loops := true, apart := false, narrowed := true }
def SupersChecksUptoSaid : Prop := supersChecksUptoRow.holds Try.pinned (OpenSpec.upto supersChecksSpec)

/-- 'envoylaw22.SupersPaths', WHERE WHAT IT READS IS OF BULK AT MOST 1048576: true; the input reads as it did. -/
def supersPathsUptoRow : OpenClaim := { program := "ytnegamkakdbhfaa", sum := "0d30e43983b83c1b28e0715eb9ce4cb2c0703d8e65339ce6817312737547421a", func := "envoy/envoylaw22.SupersPaths", spec := "supersPaths", recurses := true, loops := true, apart := false, narrowed := true }
def SupersPathsUptoSaid : Prop := supersPathsUptoRow.holds Try.pinned (OpenSpec.upto supersPathsSpec)

/-- 'envoylaw22.SupersLead', WHERE WHAT IT READS IS OF BULK AT MOST 1048576: true; the input reads as it did. -/
def supersLeadUptoRow : OpenClaim := { program := "ytnegamkakdbhfaa", sum := "0d30e43983b83c1b28e0715eb9ce4cb2c0703d8e65339ce6817312737547421a", func := "envoy/envoylaw22.SupersLead", spec := "supersLead", recurses := true, loops := true, apart := false, narrowed := true }
def SupersLeadUptoSaid : Prop := supersLeadUptoRow.holds Try.pinned (OpenSpec.upto supersLeadSpec)

/-- 'envoylaw22.SupersOrder', WHERE WHAT IT READS IS OF BULK AT MOST 1048576: true; the input reads as it did. -/
def supersOrderUptoRow : OpenClaim := { program := "ytnegamkakdbhfaa", sum := "0d30e43983b83c1b28e0715eb9ce4cb2c0703d8e65339ce6817312737547421a", func := "envoy/envoylaw22.SupersOrder", spec := "supersOrder", recurses := true, loops := true, apart := false, narrowed := true }
def SupersOrderUptoSaid : Prop := supersOrderUptoRow.holds Try.pinned (OpenSpec.upto supersOrderSpec)

/-- 'envoylaw12.SetsPlays', WHERE WHAT IT READS IS OF BULK AT MOST 1048576: true; the input reads as it did. -/
def setsPlaysUptoRow : OpenClaim := { program := "ytnegamkakdbhfaa", sum := "0d30e43983b83c1b28e0715eb9ce4cb2c0703d8e65339ce6817312737547421a", func := "envoy/envoylaw12.SetsPlays", spec := "setsPlays", unfollowed := true, recurses := true, apart := false, narrowed := true }
def SetsPlaysUptoSaid : Prop := setsPlaysUptoRow.holds Try.pinned (OpenSpec.upto setsPlaysSpec)

/-- 'envoylaw12.SetsTwo', WHERE WHAT IT READS IS OF BULK AT MOST 1048576: true; the input reads as it did. -/
def setsTwoUptoRow : OpenClaim := { program := "ytnegamkakdbhfaa", sum := "0d30e43983b83c1b28e0715eb9ce4cb2c0703d8e65339ce6817312737547421a", func := "envoy/envoylaw12.SetsTwo", spec := "setsTwo", unfollowed := true, recurses := true, apart := false, narrowed := true }
def SetsTwoUptoSaid : Prop := setsTwoUptoRow.holds Try.pinned (OpenSpec.upto setsTwoSpec)

/-- 'envoylaw12.SetsLaws', WHERE WHAT IT READS IS OF BULK AT MOST 1048576: true; the input reads as it did. -/
def setsLawsUptoRow : OpenClaim := { program := "ytnegamkakdbhfaa", sum := "0d30e43983b83c1b28e0715eb9ce4cb2c0703d8e65339ce6817312737547421a", func := "envoy/envoylaw12.SetsLaws", spec := "setsLaws", unfollowed := true, recurses := true, apart := false, narrowed := true }
def SetsLawsUptoSaid : Prop := setsLawsUptoRow.holds Try.pinned (OpenSpec.upto setsLawsSpec)

/-- 'envoylaw12.SetsNone', WHERE WHAT IT READS IS OF BULK AT MOST 1048576: true; the input reads as it did. -/
def setsNoneUptoRow : OpenClaim := { program := "ytnegamkakdbhfaa", sum := "0d30e43983b83c1b28e0715eb9ce4cb2c0703d8e65339ce6817312737547421a", func := "envoy/envoylaw12.SetsNone", spec := "setsNone", unfollowed := true, recurses := true, apart := false, narrowed := true }
def SetsNoneUptoSaid : Prop := setsNoneUptoRow.holds Try.pinned (OpenSpec.upto setsNoneSpec)

end Rows
end Go.Proofs.Ytnegamkakdbhfaa
