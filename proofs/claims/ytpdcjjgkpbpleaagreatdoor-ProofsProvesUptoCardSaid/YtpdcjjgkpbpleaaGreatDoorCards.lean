/-
  DERIVED. GIVEN WITH THE SEED: THE CARDS: each row of YtpdcjjgkpbpleaaGreatDoorRows.lean that lists a variable, with what it lists TIED to the program's text (the seventh form; the later family's looks); each row that meets fmt, with fmt's text TOLD by the authors' own Lean function (tested against real Go, not proved from fmt's source: count such statements apart). THE CARD IS WHAT COUNTS. Prove the row's statement (the work); the ties are given (YtpdcjjgkpbpleaaGreatDoorTie.lean); close each card by the builder's one call (the guide's Derived/Test/ToyasCard.lean, 'card_holds'). Laid BY PROGRAM, IN A SANDBOX (cutbox-door.mjs). By AI agents, Wed Nov 11 2026. No macro, syntax, notation, axiom, sorry.
-/
import Derived.Test.YtpdcjjgkpbpleaaGreatDoorRows
import GoSem.ClaimSeven
namespace Go.Proofs.YtpdcjjgkpbpleaaGreatDoor
namespace Rows

/-- THE TIED CARD OF 'envoylaw24.ProofsProves'. -/
def proofsProvesCard : Claim7 := { stood := { row := proofsProvesRow, standIns := [], harness := (true, "d89527f2362ce19a9001f66af507b434a8d3f6667d3f7774a30d7dd6ec9c4e5e"), looks := true }, kinds := [], alts := [], laidByText := true, laidKinds := [.handle], laidTests := true, laidLooks := .later }
def ProofsProvesCardSaid : Prop := Claim7.holds Tryz.pinned (.plain (OpenSpec.ofChange proofsProvesSpec)) proofsProvesCard

/-- THE SECOND FORM's CARD OF 'envoylaw24.ProofsProves'. -/
def proofsProvesUptoCard : Claim7 := { stood := { row := proofsProvesUptoRow, standIns := [], harness := (true, "d89527f2362ce19a9001f66af507b434a8d3f6667d3f7774a30d7dd6ec9c4e5e"), looks := true }, kinds := [], alts := [], laidByText := true, laidKinds := [.handle], laidTests := true, laidLooks := .later }
def ProofsProvesUptoCardSaid : Prop := Claim7.holds Tryz.pinned (.plain (OpenSpec.upto proofsProvesSpec)) proofsProvesUptoCard
end Rows
end Go.Proofs.YtpdcjjgkpbpleaaGreatDoor
