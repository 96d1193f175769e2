/-
  DERIVED. GIVEN WITH THE SEED: THE CARDS: each row of YtbkdlbohhkakiaaGreatDoorRows.lean that lists a variable, with what it lists TIED to the program's text (the seventh form; the later family's looks); each row that meets fmt, with fmt's text TOLD by the authors' own Lean function (tested against real Go, not proved from fmt's source: count such statements apart). THE CARD IS WHAT COUNTS. Prove the row's statement (the work); the ties are given (YtbkdlbohhkakiaaGreatDoorTie.lean); close each card by the builder's one call (the guide's Derived/Test/ToyasCard.lean, 'card_holds'). Laid BY PROGRAM, IN A SANDBOX (cutbox-door.mjs). By AI agents, Wed Nov 11 2026. No macro, syntax, notation, axiom, sorry.
-/
import Derived.Test.YtbkdlbohhkakiaaGreatDoorRows
import GoSem.ClaimSeven
namespace Go.Proofs.YtbkdlbohhkakiaaGreatDoor
namespace Rows

/-- THE TIED CARD OF 'envoylaw24.ProofsProves'. -/
def proofsProvesCard : Claim7 := { stood := { row := proofsProvesRow, standIns := [], harness := (true, "bf2e255985c0f7dcfc48776d764d66e4f4ade2d3209f76ed9cd0f9ef52d1c106"), looks := true }, kinds := [], alts := [], laidByText := true, laidKinds := [.handle], laidTests := true, laidLooks := .later }
def ProofsProvesCardSaid : Prop := Claim7.holds Tryz.pinned (.plain (OpenSpec.ofChange proofsProvesSpec)) proofsProvesCard

/-- THE TIED CARD OF 'envoylaw24.ProofsPuts'. -/
def proofsPutsCard : Claim7 := { stood := { row := proofsPutsRow, standIns := [], harness := (true, "bf2e255985c0f7dcfc48776d764d66e4f4ade2d3209f76ed9cd0f9ef52d1c106"), looks := true }, kinds := [], alts := [], laidByText := true, laidKinds := [.handle], laidTests := true, laidLooks := .later }
def ProofsPutsCardSaid : Prop := Claim7.holds Tryz.pinned (.plain (OpenSpec.ofChange proofsPutsSpec)) proofsPutsCard

/-- THE TIED CARD OF 'envoylaw24.ProofsCut'. -/
def proofsCutCard : Claim7 := { stood := { row := proofsCutRow, standIns := [], harness := (true, "bf2e255985c0f7dcfc48776d764d66e4f4ade2d3209f76ed9cd0f9ef52d1c106"), looks := true }, kinds := [], alts := [], laidByText := true, laidKinds := [.handle], laidTests := true, laidLooks := .later }
def ProofsCutCardSaid : Prop := Claim7.holds Tryz.pinned (.plain (OpenSpec.ofChange proofsCutSpec)) proofsCutCard

/-- THE SECOND FORM's CARD OF 'envoylaw24.ProofsProves'. -/
def proofsProvesUptoCard : Claim7 := { stood := { row := proofsProvesUptoRow, standIns := [], harness := (true, "bf2e255985c0f7dcfc48776d764d66e4f4ade2d3209f76ed9cd0f9ef52d1c106"), looks := true }, kinds := [], alts := [], laidByText := true, laidKinds := [.handle], laidTests := true, laidLooks := .later }
def ProofsProvesUptoCardSaid : Prop := Claim7.holds Tryz.pinned (.plain (OpenSpec.upto proofsProvesSpec)) proofsProvesUptoCard

/-- THE SECOND FORM's CARD OF 'envoylaw24.ProofsPuts'. -/
def proofsPutsUptoCard : Claim7 := { stood := { row := proofsPutsUptoRow, standIns := [], harness := (true, "bf2e255985c0f7dcfc48776d764d66e4f4ade2d3209f76ed9cd0f9ef52d1c106"), looks := true }, kinds := [], alts := [], laidByText := true, laidKinds := [.handle], laidTests := true, laidLooks := .later }
def ProofsPutsUptoCardSaid : Prop := Claim7.holds Tryz.pinned (.plain (OpenSpec.upto proofsPutsSpec)) proofsPutsUptoCard

/-- THE SECOND FORM's CARD OF 'envoylaw24.ProofsCut'. -/
def proofsCutUptoCard : Claim7 := { stood := { row := proofsCutUptoRow, standIns := [], harness := (true, "bf2e255985c0f7dcfc48776d764d66e4f4ade2d3209f76ed9cd0f9ef52d1c106"), looks := true }, kinds := [], alts := [], laidByText := true, laidKinds := [.handle], laidTests := true, laidLooks := .later }
def ProofsCutUptoCardSaid : Prop := Claim7.holds Tryz.pinned (.plain (OpenSpec.upto proofsCutSpec)) proofsCutUptoCard
end Rows
end Go.Proofs.YtbkdlbohhkakiaaGreatDoor
