/-
  DERIVED. GIVEN WITH THE SEED: THE CARDS: each row of YtigafbmabjglfaaGreatDoorRows.lean that lists a variable, with what it lists TIED to the program's text (the seventh form; the later family's looks); each row that meets fmt, with fmt's text TOLD by the authors' own Lean function (tested against real Go, not proved from fmt's source: count such statements apart). THE CARD IS WHAT COUNTS. Prove the row's statement (the work); the ties are given (YtigafbmabjglfaaGreatDoorTie.lean); close each card by the builder's one call (the guide's Derived/Test/ToyasCard.lean, 'card_holds'). Laid BY PROGRAM, IN A SANDBOX (cutbox-door.mjs). By AI agents, Wed Nov 11 2026. No macro, syntax, notation, axiom, sorry.
-/
import Derived.Test.YtigafbmabjglfaaGreatDoorRows
import GoSem.ClaimSeven
namespace Go.Proofs.YtigafbmabjglfaaGreatDoor
namespace Rows

/-- THE TIED CARD OF 'envoylaw40.EvtermsTerm'. -/
def evtermsTermCard : Claim7 := { stood := { row := evtermsTermRow, standIns := [], harness := (true, "9f81ff03ba0069fe878c6615219e5090c9981f44e2fc56505ab9be8ab49e6fb6"), looks := true }, kinds := [], alts := [], laidByText := true, laidKinds := [.handle, .sentinel, .sentinel], laidTests := true, laidLooks := .later }
def EvtermsTermCardSaid : Prop := Claim7.holds Tryz.pinned (.plain (OpenSpec.ofChange evtermsTermSpec)) evtermsTermCard

/-- THE TIED CARD OF 'envoylaw40.EvtermsAll'. -/
def evtermsAllCard : Claim7 := { stood := { row := evtermsAllRow, standIns := [], harness := (true, "9f81ff03ba0069fe878c6615219e5090c9981f44e2fc56505ab9be8ab49e6fb6"), looks := true }, kinds := [], alts := [], laidByText := true, laidKinds := [.handle, .sentinel, .sentinel], laidTests := true, laidLooks := .later }
def EvtermsAllCardSaid : Prop := Claim7.holds Tryz.pinned (.plain (OpenSpec.ofChange evtermsAllSpec)) evtermsAllCard

/-- THE SECOND FORM's CARD OF 'envoylaw40.EvtermsTerm'. -/
def evtermsTermUptoCard : Claim7 := { stood := { row := evtermsTermUptoRow, standIns := [], harness := (true, "9f81ff03ba0069fe878c6615219e5090c9981f44e2fc56505ab9be8ab49e6fb6"), looks := true }, kinds := [], alts := [], laidByText := true, laidKinds := [.handle, .sentinel, .sentinel], laidTests := true, laidLooks := .later }
def EvtermsTermUptoCardSaid : Prop := Claim7.holds Tryz.pinned (.plain (OpenSpec.upto evtermsTermSpec)) evtermsTermUptoCard

/-- THE SECOND FORM's CARD OF 'envoylaw40.EvtermsAll'. -/
def evtermsAllUptoCard : Claim7 := { stood := { row := evtermsAllUptoRow, standIns := [], harness := (true, "9f81ff03ba0069fe878c6615219e5090c9981f44e2fc56505ab9be8ab49e6fb6"), looks := true }, kinds := [], alts := [], laidByText := true, laidKinds := [.handle, .sentinel, .sentinel], laidTests := true, laidLooks := .later }
def EvtermsAllUptoCardSaid : Prop := Claim7.holds Tryz.pinned (.plain (OpenSpec.upto evtermsAllSpec)) evtermsAllUptoCard
end Rows
end Go.Proofs.YtigafbmabjglfaaGreatDoor
