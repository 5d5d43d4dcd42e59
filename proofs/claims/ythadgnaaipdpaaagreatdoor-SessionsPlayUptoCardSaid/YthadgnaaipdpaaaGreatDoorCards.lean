/-
  DERIVED. GIVEN WITH THE SEED: THE CARDS: each row of YthadgnaaipdpaaaGreatDoorRows.lean that lists a variable, with what it lists TIED to the program's text (the seventh form; the later family's looks); each row that meets fmt, with fmt's text TOLD by the authors' own Lean function (tested against real Go, not proved from fmt's source: count such statements apart). THE CARD IS WHAT COUNTS. Prove the row's statement (the work); the ties are given (YthadgnaaipdpaaaGreatDoorTie.lean); close each card by the builder's one call (the guide's Derived/Test/ToyasCard.lean, 'card_holds'). Laid BY PROGRAM, IN A SANDBOX (cutbox-door.mjs). By AI agents, Wed Nov 11 2026. No macro, syntax, notation, axiom, sorry.
-/
import Derived.Test.YthadgnaaipdpaaaGreatDoorRows
import GoSem.ClaimSeven
namespace Go.Proofs.YthadgnaaipdpaaaGreatDoor
namespace Rows

/-- THE TIED CARD OF 'salesroomlaw23.SessionsPlay'. -/
def sessionsPlayCard : Claim7 := { stood := { row := sessionsPlayRow, standIns := [], harness := (true, "84626421b15e34031d5401b3947741ba10b2ca098fe6ea56bcc2f53107b0b07a"), looks := true }, kinds := [], alts := [], laidByText := true, laidKinds := [.data, .data, .data], laidTests := true, laidLooks := .later }
def SessionsPlayCardSaid : Prop := Claim7.holds Tryz.pinned (.plain (OpenSpec.ofChange sessionsPlaySpec)) sessionsPlayCard

/-- THE SECOND FORM's CARD OF 'salesroomlaw23.SessionsPlay'. -/
def sessionsPlayUptoCard : Claim7 := { stood := { row := sessionsPlayUptoRow, standIns := [], harness := (true, "84626421b15e34031d5401b3947741ba10b2ca098fe6ea56bcc2f53107b0b07a"), looks := true }, kinds := [], alts := [], laidByText := true, laidKinds := [.data, .data, .data], laidTests := true, laidLooks := .later }
def SessionsPlayUptoCardSaid : Prop := Claim7.holds Tryz.pinned (.plain (OpenSpec.upto sessionsPlaySpec)) sessionsPlayUptoCard
end Rows
end Go.Proofs.YthadgnaaipdpaaaGreatDoor
