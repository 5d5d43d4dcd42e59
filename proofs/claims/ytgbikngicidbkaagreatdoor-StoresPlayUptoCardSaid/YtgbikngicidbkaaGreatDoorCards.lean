/-
  DERIVED. GIVEN WITH THE SEED: THE CARDS: each row of YtgbikngicidbkaaGreatDoorRows.lean that lists a variable, with what it lists TIED to the program's text (the seventh form; the later family's looks); each row that meets fmt, with fmt's text TOLD by the authors' own Lean function (tested against real Go, not proved from fmt's source: count such statements apart). THE CARD IS WHAT COUNTS. Prove the row's statement (the work); the ties are given (YtgbikngicidbkaaGreatDoorTie.lean); close each card by the builder's one call (the guide's Derived/Test/ToyasCard.lean, 'card_holds'). Laid BY PROGRAM, IN A SANDBOX (cutbox-door.mjs). By AI agents, Wed Nov 11 2026. No macro, syntax, notation, axiom, sorry.
-/
import Derived.Test.YtgbikngicidbkaaGreatDoorRows
import GoSem.ClaimSeven
namespace Go.Proofs.YtgbikngicidbkaaGreatDoor
namespace Rows

/-- THE TIED CARD OF 'salesroomlaw20.StoresPlay'. -/
def storesPlayCard : Claim7 := { stood := { row := storesPlayRow, standIns := [], harness := (true, "83833e13aeeda430e35649296d53ba0d8f78bc80b4cea78ef91f6a190413875c"), looks := false }, kinds := [], alts := [], laidByText := true, laidKinds := [.data, .data, .data], laidTests := true, laidLooks := .later }
def StoresPlayCardSaid : Prop := Claim7.holds Tryz.pinned (.plain (OpenSpec.ofChange storesPlaySpec)) storesPlayCard

/-- THE SECOND FORM's CARD OF 'salesroomlaw20.StoresPlay'. -/
def storesPlayUptoCard : Claim7 := { stood := { row := storesPlayUptoRow, standIns := [], harness := (true, "83833e13aeeda430e35649296d53ba0d8f78bc80b4cea78ef91f6a190413875c"), looks := false }, kinds := [], alts := [], laidByText := true, laidKinds := [.data, .data, .data], laidTests := true, laidLooks := .later }
def StoresPlayUptoCardSaid : Prop := Claim7.holds Tryz.pinned (.plain (OpenSpec.upto storesPlaySpec)) storesPlayUptoCard
end Rows
end Go.Proofs.YtgbikngicidbkaaGreatDoor
