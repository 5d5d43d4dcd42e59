/-
  DERIVED. GIVEN WITH THE SEED: THE CARDS: each row of YtppmpgkkegldnaaDoorRows.lean that lists a variable, with what it lists TIED to the program's text (the seventh form; the later family's looks); each row that meets fmt, with fmt's text TOLD by the authors' own Lean function (tested against real Go, not proved from fmt's source: count such statements apart). THE CARD IS WHAT COUNTS. Prove the row's statement (the work); the ties are given (YtppmpgkkegldnaaDoorTie.lean); close each card by the builder's one call (the guide's Derived/Test/ToyasCard.lean, 'card_holds'). Laid BY PROGRAM, IN A SANDBOX (cutbox-door.mjs). By AI agents, Wed Nov 11 2026. No macro, syntax, notation, axiom, sorry.
-/
import Derived.Test.YtppmpgkkegldnaaDoorRows
import GoSem.ClaimSeven
namespace Go.Proofs.YtppmpgkkegldnaaDoor
namespace Rows

/-- THE TIED CARD OF 'salesroomlaw03.DisksPlay'. -/
def disksPlayCard : Claim7 := { stood := { row := disksPlayRow, standIns := [], harness := (true, "01934b6c89a13eb157323b3024f83011d1b551cd7f49d1737d19f43ca5f006e3"), looks := false }, kinds := [], alts := [], laidByText := true, laidKinds := [.data, .data, .data], laidTests := true, laidLooks := .later }
def DisksPlayCardSaid : Prop := Claim7.holds Tryd.pinned (.plain (OpenSpec.ofChange disksPlaySpec)) disksPlayCard

/-- THE SECOND FORM's CARD OF 'salesroomlaw03.DisksPlay'. -/
def disksPlayUptoCard : Claim7 := { stood := { row := disksPlayUptoRow, standIns := [], harness := (true, "01934b6c89a13eb157323b3024f83011d1b551cd7f49d1737d19f43ca5f006e3"), looks := false }, kinds := [], alts := [], laidByText := true, laidKinds := [.data, .data, .data], laidTests := true, laidLooks := .later }
def DisksPlayUptoCardSaid : Prop := Claim7.holds Tryd.pinned (.plain (OpenSpec.upto disksPlaySpec)) disksPlayUptoCard
end Rows
end Go.Proofs.YtppmpgkkegldnaaDoor
