/-
  DERIVED. GIVEN WITH THE SEED: THE CARDS: each row of YteonifhncpnjiaaDoorRows.lean that lists a variable, with what it lists TIED to the program's text (the seventh form; the later family's looks); each row that meets fmt, with fmt's text TOLD by the authors' own Lean function (tested against real Go, not proved from fmt's source: count such statements apart). THE CARD IS WHAT COUNTS. Prove the row's statement (the work); the ties are given (YteonifhncpnjiaaDoorTie.lean); close each card by the builder's one call (the guide's Derived/Test/ToyasCard.lean, 'card_holds'). Laid BY PROGRAM, IN A SANDBOX (cutbox-door.mjs). By AI agents, Wed Nov 11 2026. No macro, syntax, notation, axiom, sorry.
-/
import Derived.Test.YteonifhncpnjiaaDoorRows
import GoSem.ClaimSeven
namespace Go.Proofs.YteonifhncpnjiaaDoor
namespace Rows

/-- THE TIED CARD OF 'salesroomlaw22.PhasesOnce'. -/
def phasesOnceCard : Claim7 := { stood := { row := phasesOnceRow, standIns := [], harness := (true, "51ad0449de9647d89dac8fc311b070abde219c3ff89ad1638af95bfa9db1859b"), looks := false }, kinds := [], alts := [], laidByText := true, laidKinds := [.widerDeep, .data], laidTests := true, laidLooks := .later }
def PhasesOnceCardSaid : Prop := Claim7.holds Tryd.pinned (.plain (OpenSpec.ofChange phasesOnceSpec)) phasesOnceCard

/-- THE TIED CARD OF 'salesroomlaw22.PhasesOrder'. -/
def phasesOrderCard : Claim7 := { stood := { row := phasesOrderRow, standIns := [], harness := (true, "51ad0449de9647d89dac8fc311b070abde219c3ff89ad1638af95bfa9db1859b"), looks := false }, kinds := [], alts := [], laidByText := true, laidKinds := [.widerDeep, .data], laidTests := true, laidLooks := .later }
def PhasesOrderCardSaid : Prop := Claim7.holds Tryd.pinned (.plain (OpenSpec.ofChange phasesOrderSpec)) phasesOrderCard

/-- THE TIED CARD OF 'salesroomlaw22.PhasesWho'. -/
def phasesWhoCard : Claim7 := { stood := { row := phasesWhoRow, standIns := [], harness := (true, "51ad0449de9647d89dac8fc311b070abde219c3ff89ad1638af95bfa9db1859b"), looks := false }, kinds := [], alts := [], laidByText := true, laidKinds := [.widerDeep, .data], laidTests := true, laidLooks := .later }
def PhasesWhoCardSaid : Prop := Claim7.holds Tryd.pinned (.plain (OpenSpec.ofChange phasesWhoSpec)) phasesWhoCard

/-- THE TIED CARD OF 'salesroomlaw22.PhasesUntil'. -/
def phasesUntilCard : Claim7 := { stood := { row := phasesUntilRow, standIns := [], harness := (true, "51ad0449de9647d89dac8fc311b070abde219c3ff89ad1638af95bfa9db1859b"), looks := false }, kinds := [], alts := [], laidByText := true, laidKinds := [.widerDeep, .data], laidTests := true, laidLooks := .later }
def PhasesUntilCardSaid : Prop := Claim7.holds Tryd.pinned (.plain (OpenSpec.ofChange phasesUntilSpec)) phasesUntilCard

/-- THE SECOND FORM's CARD OF 'salesroomlaw22.PhasesOnce'. -/
def phasesOnceUptoCard : Claim7 := { stood := { row := phasesOnceUptoRow, standIns := [], harness := (true, "51ad0449de9647d89dac8fc311b070abde219c3ff89ad1638af95bfa9db1859b"), looks := false }, kinds := [], alts := [], laidByText := true, laidKinds := [.widerDeep, .data], laidTests := true, laidLooks := .later }
def PhasesOnceUptoCardSaid : Prop := Claim7.holds Tryd.pinned (.plain (OpenSpec.upto phasesOnceSpec)) phasesOnceUptoCard

/-- THE SECOND FORM's CARD OF 'salesroomlaw22.PhasesOrder'. -/
def phasesOrderUptoCard : Claim7 := { stood := { row := phasesOrderUptoRow, standIns := [], harness := (true, "51ad0449de9647d89dac8fc311b070abde219c3ff89ad1638af95bfa9db1859b"), looks := false }, kinds := [], alts := [], laidByText := true, laidKinds := [.widerDeep, .data], laidTests := true, laidLooks := .later }
def PhasesOrderUptoCardSaid : Prop := Claim7.holds Tryd.pinned (.plain (OpenSpec.upto phasesOrderSpec)) phasesOrderUptoCard

/-- THE SECOND FORM's CARD OF 'salesroomlaw22.PhasesWho'. -/
def phasesWhoUptoCard : Claim7 := { stood := { row := phasesWhoUptoRow, standIns := [], harness := (true, "51ad0449de9647d89dac8fc311b070abde219c3ff89ad1638af95bfa9db1859b"), looks := false }, kinds := [], alts := [], laidByText := true, laidKinds := [.widerDeep, .data], laidTests := true, laidLooks := .later }
def PhasesWhoUptoCardSaid : Prop := Claim7.holds Tryd.pinned (.plain (OpenSpec.upto phasesWhoSpec)) phasesWhoUptoCard

/-- THE SECOND FORM's CARD OF 'salesroomlaw22.PhasesUntil'. -/
def phasesUntilUptoCard : Claim7 := { stood := { row := phasesUntilUptoRow, standIns := [], harness := (true, "51ad0449de9647d89dac8fc311b070abde219c3ff89ad1638af95bfa9db1859b"), looks := false }, kinds := [], alts := [], laidByText := true, laidKinds := [.widerDeep, .data], laidTests := true, laidLooks := .later }
def PhasesUntilUptoCardSaid : Prop := Claim7.holds Tryd.pinned (.plain (OpenSpec.upto phasesUntilSpec)) phasesUntilUptoCard
end Rows
end Go.Proofs.YteonifhncpnjiaaDoor
