/-
  NARROWER THAN 'FOR EVERY INPUT', by the rows' own cells (each row's printed sentence says how): PhasesOnce: laid · PhasesOrder: laid · PhasesWho: laid · PhasesUntil: laid.
  DERIVED. THE GIVEN ROWS OF THIS SEAT. 4 by the template 'for every input the law returns true; each argument reads behind the call as it read before'; 0 by the template 'total and deterministic' (their statements: YteonifhncpnjiaaDoorTotals.lean).
  GIVEN WITH THE SEED: the statements are not yours to turn. If you find one false, say at which input.
  Laid BY PROGRAM, IN A SANDBOX (cutbox-rows.mjs): the forced cells as the released guide's own fill.sh prints them over the translation 6198974f7dc19916… (all of the seat's roots in one cut). By AI agents, Wed Nov 11 2026. No macro, syntax, notation, axiom, sorry.
-/
import Derived.Test.YteonifhncpnjiaaDoorChecked
import GoSem.Claim
import GoSem.ClaimJoined
import GoSem.ClaimMapViews
import Derived.JoinedTies
import Derived.KernelRfl
namespace Go.Proofs.YteonifhncpnjiaaDoor
/- THE CELL 'sum', in the pinned program and in every row, IS THE sha256 OF THE DUMP (.gsa) THAT YteonifhncpnjiaaDoorProg.lean LOADS. Nothing in Lean hashes anything: it is a label: what it is worth is what the hold of that sum in a sandbox is worth. -/
noncomputable def Tryd.pinned : Pinned := { name := "yteonifhncpnjiaadoor", sum := "6198974f7dc199168c44808ca56ab8d099347b8914bdd6ae1c3aa43a4d0f1745", checked := Tryd.checked }
namespace Rows
def none {H : Type} : Left H := { results := [], args := [] }

/- WHAT THE LISTED PACKAGE-LEVEL VARIABLES READ AS WHEN THE CALL BEGINS. Each datum BY PROGRAM (the guide's laid-datum.mjs) off the statement by which the dump's own 'gosem.cut.vars' lays the variable. In a bare row this is a premise. The card (YteonifhncpnjiaaDoorCards.lean) ties it to the program's text. -/
def laid_salesroom_phases_may {H : Type} : DataW H := .agg [.slice [.lit (.int .u8 1), .lit (.int .u8 10), .lit (.int .u8 2), .lit (.int .u8 3), .lit (.int .u8 4), .lit (.int .u8 5)] [], .slice [.lit (.int .u8 1), .lit (.int .u8 10), .lit (.int .u8 6), .lit (.int .u8 7), .lit (.int .u8 8)] [], .slice [.lit (.int .u8 1), .lit (.int .u8 10), .lit (.int .u8 9)] []]
def laid_salesroom_phases_next {H : Type} : DataW H := .agg [.lit (.int .u8 0), .lit (.int .u8 0), .lit (.int .u8 0), .lit (.int .u8 0), .lit (.int .u8 0), .lit (.int .u8 0), .lit (.int .u8 1), .lit (.int .u8 2), .lit (.int .u8 3)]

/-- 'salesroomlaw22.PhasesOnce': WHATEVER THE INPUT: true; the input reads as it did. -/
def phasesOnceSpec : ChangeSpec := { name := "phasesOnce", fn := fun _ => fun
  | [d] => { results := [.lit (.bool true)], args := [d] }
  | _ => none }
def phasesOnceRow : OpenClaim := { program := "yteonifhncpnjiaadoor", sum := "6198974f7dc199168c44808ca56ab8d099347b8914bdd6ae1c3aa43a4d0f1745", func := "salesroom/salesroomlaw22.PhasesOnce", spec := "phasesOnce", named := ["salesroom/phases.next", "salesroom/phases.may"], apart := false, laid := [("salesroom/phases.may", laid_salesroom_phases_may), ("salesroom/phases.next", laid_salesroom_phases_next)] }
def PhasesOnceSaid : Prop := phasesOnceRow.holds Tryd.pinned (OpenSpec.ofChange phasesOnceSpec)

/-- ITS FALSE NEIGHBOUR: 'it returns false'. Refute it at one input. -/
def phasesOnceWrong : ChangeSpec := { name := "phasesOnce", fn := fun _ => fun
  | [d] => { results := [.lit (.bool false)], args := [d] }
  | _ => none }
def PhasesOnceWrongFalsely : Prop := phasesOnceRow.holds Tryd.pinned (OpenSpec.ofChange phasesOnceWrong)

/-- 'salesroomlaw22.PhasesOrder': WHATEVER THE INPUT: true; the input reads as it did. -/
def phasesOrderSpec : ChangeSpec := { name := "phasesOrder", fn := fun _ => fun
  | [d1, d2, d3] => { results := [.lit (.bool true)], args := [d1, d2, d3] }
  | _ => none }
def phasesOrderRow : OpenClaim := { program := "yteonifhncpnjiaadoor", sum := "6198974f7dc199168c44808ca56ab8d099347b8914bdd6ae1c3aa43a4d0f1745", func := "salesroom/salesroomlaw22.PhasesOrder", spec := "phasesOrder", named := ["salesroom/phases.next", "salesroom/phases.may"], apart := false, laid := [("salesroom/phases.may", laid_salesroom_phases_may), ("salesroom/phases.next", laid_salesroom_phases_next)] }
def PhasesOrderSaid : Prop := phasesOrderRow.holds Tryd.pinned (OpenSpec.ofChange phasesOrderSpec)

/-- ITS FALSE NEIGHBOUR: 'it returns false'. Refute it at one input. -/
def phasesOrderWrong : ChangeSpec := { name := "phasesOrder", fn := fun _ => fun
  | [d1, d2, d3] => { results := [.lit (.bool false)], args := [d1, d2, d3] }
  | _ => none }
def PhasesOrderWrongFalsely : Prop := phasesOrderRow.holds Tryd.pinned (OpenSpec.ofChange phasesOrderWrong)

/-- 'salesroomlaw22.PhasesWho': WHATEVER THE INPUT: true; the input reads as it did. -/
def phasesWhoSpec : ChangeSpec := { name := "phasesWho", fn := fun _ => fun
  | [d1, d2] => { results := [.lit (.bool true)], args := [d1, d2] }
  | _ => none }
def phasesWhoRow : OpenClaim := { program := "yteonifhncpnjiaadoor", sum := "6198974f7dc199168c44808ca56ab8d099347b8914bdd6ae1c3aa43a4d0f1745", func := "salesroom/salesroomlaw22.PhasesWho", spec := "phasesWho", named := ["salesroom/phases.may", "salesroom/phases.next"], apart := false, laid := [("salesroom/phases.may", laid_salesroom_phases_may), ("salesroom/phases.next", laid_salesroom_phases_next)] }
def PhasesWhoSaid : Prop := phasesWhoRow.holds Tryd.pinned (OpenSpec.ofChange phasesWhoSpec)

/-- ITS FALSE NEIGHBOUR: 'it returns false'. Refute it at one input. -/
def phasesWhoWrong : ChangeSpec := { name := "phasesWho", fn := fun _ => fun
  | [d1, d2] => { results := [.lit (.bool false)], args := [d1, d2] }
  | _ => none }
def PhasesWhoWrongFalsely : Prop := phasesWhoRow.holds Tryd.pinned (OpenSpec.ofChange phasesWhoWrong)

/-- 'salesroomlaw22.PhasesUntil': WHATEVER THE INPUT: true; the input reads as it did. -/
def phasesUntilSpec : ChangeSpec := { name := "phasesUntil", fn := fun _ => fun
  | [d] => { results := [.lit (.bool true)], args := [d] }
  | _ => none }
def phasesUntilRow : OpenClaim := { program := "yteonifhncpnjiaadoor", sum := "6198974f7dc199168c44808ca56ab8d099347b8914bdd6ae1c3aa43a4d0f1745", func := "salesroom/salesroomlaw22.PhasesUntil", spec := "phasesUntil", named := ["salesroom/phases.next", "salesroom/phases.may"], apart := false, laid := [("salesroom/phases.may", laid_salesroom_phases_may), ("salesroom/phases.next", laid_salesroom_phases_next)] }
def PhasesUntilSaid : Prop := phasesUntilRow.holds Tryd.pinned (OpenSpec.ofChange phasesUntilSpec)

/-- ITS FALSE NEIGHBOUR: 'it returns false'. Refute it at one input. -/
def phasesUntilWrong : ChangeSpec := { name := "phasesUntil", fn := fun _ => fun
  | [d] => { results := [.lit (.bool false)], args := [d] }
  | _ => none }
def PhasesUntilWrongFalsely : Prop := phasesUntilRow.holds Tryd.pinned (OpenSpec.ofChange phasesUntilWrong)

/- THE SECOND FORM. 'bulk': how many values and letters a reading holds, each counted each time it is reached (what is shared counts as often as it is met; a slice's spare places count too). A statement '..UptoSaid' is the law's where the arguments, and the package variables that the reading takes, are together of bulk at most 1048576: NARROWER than '..Said'. Prove '..Said' where nothing that the law and all that it calls make is longer than what came in: it says more and counts as full. Else prove '..UptoSaid'. A law counts once. -/
mutual
def uptoBulk {H : Type} : DataW H → Nat
  | .lit (.string bytes) => bytes.length + 1
  | .lit _ => 1
  | .nil => 1
  | .ptr d => uptoBulk d + 1
  | .slice elems spare => uptoBulkAll elems + uptoBulkAll spare + 1
  | .agg parts => uptoBulkAll parts + 1
  | .iface _ d => uptoBulk d + 1
  | .map entries => uptoBulkEntries entries + 1
  | .held _ => 1
def uptoBulkAll {H : Type} : List (DataW H) → Nat
  | [] => 0
  | d :: r => uptoBulk d + uptoBulkAll r
def uptoBulkEntries {H : Type} : List (Lit × DataW H) → Nat
  | [] => 0
  | x :: r => uptoBulkEntry x + uptoBulkEntries r
def uptoBulkEntry {H : Type} : Lit × DataW H → Nat
  | (.string bytes, d) => bytes.length + uptoBulk d + 1
  | (_, d) => uptoBulk d + 1
 end
def uptoSmall : (H : Type) → List (DataW H) → Bool := fun _ ds => decide (uptoBulkAll ds ≤ 1048576)
def OpenSpec.upto (s : _root_.Go.ChangeSpec) : _root_.Go.OpenSpec := { _root_.Go.OpenSpec.ofChange s with cond := some uptoSmall }

/-- 'salesroomlaw22.PhasesOnce', WHERE WHAT IT READS IS OF BULK AT MOST 1048576: true; the input reads as it did. -/
def phasesOnceUptoRow : OpenClaim := { program := "yteonifhncpnjiaadoor", sum := "6198974f7dc199168c44808ca56ab8d099347b8914bdd6ae1c3aa43a4d0f1745", func := "salesroom/salesroomlaw22.PhasesOnce", spec := "phasesOnce", named := ["salesroom/phases.next", "salesroom/phases.may"], apart := false, laid := [("salesroom/phases.may", laid_salesroom_phases_may), ("salesroom/phases.next", laid_salesroom_phases_next)], narrowed := true }
def PhasesOnceUptoSaid : Prop := phasesOnceUptoRow.holds Tryd.pinned (OpenSpec.upto phasesOnceSpec)

/-- 'salesroomlaw22.PhasesOrder', WHERE WHAT IT READS IS OF BULK AT MOST 1048576: true; the input reads as it did. -/
def phasesOrderUptoRow : OpenClaim := { program := "yteonifhncpnjiaadoor", sum := "6198974f7dc199168c44808ca56ab8d099347b8914bdd6ae1c3aa43a4d0f1745", func := "salesroom/salesroomlaw22.PhasesOrder", spec := "phasesOrder", named := ["salesroom/phases.next", "salesroom/phases.may"], apart := false, laid := [("salesroom/phases.may", laid_salesroom_phases_may), ("salesroom/phases.next", laid_salesroom_phases_next)], narrowed := true }
def PhasesOrderUptoSaid : Prop := phasesOrderUptoRow.holds Tryd.pinned (OpenSpec.upto phasesOrderSpec)

/-- 'salesroomlaw22.PhasesWho', WHERE WHAT IT READS IS OF BULK AT MOST 1048576: true; the input reads as it did. -/
def phasesWhoUptoRow : OpenClaim := { program := "yteonifhncpnjiaadoor", sum := "6198974f7dc199168c44808ca56ab8d099347b8914bdd6ae1c3aa43a4d0f1745", func := "salesroom/salesroomlaw22.PhasesWho", spec := "phasesWho", named := ["salesroom/phases.may", "salesroom/phases.next"], apart := false, laid := [("salesroom/phases.may", laid_salesroom_phases_may), ("salesroom/phases.next", laid_salesroom_phases_next)], narrowed := true }
def PhasesWhoUptoSaid : Prop := phasesWhoUptoRow.holds Tryd.pinned (OpenSpec.upto phasesWhoSpec)

/-- 'salesroomlaw22.PhasesUntil', WHERE WHAT IT READS IS OF BULK AT MOST 1048576: true; the input reads as it did. -/
def phasesUntilUptoRow : OpenClaim := { program := "yteonifhncpnjiaadoor", sum := "6198974f7dc199168c44808ca56ab8d099347b8914bdd6ae1c3aa43a4d0f1745", func := "salesroom/salesroomlaw22.PhasesUntil", spec := "phasesUntil", named := ["salesroom/phases.next", "salesroom/phases.may"], apart := false, laid := [("salesroom/phases.may", laid_salesroom_phases_may), ("salesroom/phases.next", laid_salesroom_phases_next)], narrowed := true }
def PhasesUntilUptoSaid : Prop := phasesUntilUptoRow.holds Tryd.pinned (OpenSpec.upto phasesUntilSpec)

end Rows
end Go.Proofs.YteonifhncpnjiaaDoor
