/-
  No cell of these rows narrows 'for every input' (looked for: loops, veiled, ifaces, maps, wideKeys, modest, calm, conditions, laid).
  DERIVED. THE GIVEN ROWS OF THIS SEAT. 3 by the template 'for every input the law returns true; each argument reads behind the call as it read before'; 0 by the template 'total and deterministic' (their statements: YthadgnaaipdpaaaTotals.lean).
  GIVEN WITH THE SEED: the statements are not yours to turn. If you find one false, say at which input.
  Laid BY PROGRAM, IN A SANDBOX (cutbox-rows.mjs): the forced cells as the released guide's own fill.sh prints them over the translation 52e766d0b8e73f2b… (all of the seat's roots in one cut). By AI agents, Wed Nov 11 2026. No macro, syntax, notation, axiom, sorry.
-/
import Derived.Test.YthadgnaaipdpaaaChecked
import GoSem.Claim
import GoSem.ClaimJoined
import GoSem.ClaimMapViews
import Derived.JoinedTies
import Derived.KernelRfl
namespace Go.Proofs.Ythadgnaaipdpaaa
/- THE CELL 'sum', in the pinned program and in every row, IS THE sha256 OF THE DUMP (.gsa) THAT YthadgnaaipdpaaaProg.lean LOADS. Nothing in Lean hashes anything: it is a label: what it is worth is what the hold of that sum in a sandbox is worth. -/
noncomputable def Try.pinned : Pinned := { name := "ythadgnaaipdpaaa", sum := "52e766d0b8e73f2badfb8f5981e03f2872709bac8e2e750c8da4e55183e1b64d", checked := Try.checked }
namespace Rows
def none {H : Type} : Left H := { results := [], args := [] }

/-- 'salesroomlaw23.SessionsToken': WHATEVER THE INPUT: true; the input reads as it did. -/
def sessionsTokenSpec : ChangeSpec := { name := "sessionsToken", fn := fun _ => fun
  | [d] => { results := [.lit (.bool true)], args := [d] }
  | _ => none }
def sessionsTokenRow : OpenClaim := { program := "ythadgnaaipdpaaa", sum := "52e766d0b8e73f2badfb8f5981e03f2872709bac8e2e750c8da4e55183e1b64d", func := "salesroom/salesroomlaw23.SessionsToken", spec := "sessionsToken", apart := false }
def SessionsTokenSaid : Prop := sessionsTokenRow.holds Try.pinned (OpenSpec.ofChange sessionsTokenSpec)

/-- ITS FALSE NEIGHBOUR: 'it returns false'. Refute it at one input. -/
def sessionsTokenWrong : ChangeSpec := { name := "sessionsToken", fn := fun _ => fun
  | [d] => { results := [.lit (.bool false)], args := [d] }
  | _ => none }
def SessionsTokenWrongFalsely : Prop := sessionsTokenRow.holds Try.pinned (OpenSpec.ofChange sessionsTokenWrong)

/-- 'salesroomlaw23.SessionsSeq': WHATEVER THE INPUT: true; the input reads as it did. -/
def sessionsSeqSpec : ChangeSpec := { name := "sessionsSeq", fn := fun _ => fun
  | [d] => { results := [.lit (.bool true)], args := [d] }
  | _ => none }
def sessionsSeqRow : OpenClaim := { program := "ythadgnaaipdpaaa", sum := "52e766d0b8e73f2badfb8f5981e03f2872709bac8e2e750c8da4e55183e1b64d", func := "salesroom/salesroomlaw23.SessionsSeq", spec := "sessionsSeq", apart := false }
def SessionsSeqSaid : Prop := sessionsSeqRow.holds Try.pinned (OpenSpec.ofChange sessionsSeqSpec)

/-- ITS FALSE NEIGHBOUR: 'it returns false'. Refute it at one input. -/
def sessionsSeqWrong : ChangeSpec := { name := "sessionsSeq", fn := fun _ => fun
  | [d] => { results := [.lit (.bool false)], args := [d] }
  | _ => none }
def SessionsSeqWrongFalsely : Prop := sessionsSeqRow.holds Try.pinned (OpenSpec.ofChange sessionsSeqWrong)

/-- 'salesroomlaw23.SessionsCopy': WHATEVER THE INPUT: true; the input reads as it did. -/
def sessionsCopySpec : ChangeSpec := { name := "sessionsCopy", fn := fun _ => fun
  | [d1, d2] => { results := [.lit (.bool true)], args := [d1, d2] }
  | _ => none }
def sessionsCopyRow : OpenClaim := { program := "ythadgnaaipdpaaa", sum := "52e766d0b8e73f2badfb8f5981e03f2872709bac8e2e750c8da4e55183e1b64d", func := "salesroom/salesroomlaw23.SessionsCopy", spec := "sessionsCopy", inPlace := ["maps.clone"], apart := false }
def SessionsCopySaid : Prop := sessionsCopyRow.holds Try.pinned (OpenSpec.ofChange sessionsCopySpec)

/-- ITS FALSE NEIGHBOUR: 'it returns false'. Refute it at one input. -/
def sessionsCopyWrong : ChangeSpec := { name := "sessionsCopy", fn := fun _ => fun
  | [d1, d2] => { results := [.lit (.bool false)], args := [d1, d2] }
  | _ => none }
def SessionsCopyWrongFalsely : Prop := sessionsCopyRow.holds Try.pinned (OpenSpec.ofChange sessionsCopyWrong)

/- THE SECOND FORM. 'bulk': how many values and letters a reading holds, each counted each time it is reached (what is shared counts as often as it is met; a slice's spare places count too). A statement '..UptoSaid' is the law's where the arguments, and the package variables that the reading takes, are together of bulk at most 1048576: NARROWER than '..Said'. Prove '..Said' where nothing that the law and all that it calls make is longer than what came in: it says more and counts as full. Else prove '..UptoSaid'. A law counts once. -/
mutual
def uptoBulk {H : Type} : DataW H → Nat
  | .lit (.string bytes) => bytes.length + 1
  | .lit _ => 1
  | .nil => 1
  | .ptr d => uptoBulk d + 1
  | .slice elems spare => uptoBulkAll elems + uptoBulkAll spare + 1
  | .agg parts => uptoBulkAll parts + 1
  | .iface _ d => uptoBulk d + 1
  | .map entries => uptoBulkEntries entries + 1
  | .held _ => 1
def uptoBulkAll {H : Type} : List (DataW H) → Nat
  | [] => 0
  | d :: r => uptoBulk d + uptoBulkAll r
def uptoBulkEntries {H : Type} : List (Lit × DataW H) → Nat
  | [] => 0
  | x :: r => uptoBulkEntry x + uptoBulkEntries r
def uptoBulkEntry {H : Type} : Lit × DataW H → Nat
  | (.string bytes, d) => bytes.length + uptoBulk d + 1
  | (_, d) => uptoBulk d + 1
 end
def uptoSmall : (H : Type) → List (DataW H) → Bool := fun _ ds => decide (uptoBulkAll ds ≤ 1048576)
def OpenSpec.upto (s : _root_.Go.ChangeSpec) : _root_.Go.OpenSpec := { _root_.Go.OpenSpec.ofChange s with cond := some uptoSmall }

/-- 'salesroomlaw23.SessionsToken', WHERE WHAT IT READS IS OF BULK AT MOST 1048576: true; the input reads as it did. -/
def sessionsTokenUptoRow : OpenClaim := { program := "ythadgnaaipdpaaa", sum := "52e766d0b8e73f2badfb8f5981e03f2872709bac8e2e750c8da4e55183e1b64d", func := "salesroom/salesroomlaw23.SessionsToken", spec := "sessionsToken", apart := false, narrowed := true }
def SessionsTokenUptoSaid : Prop := sessionsTokenUptoRow.holds Try.pinned (OpenSpec.upto sessionsTokenSpec)

/-- 'salesroomlaw23.SessionsSeq', WHERE WHAT IT READS IS OF BULK AT MOST 1048576: true; the input reads as it did. -/
def sessionsSeqUptoRow : OpenClaim := { program := "ythadgnaaipdpaaa", sum := "52e766d0b8e73f2badfb8f5981e03f2872709bac8e2e750c8da4e55183e1b64d", func := "salesroom/salesroomlaw23.SessionsSeq", spec := "sessionsSeq", apart := false, narrowed := true }
def SessionsSeqUptoSaid : Prop := sessionsSeqUptoRow.holds Try.pinned (OpenSpec.upto sessionsSeqSpec)

/-- 'salesroomlaw23.SessionsCopy', WHERE WHAT IT READS IS OF BULK AT MOST 1048576: true; the input reads as it did. -/
def sessionsCopyUptoRow : OpenClaim := { program := "ythadgnaaipdpaaa", sum := "52e766d0b8e73f2badfb8f5981e03f2872709bac8e2e750c8da4e55183e1b64d", func := "salesroom/salesroomlaw23.SessionsCopy", spec := "sessionsCopy", inPlace := ["maps.clone"], apart := false, narrowed := true }
def SessionsCopyUptoSaid : Prop := sessionsCopyUptoRow.holds Try.pinned (OpenSpec.upto sessionsCopySpec)

end Rows
end Go.Proofs.Ythadgnaaipdpaaa
