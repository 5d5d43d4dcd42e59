/-
  No cell of these rows narrows 'for every input' (looked for: loops, veiled, ifaces, maps, wideKeys, modest, calm, conditions, laid).
  DERIVED. THE GIVEN ROWS OF THIS SEAT. 5 by the template 'for every input the law returns true; each argument reads behind the call as it read before'; 0 by the template 'total and deterministic' (their statements: YtfbpbcaonlijnaaTotals.lean).
  GIVEN WITH THE SEED: the statements are not yours to turn. If you find one false, say at which input.
  Laid BY PROGRAM, IN A SANDBOX (cutbox-rows.mjs): the forced cells as the released guide's own fill.sh prints them over the translation 1489e25030d44473… (all of the seat's roots in one cut). By AI agents, Wed Nov 11 2026. No macro, syntax, notation, axiom, sorry.
-/
import Derived.Test.YtfbpbcaonlijnaaChecked
import GoSem.Claim
import GoSem.ClaimJoined
import GoSem.ClaimMapViews
import Derived.JoinedTies
import Derived.KernelRfl
namespace Go.Proofs.Ytfbpbcaonlijnaa
/- THE CELL 'sum', in the pinned program and in every row, IS THE sha256 OF THE DUMP (.gsa) THAT YtfbpbcaonlijnaaProg.lean LOADS. Nothing in Lean hashes anything: it is a label: what it is worth is what the hold of that sum in a sandbox is worth. -/
noncomputable def Try.pinned : Pinned := { name := "ytfbpbcaonlijnaa", sum := "1489e25030d44473d4f784c30553f267a9f3d7bf1a92fc7768f08e1d081adcae", checked := Try.checked }
namespace Rows
def none {H : Type} : Left H := { results := [], args := [] }

/-- 'salesroomlaw02.SumsStepped': WHATEVER THE INPUT: true; the input reads as it did. -/
def sumsSteppedSpec : ChangeSpec := { name := "sumsStepped", fn := fun _ => fun
  | [d1, d2] => { results := [.lit (.bool true)], args := [d1, d2] }
  | _ => none }
def sumsSteppedRow : OpenClaim := { program := "ytfbpbcaonlijnaa", sum := "1489e25030d44473d4f784c30553f267a9f3d7bf1a92fc7768f08e1d081adcae", func := "salesroom/salesroomlaw02.SumsStepped", spec := "sumsStepped", unfollowed := true, recurses := true, apart := false }
def SumsSteppedSaid : Prop := sumsSteppedRow.holds Try.pinned (OpenSpec.ofChange sumsSteppedSpec)

/-- ITS FALSE NEIGHBOUR: 'it returns false'. Refute it at one input. -/
def sumsSteppedWrong : ChangeSpec := { name := "sumsStepped", fn := fun _ => fun
  | [d1, d2] => { results := [.lit (.bool false)], args := [d1, d2] }
  | _ => none }
def SumsSteppedWrongFalsely : Prop := sumsSteppedRow.holds Try.pinned (OpenSpec.ofChange sumsSteppedWrong)

/-- 'salesroomlaw02.SumsBack': WHATEVER THE INPUT: true; the input reads as it did. -/
def sumsBackSpec : ChangeSpec := { name := "sumsBack", fn := fun _ => fun
  | [d1, d2] => { results := [.lit (.bool true)], args := [d1, d2] }
  | _ => none }
def sumsBackRow : OpenClaim := { program := "ytfbpbcaonlijnaa", sum := "1489e25030d44473d4f784c30553f267a9f3d7bf1a92fc7768f08e1d081adcae", func := "salesroom/salesroomlaw02.SumsBack", spec := "sumsBack", unfollowed := true, recurses := true, apart := false }
def SumsBackSaid : Prop := sumsBackRow.holds Try.pinned (OpenSpec.ofChange sumsBackSpec)

/-- ITS FALSE NEIGHBOUR: 'it returns false'. Refute it at one input. -/
def sumsBackWrong : ChangeSpec := { name := "sumsBack", fn := fun _ => fun
  | [d1, d2] => { results := [.lit (.bool false)], args := [d1, d2] }
  | _ => none }
def SumsBackWrongFalsely : Prop := sumsBackRow.holds Try.pinned (OpenSpec.ofChange sumsBackWrong)

/-- 'salesroomlaw02.SumsByte': WHATEVER THE INPUT: true; the input reads as it did. -/
def sumsByteSpec : ChangeSpec := { name := "sumsByte", fn := fun _ => fun
  | [d1, d2, d3] => { results := [.lit (.bool true)], args := [d1, d2, d3] }
  | _ => none }
def sumsByteRow : OpenClaim := { program := "ytfbpbcaonlijnaa", sum := "1489e25030d44473d4f784c30553f267a9f3d7bf1a92fc7768f08e1d081adcae", func := "salesroom/salesroomlaw02.SumsByte", spec := "sumsByte", unfollowed := true, recurses := true, apart := false }
def SumsByteSaid : Prop := sumsByteRow.holds Try.pinned (OpenSpec.ofChange sumsByteSpec)

/-- ITS FALSE NEIGHBOUR: 'it returns false'. Refute it at one input. -/
def sumsByteWrong : ChangeSpec := { name := "sumsByte", fn := fun _ => fun
  | [d1, d2, d3] => { results := [.lit (.bool false)], args := [d1, d2, d3] }
  | _ => none }
def SumsByteWrongFalsely : Prop := sumsByteRow.holds Try.pinned (OpenSpec.ofChange sumsByteWrong)

/-- 'salesroomlaw02.SumsLowest': WHATEVER THE INPUT: true; the input reads as it did. -/
def sumsLowestSpec : ChangeSpec := { name := "sumsLowest", fn := fun _ => fun
  | [d1, d2, d3] => { results := [.lit (.bool true)], args := [d1, d2, d3] }
  | _ => none }
def sumsLowestRow : OpenClaim := { program := "ytfbpbcaonlijnaa", sum := "1489e25030d44473d4f784c30553f267a9f3d7bf1a92fc7768f08e1d081adcae", func := "salesroom/salesroomlaw02.SumsLowest", spec := "sumsLowest", unfollowed := true, recurses := true, apart := false }
def SumsLowestSaid : Prop := sumsLowestRow.holds Try.pinned (OpenSpec.ofChange sumsLowestSpec)

/-- ITS FALSE NEIGHBOUR: 'it returns false'. Refute it at one input. -/
def sumsLowestWrong : ChangeSpec := { name := "sumsLowest", fn := fun _ => fun
  | [d1, d2, d3] => { results := [.lit (.bool false)], args := [d1, d2, d3] }
  | _ => none }
def SumsLowestWrongFalsely : Prop := sumsLowestRow.holds Try.pinned (OpenSpec.ofChange sumsLowestWrong)

/-- 'salesroomlaw02.SumsNought': WHATEVER THE INPUT: true; the input reads as it did. -/
def sumsNoughtSpec : ChangeSpec := { name := "sumsNought", fn := fun _ => fun
  | [d1, d2, d3] => { results := [.lit (.bool true)], args := [d1, d2, d3] }
  | _ => none }
def sumsNoughtRow : OpenClaim := { program := "ytfbpbcaonlijnaa", sum := "1489e25030d44473d4f784c30553f267a9f3d7bf1a92fc7768f08e1d081adcae", func := "salesroom/salesroomlaw02.SumsNought", spec := "sumsNought", unfollowed := true, recurses := true, apart := false }
def SumsNoughtSaid : Prop := sumsNoughtRow.holds Try.pinned (OpenSpec.ofChange sumsNoughtSpec)

/-- ITS FALSE NEIGHBOUR: 'it returns false'. Refute it at one input. -/
def sumsNoughtWrong : ChangeSpec := { name := "sumsNought", fn := fun _ => fun
  | [d1, d2, d3] => { results := [.lit (.bool false)], args := [d1, d2, d3] }
  | _ => none }
def SumsNoughtWrongFalsely : Prop := sumsNoughtRow.holds Try.pinned (OpenSpec.ofChange sumsNoughtWrong)

/- THE SECOND FORM. 'bulk': how many values and letters a reading holds, each counted each time it is reached (what is shared counts as often as it is met; a slice's spare places count too). A statement '..UptoSaid' is the law's where the arguments, and the package variables that the reading takes, are together of bulk at most 1048576: NARROWER than '..Said'. Prove '..Said' where nothing that the law and all that it calls make is longer than what came in: it says more and counts as full. Else prove '..UptoSaid'. A law counts once. -/
mutual
def uptoBulk {H : Type} : DataW H → Nat
  | .lit (.string bytes) => bytes.length + 1
  | .lit _ => 1
  | .nil => 1
  | .ptr d => uptoBulk d + 1
  | .slice elems spare => uptoBulkAll elems + uptoBulkAll spare + 1
  | .agg parts => uptoBulkAll parts + 1
  | .iface _ d => uptoBulk d + 1
  | .map entries => uptoBulkEntries entries + 1
  | .held _ => 1
def uptoBulkAll {H : Type} : List (DataW H) → Nat
  | [] => 0
  | d :: r => uptoBulk d + uptoBulkAll r
def uptoBulkEntries {H : Type} : List (Lit × DataW H) → Nat
  | [] => 0
  | x :: r => uptoBulkEntry x + uptoBulkEntries r
def uptoBulkEntry {H : Type} : Lit × DataW H → Nat
  | (.string bytes, d) => bytes.length + uptoBulk d + 1
  | (_, d) => uptoBulk d + 1
 end
def uptoSmall : (H : Type) → List (DataW H) → Bool := fun _ ds => decide (uptoBulkAll ds ≤ 1048576)
def OpenSpec.upto (s : _root_.Go.ChangeSpec) : _root_.Go.OpenSpec := { _root_.Go.OpenSpec.ofChange s with cond := some uptoSmall }

/-- 'salesroomlaw02.SumsStepped', WHERE WHAT IT READS IS OF BULK AT MOST 1048576: true; the input reads as it did. -/
def sumsSteppedUptoRow : OpenClaim := { program := "ytfbpbcaonlijnaa", sum := "1489e25030d44473d4f784c30553f267a9f3d7bf1a92fc7768f08e1d081adcae", func := "salesroom/salesroomlaw02.SumsStepped", spec := "sumsStepped", unfollowed := true, recurses := true, apart := false, narrowed := true }
def SumsSteppedUptoSaid : Prop := sumsSteppedUptoRow.holds Try.pinned (OpenSpec.upto sumsSteppedSpec)

/-- 'salesroomlaw02.SumsBack', WHERE WHAT IT READS IS OF BULK AT MOST 1048576: true; the input reads as it did. -/
def sumsBackUptoRow : OpenClaim := { program := "ytfbpbcaonlijnaa", sum := "1489e25030d44473d4f784c30553f267a9f3d7bf1a92fc7768f08e1d081adcae", func := "salesroom/salesroomlaw02.SumsBack", spec := "sumsBack", unfollowed := true, recurses := true, apart := false, narrowed := true }
def SumsBackUptoSaid : Prop := sumsBackUptoRow.holds Try.pinned (OpenSpec.upto sumsBackSpec)

/-- 'salesroomlaw02.SumsByte', WHERE WHAT IT READS IS OF BULK AT MOST 1048576: true; the input reads as it did. -/
def sumsByteUptoRow : OpenClaim := { program := "ytfbpbcaonlijnaa", sum := "1489e25030d44473d4f784c30553f267a9f3d7bf1a92fc7768f08e1d081adcae", func := "salesroom/salesroomlaw02.SumsByte", spec := "sumsByte", unfollowed := true, recurses := true, apart := false, narrowed := true }
def SumsByteUptoSaid : Prop := sumsByteUptoRow.holds Try.pinned (OpenSpec.upto sumsByteSpec)

/-- 'salesroomlaw02.SumsLowest', WHERE WHAT IT READS IS OF BULK AT MOST 1048576: true; the input reads as it did. -/
def sumsLowestUptoRow : OpenClaim := { program := "ytfbpbcaonlijnaa", sum := "1489e25030d44473d4f784c30553f267a9f3d7bf1a92fc7768f08e1d081adcae", func := "salesroom/salesroomlaw02.SumsLowest", spec := "sumsLowest", unfollowed := true, recurses := true, apart := false, narrowed := true }
def SumsLowestUptoSaid : Prop := sumsLowestUptoRow.holds Try.pinned (OpenSpec.upto sumsLowestSpec)

/-- 'salesroomlaw02.SumsNought', WHERE WHAT IT READS IS OF BULK AT MOST 1048576: true; the input reads as it did. -/
def sumsNoughtUptoRow : OpenClaim := { program := "ytfbpbcaonlijnaa", sum := "1489e25030d44473d4f784c30553f267a9f3d7bf1a92fc7768f08e1d081adcae", func := "salesroom/salesroomlaw02.SumsNought", spec := "sumsNought", unfollowed := true, recurses := true, apart := false, narrowed := true }
def SumsNoughtUptoSaid : Prop := sumsNoughtUptoRow.holds Try.pinned (OpenSpec.upto sumsNoughtSpec)

end Rows
end Go.Proofs.Ytfbpbcaonlijnaa
