/-
  No cell of these rows narrows 'for every input' (looked for: loops, veiled, ifaces, maps, wideKeys, modest, calm, conditions, laid).
  DERIVED. THE GIVEN ROWS OF THIS SEAT. 4 by the template 'for every input the law returns true; each argument reads behind the call as it read before'; 0 by the template 'total and deterministic' (their statements: YtolnhjjggjbckaaTotals.lean).
  GIVEN WITH THE SEED: the statements are not yours to turn. If you find one false, say at which input.
  Laid BY PROGRAM, IN A SANDBOX (cutbox-rows.mjs): the forced cells as the released guide's own fill.sh prints them over the translation 83f5dc6fc10d7119… (all of the seat's roots in one cut). By AI agents, Wed Nov 11 2026. No macro, syntax, notation, axiom, sorry.
-/
import Derived.Test.YtolnhjjggjbckaaChecked
import GoSem.Claim
import GoSem.ClaimJoined
import GoSem.ClaimMapViews
import Derived.JoinedTies
import Derived.KernelRfl
namespace Go.Proofs.Ytolnhjjggjbckaa
/- THE CELL 'sum', in the pinned program and in every row, IS THE sha256 OF THE DUMP (.gsa) THAT YtolnhjjggjbckaaProg.lean LOADS. Nothing in Lean hashes anything: it is a label: what it is worth is what the hold of that sum in a sandbox is worth. -/
noncomputable def Try.pinned : Pinned := { name := "ytolnhjjggjbckaa", sum := "83f5dc6fc10d7119a3922cab0ed9d3c4730505ae82252ba9f5e30458efcc55b8", checked := Try.checked }
namespace Rows
def none {H : Type} : Left H := { results := [], args := [] }

/-- 'salesroomlaw03.DisksNone': WHATEVER THE INPUT: true; the input reads as it did. -/
def disksNoneSpec : ChangeSpec := { name := "disksNone", fn := fun _ => fun
  | [d1, d2] => { results := [.lit (.bool true)], args := [d1, d2] }
  | _ => none }
def disksNoneRow : OpenClaim := { program := "ytolnhjjggjbckaa", sum := "83f5dc6fc10d7119a3922cab0ed9d3c4730505ae82252ba9f5e30458efcc55b8", func := "salesroom/salesroomlaw03.DisksNone", spec := "disksNone", unfollowed := true, recurses := true, apart := false }
def DisksNoneSaid : Prop := disksNoneRow.holds Try.pinned (OpenSpec.ofChange disksNoneSpec)

/-- ITS FALSE NEIGHBOUR: 'it returns false'. Refute it at one input. -/
def disksNoneWrong : ChangeSpec := { name := "disksNone", fn := fun _ => fun
  | [d1, d2] => { results := [.lit (.bool false)], args := [d1, d2] }
  | _ => none }
def DisksNoneWrongFalsely : Prop := disksNoneRow.holds Try.pinned (OpenSpec.ofChange disksNoneWrong)

/-- 'salesroomlaw03.DisksFirst': WHATEVER THE INPUT: true; the input reads as it did. -/
def disksFirstSpec : ChangeSpec := { name := "disksFirst", fn := fun _ => fun
  | [d1, d2] => { results := [.lit (.bool true)], args := [d1, d2] }
  | _ => none }
def disksFirstRow : OpenClaim := { program := "ytolnhjjggjbckaa", sum := "83f5dc6fc10d7119a3922cab0ed9d3c4730505ae82252ba9f5e30458efcc55b8", func := "salesroom/salesroomlaw03.DisksFirst", spec := "disksFirst", unfollowed := true, recurses := true, apart := false }
def DisksFirstSaid : Prop := disksFirstRow.holds Try.pinned (OpenSpec.ofChange disksFirstSpec)

/-- ITS FALSE NEIGHBOUR: 'it returns false'. Refute it at one input. -/
def disksFirstWrong : ChangeSpec := { name := "disksFirst", fn := fun _ => fun
  | [d1, d2] => { results := [.lit (.bool false)], args := [d1, d2] }
  | _ => none }
def DisksFirstWrongFalsely : Prop := disksFirstRow.holds Try.pinned (OpenSpec.ofChange disksFirstWrong)

/-- 'salesroomlaw03.DisksLast': WHATEVER THE INPUT: true; the input reads as it did. -/
def disksLastSpec : ChangeSpec := { name := "disksLast", fn := fun _ => fun
  | [d1, d2] => { results := [.lit (.bool true)], args := [d1, d2] }
  | _ => none }
def disksLastRow : OpenClaim := { program := "ytolnhjjggjbckaa", sum := "83f5dc6fc10d7119a3922cab0ed9d3c4730505ae82252ba9f5e30458efcc55b8", func := "salesroom/salesroomlaw03.DisksLast", spec := "disksLast", unfollowed := true, recurses := true, apart := false }
def DisksLastSaid : Prop := disksLastRow.holds Try.pinned (OpenSpec.ofChange disksLastSpec)

/-- ITS FALSE NEIGHBOUR: 'it returns false'. Refute it at one input. -/
def disksLastWrong : ChangeSpec := { name := "disksLast", fn := fun _ => fun
  | [d1, d2] => { results := [.lit (.bool false)], args := [d1, d2] }
  | _ => none }
def DisksLastWrongFalsely : Prop := disksLastRow.holds Try.pinned (OpenSpec.ofChange disksLastWrong)

/-- 'salesroomlaw03.DisksCopy': WHATEVER THE INPUT: true; the input reads as it did. -/
def disksCopySpec : ChangeSpec := { name := "disksCopy", fn := fun _ => fun
  | [d1, d2, d3] => { results := [.lit (.bool true)], args := [d1, d2, d3] }
  | _ => none }
def disksCopyRow : OpenClaim := { program := "ytolnhjjggjbckaa", sum := "83f5dc6fc10d7119a3922cab0ed9d3c4730505ae82252ba9f5e30458efcc55b8", func := "salesroom/salesroomlaw03.DisksCopy", spec := "disksCopy", unfollowed := true, recurses := true, apart := false }
def DisksCopySaid : Prop := disksCopyRow.holds Try.pinned (OpenSpec.ofChange disksCopySpec)

/-- ITS FALSE NEIGHBOUR: 'it returns false'. Refute it at one input. -/
def disksCopyWrong : ChangeSpec := { name := "disksCopy", fn := fun _ => fun
  | [d1, d2, d3] => { results := [.lit (.bool false)], args := [d1, d2, d3] }
  | _ => none }
def DisksCopyWrongFalsely : Prop := disksCopyRow.holds Try.pinned (OpenSpec.ofChange disksCopyWrong)

/- THE SECOND FORM. 'bulk': how many values and letters a reading holds, each counted each time it is reached (what is shared counts as often as it is met; a slice's spare places count too). A statement '..UptoSaid' is the law's where the arguments, and the package variables that the reading takes, are together of bulk at most 1048576: NARROWER than '..Said'. Prove '..Said' where nothing that the law and all that it calls make is longer than what came in: it says more and counts as full. Else prove '..UptoSaid'. A law counts once. -/
mutual
def uptoBulk {H : Type} : DataW H → Nat
  | .lit (.string bytes) => bytes.length + 1
  | .lit _ => 1
  | .nil => 1
  | .ptr d => uptoBulk d + 1
  | .slice elems spare => uptoBulkAll elems + uptoBulkAll spare + 1
  | .agg parts => uptoBulkAll parts + 1
  | .iface _ d => uptoBulk d + 1
  | .map entries => uptoBulkEntries entries + 1
  | .held _ => 1
def uptoBulkAll {H : Type} : List (DataW H) → Nat
  | [] => 0
  | d :: r => uptoBulk d + uptoBulkAll r
def uptoBulkEntries {H : Type} : List (Lit × DataW H) → Nat
  | [] => 0
  | x :: r => uptoBulkEntry x + uptoBulkEntries r
def uptoBulkEntry {H : Type} : Lit × DataW H → Nat
  | (.string bytes, d) => bytes.length + uptoBulk d + 1
  | (_, d) => uptoBulk d + 1
 end
def uptoSmall : (H : Type) → List (DataW H) → Bool := fun _ ds => decide (uptoBulkAll ds ≤ 1048576)
def OpenSpec.upto (s : _root_.Go.ChangeSpec) : _root_.Go.OpenSpec := { _root_.Go.OpenSpec.ofChange s with cond := some uptoSmall }

/-- 'salesroomlaw03.DisksNone', WHERE WHAT IT READS IS OF BULK AT MOST 1048576: true; the input reads as it did. -/
def disksNoneUptoRow : OpenClaim := { program := "ytolnhjjggjbckaa", sum := "83f5dc6fc10d7119a3922cab0ed9d3c4730505ae82252ba9f5e30458efcc55b8", func := "salesroom/salesroomlaw03.DisksNone", spec := "disksNone", unfollowed := true, recurses := true, apart := false, narrowed := true }
def DisksNoneUptoSaid : Prop := disksNoneUptoRow.holds Try.pinned (OpenSpec.upto disksNoneSpec)

/-- 'salesroomlaw03.DisksFirst', WHERE WHAT IT READS IS OF BULK AT MOST 1048576: true; the input reads as it did. -/
def disksFirstUptoRow : OpenClaim := { program := "ytolnhjjggjbckaa", sum := "83f5dc6fc10d7119a3922cab0ed9d3c4730505ae82252ba9f5e30458efcc55b8", func := "salesroom/salesroomlaw03.DisksFirst", spec := "disksFirst", unfollowed := true, recurses := true, apart := false, narrowed := true }
def DisksFirstUptoSaid : Prop := disksFirstUptoRow.holds Try.pinned (OpenSpec.upto disksFirstSpec)

/-- 'salesroomlaw03.DisksLast', WHERE WHAT IT READS IS OF BULK AT MOST 1048576: true; the input reads as it did. -/
def disksLastUptoRow : OpenClaim := { program := "ytolnhjjggjbckaa", sum := "83f5dc6fc10d7119a3922cab0ed9d3c4730505ae82252ba9f5e30458efcc55b8", func := "salesroom/salesroomlaw03.DisksLast", spec := "disksLast", unfollowed := true, recurses := true, apart := false, narrowed := true }
def DisksLastUptoSaid : Prop := disksLastUptoRow.holds Try.pinned (OpenSpec.upto disksLastSpec)

/-- 'salesroomlaw03.DisksCopy', WHERE WHAT IT READS IS OF BULK AT MOST 1048576: true; the input reads as it did. -/
def disksCopyUptoRow : OpenClaim := { program := "ytolnhjjggjbckaa", sum := "83f5dc6fc10d7119a3922cab0ed9d3c4730505ae82252ba9f5e30458efcc55b8", func := "salesroom/salesroomlaw03.DisksCopy", spec := "disksCopy", unfollowed := true, recurses := true, apart := false, narrowed := true }
def DisksCopyUptoSaid : Prop := disksCopyUptoRow.holds Try.pinned (OpenSpec.upto disksCopySpec)

end Rows
end Go.Proofs.Ytolnhjjggjbckaa
