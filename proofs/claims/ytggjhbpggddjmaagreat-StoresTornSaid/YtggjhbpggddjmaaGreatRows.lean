/-
  No cell of these rows narrows 'for every input' (looked for: loops, veiled, ifaces, maps, wideKeys, modest, calm, conditions, laid).
  DERIVED. THE GIVEN ROWS OF THIS SEAT. 6 by the template 'for every input the law returns true; each argument reads behind the call as it read before'; 0 by the template 'total and deterministic' (their statements: YtggjhbpggddjmaaGreatTotals.lean).
  GIVEN WITH THE SEED: the statements are not yours to turn. If you find one false, say at which input.
  Laid BY PROGRAM, IN A SANDBOX (cutbox-rows.mjs): the forced cells as the released guide's own fill.sh prints them over the translation 973f4921a3ac8c9a… (all of the seat's roots in one cut). By AI agents, Wed Nov 11 2026. No macro, syntax, notation, axiom, sorry.
-/
import Derived.Test.YtggjhbpggddjmaaGreatChecked
import GoSem.Claim
import GoSem.ClaimJoined
import GoSem.ClaimMapViews
import Derived.JoinedTies
import Derived.KernelRfl
namespace Go.Proofs.YtggjhbpggddjmaaGreat
/- THE CELL 'sum', in the pinned program and in every row, IS THE sha256 OF THE DUMP (.gsa) THAT YtggjhbpggddjmaaGreatProg.lean LOADS. Nothing in Lean hashes anything: it is a label: what it is worth is what the hold of that sum in a sandbox is worth. -/
noncomputable def Tryz.pinned : Pinned := { name := "ytggjhbpggddjmaagreat", sum := "973f4921a3ac8c9aab4378e5342eb7f05c9af57655259e1a5a6c0bb794298963", checked := Tryz.checked }
namespace Rows
def none {H : Type} : Left H := { results := [], args := [] }

/-- 'salesroomlaw20.StoresNext': WHATEVER THE INPUT: true; the input reads as it did. -/
def storesNextSpec : ChangeSpec := { name := "storesNext", fn := fun _ => fun
  | [d1, d2] => { results := [.lit (.bool true)], args := [d1, d2] }
  | _ => none }
def storesNextRow : OpenClaim := { program := "ytggjhbpggddjmaagreat", sum := "973f4921a3ac8c9aab4378e5342eb7f05c9af57655259e1a5a6c0bb794298963", func := "salesroom/salesroomlaw20.StoresNext", spec := "storesNext", unfollowed := true, recurses := true, apart := false }
def StoresNextSaid : Prop := storesNextRow.holds Tryz.pinned (OpenSpec.ofChange storesNextSpec)

/-- ITS FALSE NEIGHBOUR: 'it returns false'. Refute it at one input. -/
def storesNextWrong : ChangeSpec := { name := "storesNext", fn := fun _ => fun
  | [d1, d2] => { results := [.lit (.bool false)], args := [d1, d2] }
  | _ => none }
def StoresNextWrongFalsely : Prop := storesNextRow.holds Tryz.pinned (OpenSpec.ofChange storesNextWrong)

/-- 'salesroomlaw20.StoresOld': WHATEVER THE INPUT: true; the input reads as it did. -/
def storesOldSpec : ChangeSpec := { name := "storesOld", fn := fun _ => fun
  | [d] => { results := [.lit (.bool true)], args := [d] }
  | _ => none }
def storesOldRow : OpenClaim := { program := "ytggjhbpggddjmaagreat", sum := "973f4921a3ac8c9aab4378e5342eb7f05c9af57655259e1a5a6c0bb794298963", func := "salesroom/salesroomlaw20.StoresOld", spec := "storesOld", unfollowed := true, recurses := true, apart := false }
def StoresOldSaid : Prop := storesOldRow.holds Tryz.pinned (OpenSpec.ofChange storesOldSpec)

/-- ITS FALSE NEIGHBOUR: 'it returns false'. Refute it at one input. -/
def storesOldWrong : ChangeSpec := { name := "storesOld", fn := fun _ => fun
  | [d] => { results := [.lit (.bool false)], args := [d] }
  | _ => none }
def StoresOldWrongFalsely : Prop := storesOldRow.holds Tryz.pinned (OpenSpec.ofChange storesOldWrong)

/-- 'salesroomlaw20.StoresTorn': WHATEVER THE INPUT: true; the input reads as it did. -/
def storesTornSpec : ChangeSpec := { name := "storesTorn", fn := fun _ => fun
  | [d] => { results := [.lit (.bool true)], args := [d] }
  | _ => none }
def storesTornRow : OpenClaim := { program := "ytggjhbpggddjmaagreat", sum := "973f4921a3ac8c9aab4378e5342eb7f05c9af57655259e1a5a6c0bb794298963", func := "salesroom/salesroomlaw20.StoresTorn", spec := "storesTorn", unfollowed := true, recurses := true, apart := false }
def StoresTornSaid : Prop := storesTornRow.holds Tryz.pinned (OpenSpec.ofChange storesTornSpec)

/-- ITS FALSE NEIGHBOUR: 'it returns false'. Refute it at one input. -/
def storesTornWrong : ChangeSpec := { name := "storesTorn", fn := fun _ => fun
  | [d] => { results := [.lit (.bool false)], args := [d] }
  | _ => none }
def StoresTornWrongFalsely : Prop := storesTornRow.holds Tryz.pinned (OpenSpec.ofChange storesTornWrong)

/-- 'salesroomlaw20.StoresMarket': WHATEVER THE INPUT: true; the input reads as it did. -/
def storesMarketSpec : ChangeSpec := { name := "storesMarket", fn := fun _ => fun
  | [d1, d2, d3] => { results := [.lit (.bool true)], args := [d1, d2, d3] }
  | _ => none }
def storesMarketRow : OpenClaim := { program := "ytggjhbpggddjmaagreat", sum := "973f4921a3ac8c9aab4378e5342eb7f05c9af57655259e1a5a6c0bb794298963", func := "salesroom/salesroomlaw20.StoresMarket", spec := "storesMarket", unfollowed := true, recurses := true, apart := false }
def StoresMarketSaid : Prop := storesMarketRow.holds Tryz.pinned (OpenSpec.ofChange storesMarketSpec)

/-- ITS FALSE NEIGHBOUR: 'it returns false'. Refute it at one input. -/
def storesMarketWrong : ChangeSpec := { name := "storesMarket", fn := fun _ => fun
  | [d1, d2, d3] => { results := [.lit (.bool false)], args := [d1, d2, d3] }
  | _ => none }
def StoresMarketWrongFalsely : Prop := storesMarketRow.holds Tryz.pinned (OpenSpec.ofChange storesMarketWrong)

/-- 'salesroomlaw20.StoresNone': WHATEVER THE INPUT: true; the input reads as it did. -/
def storesNoneSpec : ChangeSpec := { name := "storesNone", fn := fun _ => fun
  | [d] => { results := [.lit (.bool true)], args := [d] }
  | _ => none }
def storesNoneRow : OpenClaim := { program := "ytggjhbpggddjmaagreat", sum := "973f4921a3ac8c9aab4378e5342eb7f05c9af57655259e1a5a6c0bb794298963", func := "salesroom/salesroomlaw20.StoresNone", spec := "storesNone", unfollowed := true, recurses := true, apart := false }
def StoresNoneSaid : Prop := storesNoneRow.holds Tryz.pinned (OpenSpec.ofChange storesNoneSpec)

/-- ITS FALSE NEIGHBOUR: 'it returns false'. Refute it at one input. -/
def storesNoneWrong : ChangeSpec := { name := "storesNone", fn := fun _ => fun
  | [d] => { results := [.lit (.bool false)], args := [d] }
  | _ => none }
def StoresNoneWrongFalsely : Prop := storesNoneRow.holds Tryz.pinned (OpenSpec.ofChange storesNoneWrong)

/-- 'salesroomlaw20.StoresKept': WHATEVER THE INPUT: true; the input reads as it did. -/
def storesKeptSpec : ChangeSpec := { name := "storesKept", fn := fun _ => fun
  | [d1, d2] => { results := [.lit (.bool true)], args := [d1, d2] }
  | _ => none }
def storesKeptRow : OpenClaim := { program := "ytggjhbpggddjmaagreat", sum := "973f4921a3ac8c9aab4378e5342eb7f05c9af57655259e1a5a6c0bb794298963", func := "salesroom/salesroomlaw20.StoresKept", spec := "storesKept", unfollowed := true, recurses := true, apart := false }
def StoresKeptSaid : Prop := storesKeptRow.holds Tryz.pinned (OpenSpec.ofChange storesKeptSpec)

/-- ITS FALSE NEIGHBOUR: 'it returns false'. Refute it at one input. -/
def storesKeptWrong : ChangeSpec := { name := "storesKept", fn := fun _ => fun
  | [d1, d2] => { results := [.lit (.bool false)], args := [d1, d2] }
  | _ => none }
def StoresKeptWrongFalsely : Prop := storesKeptRow.holds Tryz.pinned (OpenSpec.ofChange storesKeptWrong)

/- THE SECOND FORM. 'bulk': how many values and letters a reading holds, each counted each time it is reached (what is shared counts as often as it is met; a slice's spare places count too). A statement '..UptoSaid' is the law's where the arguments, and the package variables that the reading takes, are together of bulk at most 1048576: NARROWER than '..Said'. Prove '..Said' where nothing that the law and all that it calls make is longer than what came in: it says more and counts as full. Else prove '..UptoSaid'. A law counts once. -/
mutual
def uptoBulk {H : Type} : DataW H → Nat
  | .lit (.string bytes) => bytes.length + 1
  | .lit _ => 1
  | .nil => 1
  | .ptr d => uptoBulk d + 1
  | .slice elems spare => uptoBulkAll elems + uptoBulkAll spare + 1
  | .agg parts => uptoBulkAll parts + 1
  | .iface _ d => uptoBulk d + 1
  | .map entries => uptoBulkEntries entries + 1
  | .held _ => 1
def uptoBulkAll {H : Type} : List (DataW H) → Nat
  | [] => 0
  | d :: r => uptoBulk d + uptoBulkAll r
def uptoBulkEntries {H : Type} : List (Lit × DataW H) → Nat
  | [] => 0
  | x :: r => uptoBulkEntry x + uptoBulkEntries r
def uptoBulkEntry {H : Type} : Lit × DataW H → Nat
  | (.string bytes, d) => bytes.length + uptoBulk d + 1
  | (_, d) => uptoBulk d + 1
 end
def uptoSmall : (H : Type) → List (DataW H) → Bool := fun _ ds => decide (uptoBulkAll ds ≤ 1048576)
def OpenSpec.upto (s : _root_.Go.ChangeSpec) : _root_.Go.OpenSpec := { _root_.Go.OpenSpec.ofChange s with cond := some uptoSmall }

/-- 'salesroomlaw20.StoresNext', WHERE WHAT IT READS IS OF BULK AT MOST 1048576: true; the input reads as it did. -/
def storesNextUptoRow : OpenClaim := { program := "ytggjhbpggddjmaagreat", sum := "973f4921a3ac8c9aab4378e5342eb7f05c9af57655259e1a5a6c0bb794298963", func := "salesroom/salesroomlaw20.StoresNext", spec := "storesNext", unfollowed := true, recurses := true, apart := false, narrowed := true }
def StoresNextUptoSaid : Prop := storesNextUptoRow.holds Tryz.pinned (OpenSpec.upto storesNextSpec)

/-- 'salesroomlaw20.StoresOld', WHERE WHAT IT READS IS OF BULK AT MOST 1048576: true; the input reads as it did. -/
def storesOldUptoRow : OpenClaim := { program := "ytggjhbpggddjmaagreat", sum := "973f4921a3ac8c9aab4378e5342eb7f05c9af57655259e1a5a6c0bb794298963", func := "salesroom/salesroomlaw20.StoresOld", spec := "storesOld", unfollowed := true, recurses := true, apart := false, narrowed := true }
def StoresOldUptoSaid : Prop := storesOldUptoRow.holds Tryz.pinned (OpenSpec.upto storesOldSpec)

/-- 'salesroomlaw20.StoresTorn', WHERE WHAT IT READS IS OF BULK AT MOST 1048576: true; the input reads as it did. -/
def storesTornUptoRow : OpenClaim := { program := "ytggjhbpggddjmaagreat", sum := "973f4921a3ac8c9aab4378e5342eb7f05c9af57655259e1a5a6c0bb794298963", func := "salesroom/salesroomlaw20.StoresTorn", spec := "storesTorn", unfollowed := true, recurses := true, apart := false, narrowed := true }
def StoresTornUptoSaid : Prop := storesTornUptoRow.holds Tryz.pinned (OpenSpec.upto storesTornSpec)

/-- 'salesroomlaw20.StoresMarket', WHERE WHAT IT READS IS OF BULK AT MOST 1048576: true; the input reads as it did. -/
def storesMarketUptoRow : OpenClaim := { program := "ytggjhbpggddjmaagreat", sum := "973f4921a3ac8c9aab4378e5342eb7f05c9af57655259e1a5a6c0bb794298963", func := "salesroom/salesroomlaw20.StoresMarket", spec := "storesMarket", unfollowed := true, recurses := true, apart := false, narrowed := true }
def StoresMarketUptoSaid : Prop := storesMarketUptoRow.holds Tryz.pinned (OpenSpec.upto storesMarketSpec)

/-- 'salesroomlaw20.StoresNone', WHERE WHAT IT READS IS OF BULK AT MOST 1048576: true; the input reads as it did. -/
def storesNoneUptoRow : OpenClaim := { program := "ytggjhbpggddjmaagreat", sum := "973f4921a3ac8c9aab4378e5342eb7f05c9af57655259e1a5a6c0bb794298963", func := "salesroom/salesroomlaw20.StoresNone", spec := "storesNone", unfollowed := true, recurses := true, apart := false, narrowed := true }
def StoresNoneUptoSaid : Prop := storesNoneUptoRow.holds Tryz.pinned (OpenSpec.upto storesNoneSpec)

/-- 'salesroomlaw20.StoresKept', WHERE WHAT IT READS IS OF BULK AT MOST 1048576: true; the input reads as it did. -/
def storesKeptUptoRow : OpenClaim := { program := "ytggjhbpggddjmaagreat", sum := "973f4921a3ac8c9aab4378e5342eb7f05c9af57655259e1a5a6c0bb794298963", func := "salesroom/salesroomlaw20.StoresKept", spec := "storesKept", unfollowed := true, recurses := true, apart := false, narrowed := true }
def StoresKeptUptoSaid : Prop := storesKeptUptoRow.holds Tryz.pinned (OpenSpec.upto storesKeptSpec)

end Rows
end Go.Proofs.YtggjhbpggddjmaaGreat
