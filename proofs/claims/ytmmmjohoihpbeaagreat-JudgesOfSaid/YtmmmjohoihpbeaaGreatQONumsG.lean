/- The package nums: Get,over the library's Backward;conditions: those typed. -/
import Derived.Test.YtmmmjohoihpbeaaGreatQOAppend
import Derived.RangeFuncBox
import Derived.RangeFuncLeaves
import Derived.Shelf.Abstract
import Derived.OwnWalkIn
import Derived.TacticsInMore
import Derived.LoopNIn
import Derived.LoopIn
import Derived.Laws.BitsAllLaws
namespace Go.Proofs.YtmmmjohoihpbeaaGreat
section
open Go.RowKit Go.Shelf
set_option linter.unusedVariables false
attribute [local go_sem] Oper.semAt_some
def bk (l:List UInt8) (k:Nat):List (Nat × UInt8):=(List.range k).map fun j=>(l.length - 1 - j,l.getD (l.length - 1 - j) 0)
def KB (n₀ Bs:Nat) (W W':World):Prop:=Below n₀ W W'∧∀ v,W.cell? ⟨Bs,0,none⟩=some v→W'.cell? ⟨Bs,0,none⟩=some v
theorem KB.t {n₀ Bs:Nat} {A B C:World} (h:KB n₀ Bs A B) (k:KB n₀ Bs B C):KB n₀ Bs A C:=⟨h.1.trans k.1,fun v hv=>k.2 v (h.2 v hv)⟩
theorem KB.b {n₀ Bs:Nat} {w:World} (hn:n₀≤w.heap.size) (hB:Bs<w.heap.size) (W:World) (l:Nat) (o o':Obj) (hl:w.heap.size≤l) (h:W.heap[l]?=some o) (h1:o.isCells=false) (h2:o.isWalk=false):KB n₀ Bs W (W.putObj l o') :=
 ⟨belowK_b hn W l o o' hl h h1 h2,fun v hv=>by
   rw [(belowK_b (n₀:=w.heap.size) (Nat.le_refl _) W l o o' hl h h1 h2).cell (p:=⟨Bs,0,none⟩) hB];exact hv⟩
end
end Go.Proofs.YtmmmjohoihpbeaaGreat
