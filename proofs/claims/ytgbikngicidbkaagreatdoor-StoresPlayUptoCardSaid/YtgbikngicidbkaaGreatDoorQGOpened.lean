/- Opening what a call is handed,with its sizes: lemmas of our own;no condition. -/
import Derived.Test.YtgbikngicidbkaaGreatDoorQOpen
import Derived.Test.YtgbikngicidbkaaGreatDoorQGHeapBFz
import Derived.Deep.Slices
namespace Go.Proofs.YtgbikngicidbkaaGreatDoor
section
open Go.ChangeShapes Go.WideShapes Go.ChangeAt Go.RowKit Go.Deep
set_option linter.unusedVariables false
set_option maxRecDepth 100000
section
variable {H:Type} {P:Program}
variable {w:World} {t e:TypeId} {cs:List Value}
theorem take_choose {α:Type} [Inhabited α] (m:Nat) (p:Nat→α→Prop) (h:∀ i,i<m→∃ x,p i x):∃ L:List α,L.length=m∧∀ i (hi:i<L.length),p i L[i]:=by
 induction m with
 | zero=>exact ⟨[],rfl,fun i hi=>by simp at hi⟩
 | succ m ih =>
   obtain ⟨L,hL,hp⟩:=ih fun i hi=>h i (by omega)
   obtain ⟨x,hx⟩:=h m (by omega)
   refine ⟨L ++ [x],by simp [hL],fun i hi => ?_⟩
   by_cases him:i<L.length
   · rw [List.getElem_append_left him];exact hp i him
   · have:i=L.length:=by simp at hi;omega
     subst this
     simp [hL];exact hx
end
/- From a contract on what a call is handed,with its sizes,to a statement: lemmas of our own;no condition. -/
open Go.ChangeShapes Go.WideShapes Go.ChangeAt Go.RowKit Go.Deep
set_option linter.unusedVariables false
set_option maxRecDepth 100000
section
variable {P:Program} {w:World} {t e:TypeId} {cs:List Value} {r:Reach} {b0:Nat} {v:Value}
end
end
end Go.Proofs.YtgbikngicidbkaaGreatDoor
