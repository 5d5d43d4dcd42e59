/- The library's slices.Clone,Clip,Equal at bytes;conditions: those typed. -/
import Derived.Test.YtmmmjohoihpbeaaGreatQOGHeap
import Derived.Laws.BytesArg
import Derived.Laws.IdiomStrings
namespace Go.Proofs.YtmmmjohoihpbeaaGreat
open Go.RowKit
set_option linter.unusedVariables false
/- The package nums: Put;conditions: those typed. -/
theorem owns_base {w:World} {B e sz n:Nat} {v:Value} {xs:List Value} (h:w.ownsRow B e sz v n xs):∀ j,v.ownBlock=some j→B≤j:=fun j hj=>by
 rcases h.2 with ⟨rfl,_⟩ | ⟨g,cap,cur,rfl,hb,_⟩
 · cases hj
 · cases hj;exact hb
end Go.Proofs.YtmmmjohoihpbeaaGreat
