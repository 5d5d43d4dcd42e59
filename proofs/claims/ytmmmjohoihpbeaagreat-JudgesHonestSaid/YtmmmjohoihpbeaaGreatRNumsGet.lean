/- The package nums: Get;conditions: those typed. -/
import Derived.Test.YtmmmjohoihpbeaaGreatRNumsG
import Derived.Test.YtmmmjohoihpbeaaGreatRGHeap
import Derived.RangeFuncWrites
namespace Go.Proofs.YtmmmjohoihpbeaaGreat
section
open Go.RowKit Go.Shelf
set_option linter.unusedVariables false
attribute [local go_sem] Oper.semAt_some
end
end Go.Proofs.YtmmmjohoihpbeaaGreat
