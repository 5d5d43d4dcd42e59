/- The package nums: Get;conditions: those typed. -/
import Derived.Test.YtmmmjohoihpbeaaGreatQONumsG
import Derived.Test.YtmmmjohoihpbeaaGreatQOGHeap
import Derived.RangeFuncWrites
namespace Go.Proofs.YtmmmjohoihpbeaaGreat
section
open Go.RowKit Go.Shelf
set_option linter.unusedVariables false
attribute [local go_sem] Oper.semAt_some
end
end Go.Proofs.YtmmmjohoihpbeaaGreat
