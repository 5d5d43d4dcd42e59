/- A value of one cell is stored into a variable: a law of our own;no program in sight. -/
import Derived.Test.YtmmmjohoihpbeaaGreatQOGHeap
import Derived.Great.BuildSlice
namespace Go.Proofs.YtmmmjohoihpbeaaGreat
open Go.RowKit
set_option linter.unusedVariables false
end Go.Proofs.YtmmmjohoihpbeaaGreat
