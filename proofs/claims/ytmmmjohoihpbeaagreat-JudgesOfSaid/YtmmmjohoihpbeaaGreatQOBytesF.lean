/- Strings of bytes,bytes.Clone,bytes.Equal: contracts of our own;conditions: those typed. -/
import Derived.Test.YtmmmjohoihpbeaaGreatQOGHeap
import Derived.Laws.BytesArg
import Derived.Laws.IdiomStrings
namespace Go.Proofs.YtmmmjohoihpbeaaGreat
open Go.RowKit
set_option linter.unusedVariables false
end Go.Proofs.YtmmmjohoihpbeaaGreat
