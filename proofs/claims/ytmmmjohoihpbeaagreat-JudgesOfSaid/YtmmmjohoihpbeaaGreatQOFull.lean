/- Bytes behind a slice of bytes that is full: laws of our own;conditions: those typed. -/
import Derived.Test.YtmmmjohoihpbeaaGreatQOGHeap
import Derived.Test.YtmmmjohoihpbeaaGreatQOGSlotsRGSlotsGetGSlotsLaw2
import Derived.ArgAppend
import Derived.Deep.MidRow
import Derived.Lib.AppendZerosOnto
namespace Go.Proofs.YtmmmjohoihpbeaaGreat
open Go.RowKit
set_option linter.unusedVariables false
set_option linter.unusedSimpArgs false
end Go.Proofs.YtmmmjohoihpbeaaGreat
