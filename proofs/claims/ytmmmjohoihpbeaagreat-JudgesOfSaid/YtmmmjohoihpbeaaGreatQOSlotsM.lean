/- The package slots: the mark of a record;conditions: those typed. -/
import Derived.Test.YtmmmjohoihpbeaaGreatQOGSlicesB
import Derived.Test.YtmmmjohoihpbeaaGreatQOGBase
import Derived.Deep.RegionHeld3
namespace Go.Proofs.YtmmmjohoihpbeaaGreat
open Go.RowKit
set_option linter.unusedVariables false
end Go.Proofs.YtmmmjohoihpbeaaGreat
