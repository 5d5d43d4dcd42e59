/- Strings of bytes,bytes.Clone,bytes.Equal: contracts of our own;conditions: those typed. -/
import Derived.Test.YtgbikngicidbkaaGreatDoorQGHeapBFz
import Derived.Laws.BytesArg
import Derived.Laws.IdiomStrings
namespace Go.Proofs.YtgbikngicidbkaaGreatDoor
open Go.RowKit
set_option linter.unusedVariables false
end Go.Proofs.YtgbikngicidbkaaGreatDoor
