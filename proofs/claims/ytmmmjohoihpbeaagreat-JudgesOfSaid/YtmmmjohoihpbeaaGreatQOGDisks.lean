/- The package disks: what its functions do to a disk in memory;conditions: those typed. -/
import Derived.Test.YtmmmjohoihpbeaaGreatQOGHeap
import Derived.Deep.RegionHeld3
namespace Go.Proofs.YtmmmjohoihpbeaaGreat
open Go.RowKit
set_option linter.unusedVariables false
def zsec:List UInt8:=List.replicate 64 0
def z64:List Value:=bcells zsec
/- disks: Write;conditions: those typed. -/
/- disks: Write,where it is let be;conditions: those typed. -/
/- disks: Write for every input,and Copy;conditions: those typed. -/
/- disks: what its functions answer where there is no disk;conditions: those typed. -/
end Go.Proofs.YtmmmjohoihpbeaaGreat
