/- Opening the arguments of a call: lemmas of our own;no condition. -/
import Derived.Test.YtmmmjohoihpbeaaGreatQOGIntsLeftI
import Derived.Deep.Fields
import Derived.Lib.SmallJoins
namespace Go.Proofs.YtmmmjohoihpbeaaGreat
section
open Go.ChangeShapes Go.WideShapes Go.ChangeAt Go.RowKit Go.Deep
set_option linter.unusedVariables false
set_option maxRecDepth 100000
theorem own:ownKnob Tryz.prog.godebug=none:=by kernel_rfl
theorem laidOut:laidOutB Tryz.prog=true:=by kernel_rfl
theorem u8_nat {x:Int} (h:(Lit.int .u8 x).wf=true):∃ n:Nat,x=n∧n<256:=by
 simp [Lit.wf,IntKind.min,IntKind.max,IntKind.signed,IntKind.bits] at h
 exact ⟨x.toNat,by omega,by omega⟩
theorem i64_bounds {x:Int} (h:(Lit.int .i64 x).wf=true):-9223372036854775808≤x∧x≤9223372036854775807:=by
 simp [Lit.wf,IntKind.min,IntKind.max,IntKind.signed,IntKind.bits] at h
 omega
section
variable {H:Type} {enc:TypeId × Value→H} {W:World} {base:Nat} {held:Bool}
end
end
end Go.Proofs.YtmmmjohoihpbeaaGreat
