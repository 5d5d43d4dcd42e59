/- Opening the arguments of a call: lemmas of our own;no condition. -/
import Derived.Test.YtgbikngicidbkaaGreatDoorQGIntsLeftI
import Derived.Deep.Fields
import Derived.Lib.SmallJoins
namespace Go.Proofs.YtgbikngicidbkaaGreatDoor
section
open Go.ChangeShapes Go.WideShapes Go.ChangeAt Go.RowKit Go.Deep
set_option linter.unusedVariables false
set_option maxRecDepth 100000
theorem own:ownKnob Tryz.prog.godebug=none:=by kernel_rfl
theorem laidOut:laidOutB Tryz.prog=true:=by kernel_rfl
theorem u8_nat {x:Int} (h:(Lit.int .u8 x).wf=true):∃ n:Nat,x=n∧n<256:=by
 simp [Lit.wf,IntKind.min,IntKind.max,IntKind.signed,IntKind.bits] at h
 exact ⟨x.toNat,by omega,by omega⟩
theorem u32_nat {x:Int} (h:(Lit.int .u32 x).wf=true):∃ n:Nat,x=n∧n<4294967296:=by
 simp [Lit.wf,IntKind.min,IntKind.max,IntKind.signed,IntKind.bits] at h
 exact ⟨x.toNat,by omega,by omega⟩
theorem u64_nat {x:Int} (h:(Lit.int .u64 x).wf=true):∃ n:Nat,x=n∧n<18446744073709551616:=by
 simp [Lit.wf,IntKind.min,IntKind.max,IntKind.signed,IntKind.bits] at h
 exact ⟨x.toNat,by omega,by omega⟩
theorem i64_bounds {x:Int} (h:(Lit.int .i64 x).wf=true):-9223372036854775808≤x∧x≤9223372036854775807:=by
 simp [Lit.wf,IntKind.min,IntKind.max,IntKind.signed,IntKind.bits] at h
 omega
theorem isI_of_ints {W:World} {a:Option Addr} {m c:Nat} (x:Addr) (zs:List Int) (ha:a=some x) (hl:m≤c) (hm:c≤maxLen) (hz:zs.length=c)
   (hcell:∀ i,i<zs.length→W.cell? (x.add i)=some (.int .i64 (zs.getD i 0))):IsI W a m c (zs.take m):=by
 subst ha
 by_cases h0:m=0
 · subst h0
   exact ⟨by simp,by simp,hm,.inl ⟨by simp,fun h=>by cases h⟩⟩
 obtain ⟨b,off,spot⟩:=x
 have hc0:=hcell 0 (by omega)
 have hspot:spot=none:=by simpa [Addr.add] using World.cell?_spot hc0
 subst hspot
 refine ⟨by simp;omega,by simp;omega,hm,.inr ⟨b,off,rfl,?_,fun i hi => ?_⟩⟩
 · have hb:=hc0
   simp only [Addr.add,World.cell?] at hb
   rcases Nat.lt_or_ge b W.heap.size with h | h
   · exact h
   · simp [Array.getElem?_eq_none h] at hb
 · have him:i<m:=by simp at hi;omega
   have:=hcell i (by omega)
   have hiz:i<zs.length:=by omega
   simp [hiz] at this
   by_cases hi0:i=0
   · subst hi0;simpa [Addr.add] using this
   · simpa [Addr.add,hi0] using this
section
variable {H:Type} {enc:TypeId × Value→H} {W:World} {base:Nat} {held:Bool}
end
end
end Go.Proofs.YtgbikngicidbkaaGreatDoor
