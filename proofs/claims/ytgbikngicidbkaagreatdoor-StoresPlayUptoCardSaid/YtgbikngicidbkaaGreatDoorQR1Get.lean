/- The document's nums (salesroomref01): Get;conditions: those typed. -/
import Derived.Test.YtgbikngicidbkaaGreatDoorQNumsG
import Derived.Test.YtgbikngicidbkaaGreatDoorQGSlicesBR1Put
namespace Go.Proofs.YtgbikngicidbkaaGreatDoor
open Go.RowKit
set_option linter.unusedVariables false
set_option linter.unusedSimpArgs false
set_option maxRecDepth 100000
theorem numOf_cons (x:UInt8) (l:List UInt8):numOf (x :: l)=numOf l*256+x.toNat:=rfl
theorem numOf_drop (l:List UInt8) (j:Nat) (h:j<l.length):numOf (l.drop j)=numOf (l.drop (j+1))*256+l[j].toNat:=by
 rw [List.drop_eq_getElem_cons h,numOf_cons]
set_option maxHeartbeats 2000000 in
theorem rget_any (a:Option Addr) (m c k:Nat) (kI:Int) (l:List UInt8) (w:World) (hkI:kI=(k:Int)) (hl:IsB w a m c l) (hk1:1≤k) (hk8:k≤8) (hkl:k≤l.length) :
   Calls Tryz.prog 142 #[.slice a m c,.int .i64 kI] w fun e w' => e=.returned (.tuple #[.int .u64 (numOf (l.take k)),.int .i64 0])∧w=w':=by
 subst hkI
 obtain ⟨rfl,hc1,hc2,h3⟩:=hl
 rcases h3 with ⟨h3,_⟩ | ⟨b,off,rfl,hb,hc⟩
 · rw [h3] at hkl;simp at hkl;omega
 have hm:l.length≤9223372036854775807:=by unfold maxLen at hc2;omega
 have HC:=Lib.hid hc
 clear hc hc2 hb
 have d1:decide ((k:Int)<1)=false:=by simp;omega
 have d2:decide ((8:Int)<(k:Int))=false:=by simp;omega
 have d3:decide ((l.length:Int)<(k:Int))=false:=by simp;omega
 obtain ⟨L,hL⟩:∃ L,L=l.take k:=⟨_,rfl⟩
 have hLl:L.length=k:=by rw [hL];simp;omega
 have HLL:=Lib.hid hLl
 have HLg:Hid (∀ j (h:j<L.length),∃ h':j<l.length,L[j]=l[j]):=Lib.hid (fun j h=>⟨by omega,by subst hL;simp⟩)
 rw [← hL]
 clear hL hLl
 go_enter Tryz.func142,Tryz.ntmps142
 go_wp2_with fail
 go_loopw [7,6] (fun i s wr => ∃ j n:Nat,∃ x:Int,j≤k∧x=(j:Int) - 1∧i=.int .i64 x∧s=.int .u64 n∧Hid (n=numOf (L.drop j))∧wr=w) (fun i _ _=>(intOf i+1).toNat)
 case atStart=>exact ⟨k,0,_,Nat.le_refl _,rfl,rfl,rfl,Lib.hid (by rw [List.drop_eq_nil_of_le (by have:=HLL.out;omega)];rfl),rfl⟩
 case round =>
   obtain ⟨j,n,x,hj,hx,rfl,rfl,HN,rfl⟩:=hrel
   cases j with
   | zero =>
     obtain rfl:x = -1:=by omega
     have d0:decide ((0:Int)≤-1)=false:=rfl
     clear hx
     go_wp2_with fail
     go_ret2
     have:=HN.out
     rw [List.drop_zero] at this
     exact ⟨by rw [this];rfl,rfl⟩
   | succ j =>
     obtain rfl:x=(j:Int):=by omega
     clear hx
     have hjL:j<L.length:=by have:=HLL.out;omega
     obtain ⟨hjl,hge⟩:=HLg.out j hjL
     have c1:=HC.out j hjl
     have hn:n<72057594037927936:=by
       rw [HN.out]
       refine Nat.lt_of_lt_of_le (numOf_lt _) ?_
       rw [List.length_drop]
       have:L.length - (j+1)≤7:=by have:=HLL.out;omega
       exact Nat.le_trans (Nat.pow_le_pow_right (by decide) this) (by decide)
     have hu:=(l[j]).toNat_lt
     have hw:IntKind.u64.wrap ((n:Int)*256)=(n:Int)*256:=by rw [IntKind.wrap_u64];omega
     have hw2:IntKind.u64.wrap ((n:Int)*256+(l[j].toNat:Int))=(n:Int)*256+(l[j].toNat:Int):=by rw [IntKind.wrap_u64];omega
     go_wp2_with fail
     go_roundw
     case rel=>exact ⟨j,n*256+l[j].toNat,_,by omega,rfl,rfl,congrArg (Value.int .u64) (by omega),Lib.hid (by rw [numOf_drop L j hjL,← HN.out,hge]),trivial⟩
     case measure=>simp [intOf]
end Go.Proofs.YtgbikngicidbkaaGreatDoor
