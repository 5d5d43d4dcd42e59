/- A config,lists of bytes,ints in memory,by a property of their blocks;conditions: those typed. -/
import Derived.Test.YtmmmjohoihpbeaaGreatQOGStNGStN2
import Derived.Test.YtmmmjohoihpbeaaGreatQOStV
import Derived.Test.YtmmmjohoihpbeaaGreatQOGSlotsRGSlotsGetGSlotsLaw2
import Derived.Test.YtmmmjohoihpbeaaGreatQOGOpened
import Derived.Deep.RegionHeld3
namespace Go.Proofs.YtmmmjohoihpbeaaGreat
section
open Go.RowKit
set_option linter.unusedVariables false
set_option linter.unusedSimpArgs false
def IsIp (w:World) (P:Nat→Prop) (a:Option Addr) (n c:Nat) (l:List Int):Prop:=IsI w a n c l∧∀ b off,a=some ⟨b,off,none⟩→l≠[]→P b
theorem IsIp.touch {S P:Nat→Prop} {w w':World} {a:Option Addr} {n c:Nat} {l:List Int} (h:IsIp w P a n c l) (ht:Touch S w w') (hs:∀ k,P k→¬ S k):IsIp w' P a n c l :=
 ⟨h.1.touch ht (fun b off ha hl=>hs b (h.2 b off ha hl)),h.2⟩
theorem IsIp.below {P:Nat→Prop} {w w':World} {a:Option Addr} {n c:Nat} {l:List Int} (h:IsIp w P a n c l) (hb:Below w.heap.size w w'):IsIp w' P a n c l:=⟨h.1.below hb,h.2⟩
theorem IsI.ltSize {w:World} {a:Option Addr} {n c:Nat} {l:List Int} (h:IsI w a n c l):∀ b off,a=some ⟨b,off,none⟩→l≠[]→b<w.heap.size:=by
 intro b off ha hl
 rcases h.2.2.2 with ⟨h0,_⟩ | ⟨b',off',h0,hlt,_⟩
 · exact absurd h0 hl
 · rw [ha] at h0;cases h0;exact hlt
/- The package stores: may;conditions: those typed. -/
open Go.RowKit
set_option linter.unusedVariables false
set_option linter.unusedSimpArgs false
/- Opening the arguments of layer 20's statements;no condition. -/
open Go.ChangeShapes Go.WideShapes Go.ChangeAt Go.RowKit Go.Deep
set_option linter.unusedVariables false
set_option maxRecDepth 100000
/- Opening the argument of StoresNone;no condition. -/
open Go.ChangeShapes Go.WideShapes Go.ChangeAt Go.RowKit Go.Deep
set_option linter.unusedVariables false
set_option maxRecDepth 100000
end
section
open Go.RowKit
variable {P:Nat→Prop}
set_option linter.unusedVariables false
set_option linter.unusedSimpArgs false
theorem touch_set (w:World) (bx off:Nat) (v:Value):Touch (fun j=>j=bx) w (w.setCell ⟨bx,off,none⟩ v):=Touch.setCell (Touch.refl (fun j=>j=bx) w) ⟨bx,off,none⟩ _ (.inl rfl)
/- The package stores: a store in memory;small contracts;conditions: those typed. -/
open Go.RowKit
set_option linter.unusedVariables false
set_option linter.unusedSimpArgs false
/- The package stores: fits;conditions: those typed. -/
open Go.RowKit
set_option linter.unusedVariables false
set_option linter.unusedSimpArgs false
end
section
open Go.ChangeShapes Go.WideShapes Go.ChangeAt Go.RowKit Go.Deep
set_option linter.unusedVariables false
set_option maxRecDepth 100000
section
variable {P:Program} {w:World} {t e:TypeId} {cs:List Value}
def IsRows {X:Type} (cx:X→List Value) (m:Nat) (w:World) (a:Option Addr) (n c:Nat) (L:List X):Prop :=
 n=L.length∧n≤c∧c≤maxLen∧(L=[]∨∃ b off,a=some ⟨b,off,none⟩∧b<w.heap.size∧∀ i (hi:i<L.length) j v,(cx L[i])[j]?=some v→w.cell? ⟨b,off+i*m+j,none⟩=some v)
theorem IsRows.below {X:Type} {cx:X→List Value} {m:Nat} {w w':World} {a:Option Addr} {n c:Nat} {L:List X} (h:IsRows cx m w a n c L) (hb:Below w.heap.size w w'):IsRows cx m w' a n c L:=by
 obtain ⟨h1,h2,h3,h4 | ⟨b,off,rfl,hlt,hc⟩⟩:=h
 · exact ⟨h1,h2,h3,.inl h4⟩
 · exact ⟨h1,h2,h3,.inr ⟨b,off,rfl,Nat.lt_of_lt_of_le hlt hb.size,fun i hi j v hj=>(hb.cell (p:=⟨b,off+i*m+j,none⟩) hlt).trans (hc i hi j v hj)⟩⟩
theorem Opened.rows {X:Type} [Inhabited X] (cx:X→List Value) (R:X→Prop) (m:Nat) (hm:P.cellsOf e=m) (hm0:0<m) (h:Opened P w t cs) (ht:P.underlying t=some (.slice e)) (hx:∀ cs',Opened P w e cs'→∃ x,cs'=cx x∧R x) :
   ∃ a n c L,cs=[.slice a n c]∧IsRows cx m w a n c L∧(∀ x ∈ L,R x)∧L.length*P.bytesOf e≤reachBytes:=by
 rcases h.slice ht with rfl | ⟨a,len,cap,rfl,hl,hmx,hr,hxx⟩
 · exact ⟨none,0,0,[],rfl,⟨rfl,Nat.le_refl _,by decide,.inl rfl⟩,by simp,by simp⟩
 · by_cases h0:len=0
   · subst h0
     exact ⟨some a,0,cap,[],rfl,⟨rfl,Nat.zero_le _,hmx,.inl rfl⟩,by simp,by simp⟩
   obtain ⟨L,hll,hp⟩:=take_choose (α:=X) len (fun i x=>(∀ j v,(cx x)[j]?=some v→w.cell? ((a.add (i*m)).add j)=some v)∧(cx x).length=m∧R x) (fun i hi=>by
     obtain ⟨cs',h1,h2⟩:=hxx i (by omega)
     rw [hm] at h1
     obtain ⟨x,rfl,hR⟩:=hx cs' h2
     obtain ⟨_,hlen,hcell⟩:=World.cells?_some h1
     exact ⟨x,fun j v hj=>by
       have hjm:j<m:=by rw [← hlen];exact (List.getElem?_eq_some_iff.1 hj).1
       rw [hcell j hjm,hj],hlen,hR⟩)
   obtain ⟨q0,ql,_⟩:=hp 0 (by omega)
   have h00:=q0 0 _ (List.getElem?_eq_getElem (by rw [ql];exact hm0))
   rw [Nat.zero_mul,show (a.add 0).add 0=a by simp [Addr.add]] at h00
   obtain ⟨hsp,hlt⟩:=addr_of_cell h00
   obtain ⟨b,off,spot⟩:=a
   simp at hsp
   subst hsp
   refine ⟨_,_,_,L,rfl,⟨hll.symm,by omega,hmx,.inr ⟨b,off,rfl,hlt,fun i hi j v hj => ?_⟩⟩,fun x hx => ?_,?_⟩
   · have:=(hp i hi).1 j v hj
     rwa [addr_add,addr_add] at this
   · obtain ⟨i,hi,rfl⟩:=List.getElem_of_mem hx
     exact (hp i hi).2.2
   · rw [hll]
     exact Nat.le_trans (Nat.mul_le_mul_right _ hl) hr
end
structure RcV where
 sq:Nat
 st:Bool
 a:Option Addr
 n:Nat
 c:Nat
 l:List Int
instance : Inhabited RcV := ⟨⟨0, false, none, 0, 0, []⟩⟩
structure AcV where
 k:Nat
 who:Int
 r:RcV
 p:Nat
 oa:Option Addr
 on:Nat
 oc:Nat
 o:List Int
 n:Int
 at_:Int
 ba:Option Addr
 bn:Nat
 bc:Nat
 b:List UInt8
instance : Inhabited AcV := ⟨⟨0, 0, default, 0, none, 0, 0, [], 0, 0, none, 0, 0, []⟩⟩
end
end Go.Proofs.YtmmmjohoihpbeaaGreat
