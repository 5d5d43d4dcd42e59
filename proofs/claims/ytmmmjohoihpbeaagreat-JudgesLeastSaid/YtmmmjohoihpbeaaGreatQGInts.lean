/- Lists of ints in memory: lemmas of our own;conditions: those typed. -/
import Derived.Test.YtmmmjohoihpbeaaGreatQGBase
import Derived.Laws.OwnMore
namespace Go.Proofs.YtmmmjohoihpbeaaGreat
section
open Go.RowKit
set_option linter.unusedVariables false
theorem infoInt:(Tryz.prog.info? 3).map (fun i=>(i.zero,i.size,i.bytes))=some (some (.int .i64 0),1,8):=by kernel_rfl
def icells (l:List Int):List Value:=l.map (Value.int .i64)
theorem icells_append (a b:List Int):icells (a ++ b)=icells a ++ icells b:=List.map_append
theorem icells_get (l:List Int) (i:Nat) (h:i<l.length):(icells l)[i]?=some (.int .i64 l[i]):=by simp [icells,h]
def IsI (w:World) (a:Option Addr) (n c:Nat) (l:List Int):Prop :=
 n=l.length∧l.length≤c∧c≤maxLen∧((l=[]∧(a=none→c=0))∨∃ b off,a=some ⟨b,off,none⟩∧b<w.heap.size∧∀ i (h:i<l.length),w.cell? ⟨b,off+i,none⟩=some (.int .i64 l[i]))
theorem IsI.nil (w:World):IsI w none 0 0 []:=⟨rfl,Nat.le_refl _,by decide,.inl ⟨rfl,fun _=>rfl⟩⟩
theorem IsI.below {w w':World} {a:Option Addr} {n c:Nat} {l:List Int} (h:IsI w a n c l) (hb:Below w.heap.size w w'):IsI w' a n c l:=by
 obtain ⟨h1,h2,h3,h4 | ⟨b,off,rfl,hlt,hc⟩⟩:=h
 · exact ⟨h1,h2,h3,.inl h4⟩
 · exact ⟨h1,h2,h3,.inr ⟨b,off,rfl,Nat.lt_of_lt_of_le hlt hb.size,fun i hi=>(hb.cell (p:=⟨b,off+i,none⟩) hlt).trans (hc i hi)⟩⟩
theorem isI_of_owns {w:World} {base e n:Nat} {a:Option Addr} {m c:Nat} {l:List Int} (h:w.ownsRow base e 1 (.slice a m c) n (icells l)) (hn:n=l.length):IsI w a m c l:=by
 have hl:=h.1
 rcases h.2 with ⟨hv,h0⟩ | ⟨g,cap,cur,hv,hb,hg,hnc,hcm,hcs,htk⟩
 · cases hv
   have:l=[]:=List.eq_nil_of_length_eq_zero (by omega)
   subst this
   exact ⟨rfl,Nat.le_refl _,by decide,.inl ⟨rfl,fun _=>rfl⟩⟩
 · cases hv
   refine ⟨hn,by omega,hcm,.inr ⟨g,0,rfl,?_,fun i hi => ?_⟩⟩
   · exact (h.lt g rfl).2
   · rw [Nat.zero_add]
     exact cells_of_owns h i _ (icells_get l i hi)
theorem owns_icell {w:World} {base e g n c:Nat} {L:List Int} (h:w.ownsRow base e 1 (.slice (some ⟨g,0,none⟩) n c) n (icells L)) (j:Nat) (hj:j<L.length):w.cell? ⟨g,j,none⟩=some (.int .i64 L[j]) :=
 cells_of_owns h j _ (icells_get L j hj)
theorem IsI.fresh (w:World) (l:List Int) (C:Array Value) (e:TypeId) (fz:Nat × Nat) (hC:C=(l.map fun b=>Value.int .i64 b).toArray) (n c:Nat) (hn:n=l.length) (hc:c=l.length) (hm:l.length≤maxLen) :
   IsI (w.alloc (.cells C e fz)) (some ⟨w.heap.size,0,none⟩) n c l:=by
 subst hC
 refine ⟨hn,by omega,by omega,.inr ⟨_,_,rfl,by simp,fun i h => ?_⟩⟩
 rw [cell_of_block (heap_new w _)]
 simp [h]
/- The statements helper SameInts;conditions: those typed. -/
open Go.RowKit
set_option linter.unusedVariables false
set_option maxHeartbeats 1000000 in
theorem same_some (a b ao bo c d:Nat) (l m:List Int) (w:World) (hlen:l.length≤9223372036854775807) (hlm:l.length=m.length)
   (hl:∀ i (h:i<l.length),w.cell? ⟨a,ao+i,none⟩=some (.int .i64 l[i])) (hm:∀ i (h:i<m.length),w.cell? ⟨b,bo+i,none⟩=some (.int .i64 m[i])) :
   Calls Tryz.prog 21 #[.slice (some ⟨a,ao,none⟩) l.length c,.slice (some ⟨b,bo,none⟩) l.length d] w fun e w' => e=.returned (.bool (decide (l=m)))∧∃ j,w'=w.drewN j:=by
 go_enter Tryz.func21,Tryz.ntmps21
 go_wp2
 go_loopw [5] (fun i wr => ∃ k j:Nat,k≤l.length∧i=.int .i64 k∧wr=w.drewN j∧l.take k=m.take k) (fun i _=>l.length - (intOf i).toNat)
 case atStart=>exact ⟨0,0,Nat.zero_le _,rfl,rfl,rfl⟩
 case round =>
   obtain ⟨k,j,hk,rfl,rfl,hs⟩:=hrel
   have HS:=Lib.hid hs
   clear hs
   have HLM:=Lib.hid hlm
   clear hlm
   by_cases hlt:k<l.length
   · have hkm:k<m.length:=by rw [← HLM.out];exact hlt
     have h1:=hl k hlt
     have h2:=hm k hkm
     clear hl hm
     by_cases he:l[k]=m[k]
     · have HE:=Lib.hid he
       have hn:(l[k] != m[k])=false:=by rw [he];simp
       clear he
       go_wp2
       go_quiet (fail)
       go_wp2
       go_roundw
       case rel=>exact ⟨k+1,_,by omega,by go_num,rfl,by rw [List.take_succ_eq_append_getElem hlt,List.take_succ_eq_append_getElem hkm,HS.out,HE.out]⟩
       case measure=>simp [intOf];omega
     · have HE:=Lib.hid he
       have hn:(l[k] != m[k])=true:=by rw [bne_iff_ne];exact he
       clear he
       go_wp2
       go_quiet (fail)
       go_wp2
       go_ret
       refine ⟨?_,j+nq,by simp⟩
       have hne:decide (l=m)=false:=decide_eq_false (fun h=>HE.out (by subst h;rfl))
       rw [hne];rfl
   · have hkk:k=l.length:=by omega
     subst hkk
     clear hl hm
     have hlm':l=m:=by
       have h:=HS.out
       rw [List.take_length,HLM.out,List.take_length] at h
       exact h
     have HQ:=Lib.hid hlm'
     clear hlm'
     go_wp2
     go_ret
     refine ⟨?_,_,rfl⟩
     rw [decide_eq_true HQ.out];rfl
theorem same_apart (a b:Option Addr) (n m c d:Nat) (w:World) (hnm:n≠m) :
   Calls Tryz.prog 21 #[.slice a n c,.slice b m d] w fun e w' => e=.returned (.bool false)∧∃ j,w'=w.drewN j:=by
 have hne:((n:Int) != (m:Int))=true:=by rw [bne_iff_ne];omega
 go_enter Tryz.func21,Tryz.ntmps21
 go_wp2
 go_ret
 exact ⟨rfl,0,rfl⟩
theorem same_nil (a b:Option Addr) (c d:Nat) (w:World) :
   Calls Tryz.prog 21 #[.slice a 0 c,.slice b 0 d] w fun e w' => e=.returned (.bool true)∧∃ j,w'=w.drewN j:=by
 go_enter Tryz.func21,Tryz.ntmps21
 go_wp2
 go_loop [5] (fun i=>i=.int .i64 0) (fun _=>0)
 case atStart=>rfl
 case round =>
   obtain rfl:=hrel
   go_wp2
   go_ret
   exact ⟨rfl,0,rfl⟩
theorem same_any (a b:Option Addr) (n m c d:Nat) (l k:List Int) (w:World) (hl:IsI w a n c l) (hk:IsI w b m d k) :
   Calls Tryz.prog 21 #[.slice a n c,.slice b m d] w fun e w' => e=.returned (.bool (decide (l=k)))∧∃ j,w'=w.drewN j:=by
 by_cases hnm:n=m
 · obtain ⟨rfl,h1,h2,h3⟩:=hl
   obtain ⟨rfl,k1,k2,k3⟩:=hk
   rcases h3 with ⟨rfl,_⟩ | ⟨b1,o1,rfl,hb1,hc1⟩
   · obtain rfl:k=[]:=List.eq_nil_of_length_eq_zero hnm.symm
     exact same_nil a b c d w
   · rcases k3 with ⟨rfl,_⟩ | ⟨b2,o2,rfl,hb2,hc2⟩
     · obtain rfl:l=[]:=List.eq_nil_of_length_eq_zero hnm
       exact same_nil _ b c d w
     · rw [← hnm]
       exact same_some b1 b2 o1 o2 c d l k w (by unfold maxLen at h2;omega) hnm hc1 hc2
 · have hne:decide (l=k)=false:=decide_eq_false (fun h=>hnm (by rw [hl.1,hk.1,h]))
   rw [hne]
   exact same_apart a b n m c d w hnm
/- The statements' helper TwinInts;no condition but those typed. -/
open Go.RowKit Go.ChangeShapes Go.WideShapes Go.ChangeAt
set_option linter.unusedVariables false
end
end Go.Proofs.YtmmmjohoihpbeaaGreat
