/- Lists of ints in memory: lemmas of our own;conditions: those typed. -/
import Derived.Test.YtmmmjohoihpbeaaGreatRGBase
import Derived.Laws.OwnMore
namespace Go.Proofs.YtmmmjohoihpbeaaGreat
section
open Go.RowKit
set_option linter.unusedVariables false
theorem infoInt:(Tryz.prog.info? 3).map (fun i=>(i.zero,i.size,i.bytes))=some (some (.int .i64 0),1,8):=by kernel_rfl
def icells (l:List Int):List Value:=l.map (Value.int .i64)
theorem icells_append (a b:List Int):icells (a ++ b)=icells a ++ icells b:=List.map_append
theorem icells_get (l:List Int) (i:Nat) (h:i<l.length):(icells l)[i]?=some (.int .i64 l[i]):=by simp [icells,h]
def IsI (w:World) (a:Option Addr) (n c:Nat) (l:List Int):Prop :=
 n=l.length∧l.length≤c∧c≤maxLen∧((l=[]∧(a=none→c=0))∨∃ b off,a=some ⟨b,off,none⟩∧b<w.heap.size∧∀ i (h:i<l.length),w.cell? ⟨b,off+i,none⟩=some (.int .i64 l[i]))
theorem IsI.nil (w:World):IsI w none 0 0 []:=⟨rfl,Nat.le_refl _,by decide,.inl ⟨rfl,fun _=>rfl⟩⟩
theorem IsI.below {w w':World} {a:Option Addr} {n c:Nat} {l:List Int} (h:IsI w a n c l) (hb:Below w.heap.size w w'):IsI w' a n c l:=by
 obtain ⟨h1,h2,h3,h4 | ⟨b,off,rfl,hlt,hc⟩⟩:=h
 · exact ⟨h1,h2,h3,.inl h4⟩
 · exact ⟨h1,h2,h3,.inr ⟨b,off,rfl,Nat.lt_of_lt_of_le hlt hb.size,fun i hi=>(hb.cell (p:=⟨b,off+i,none⟩) hlt).trans (hc i hi)⟩⟩
theorem isI_of_owns {w:World} {base e n:Nat} {a:Option Addr} {m c:Nat} {l:List Int} (h:w.ownsRow base e 1 (.slice a m c) n (icells l)) (hn:n=l.length):IsI w a m c l:=by
 have hl:=h.1
 rcases h.2 with ⟨hv,h0⟩ | ⟨g,cap,cur,hv,hb,hg,hnc,hcm,hcs,htk⟩
 · cases hv
   have:l=[]:=List.eq_nil_of_length_eq_zero (by omega)
   subst this
   exact ⟨rfl,Nat.le_refl _,by decide,.inl ⟨rfl,fun _=>rfl⟩⟩
 · cases hv
   refine ⟨hn,by omega,hcm,.inr ⟨g,0,rfl,?_,fun i hi => ?_⟩⟩
   · exact (h.lt g rfl).2
   · rw [Nat.zero_add]
     exact cells_of_owns h i _ (icells_get l i hi)
theorem owns_icell {w:World} {base e g n c:Nat} {L:List Int} (h:w.ownsRow base e 1 (.slice (some ⟨g,0,none⟩) n c) n (icells L)) (j:Nat) (hj:j<L.length):w.cell? ⟨g,j,none⟩=some (.int .i64 L[j]) :=
 cells_of_owns h j _ (icells_get L j hj)
theorem IsI.fresh (w:World) (l:List Int) (C:Array Value) (e:TypeId) (fz:Nat × Nat) (hC:C=(l.map fun b=>Value.int .i64 b).toArray) (n c:Nat) (hn:n=l.length) (hc:c=l.length) (hm:l.length≤maxLen) :
   IsI (w.alloc (.cells C e fz)) (some ⟨w.heap.size,0,none⟩) n c l:=by
 subst hC
 refine ⟨hn,by omega,by omega,.inr ⟨_,_,rfl,by simp,fun i h => ?_⟩⟩
 rw [cell_of_block (heap_new w _)]
 simp [h]
/- The statements helper SameInts;conditions: those typed. -/
open Go.RowKit
set_option linter.unusedVariables false
/- The statements' helper TwinInts;no condition but those typed. -/
open Go.RowKit Go.ChangeShapes Go.WideShapes Go.ChangeAt
set_option linter.unusedVariables false
end
end Go.Proofs.YtmmmjohoihpbeaaGreat
