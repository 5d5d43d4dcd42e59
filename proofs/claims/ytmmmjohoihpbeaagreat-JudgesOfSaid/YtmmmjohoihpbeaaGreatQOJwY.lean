/- Ranges over functions within a loop: the marks that they leave;the law at the plain walk;no program in sight;no condition but those typed. -/
import Derived.Test.YtmmmjohoihpbeaaGreatQOJwXJwK
import Derived.RangeFuncLeaves
namespace Go.Proofs.YtmmmjohoihpbeaaGreat
open Go.RowKit
set_option linter.unusedVariables false
def marks (ds:List Nat):List Deferred:=ds.map fun D=>{ target:=.collected D,args:=#[] }
structure MkD (B:Nat) (ds:List Nat) (W:World):Prop where
 nd:ds.Nodup
 at':∀ D ∈ ds,B≤D∧W.heap[D]?=some (.deferred (some []))
theorem MkD.nil (B:Nat) (W:World):MkD B [] W:=⟨List.nodup_nil,fun D h=>by cases h⟩
theorem MkD.keeps {B C:Nat} {ds:List Nat} {W W':World} (h:MkD B ds W) (hk:KeepsFrom C W W') (hc:C≤B):MkD B ds W' :=
 ⟨h.nd,fun D hD=>⟨(h.at' D hD).1,hk.same D _ (Nat.le_trans hc (h.at' D hD).1) (h.at' D hD).2 rfl⟩⟩
theorem MkD.below {B:Nat} {ds:List Nat} {W W':World} (h:MkD B ds W) (hk:Below W.heap.size W W'):MkD B ds W' :=
 ⟨h.nd,fun D hD=>⟨(h.at' D hD).1,below_heap hk (h.at' D hD).2 (lt_of_heap (h.at' D hD).2)⟩⟩
theorem MkD.lt {B:Nat} {ds:List Nat} {W:World} (h:MkD B ds W) (D:Nat) (hD:D ∈ ds):D<W.heap.size:=lt_of_heap (h.at' D hD).2
theorem MkD.cons {B C D:Nat} {ds:List Nat} {W:World} (h:MkD B ds W) (hD:W.heap[D]?=some (.deferred (some []))) (hB:B≤C) (hC:C≤D) (hlt:∀ x ∈ ds,x<C):MkD B (D :: ds) W :=
 ⟨List.nodup_cons.2 ⟨fun hm=>by have:=hlt D hm;omega,h.nd⟩,fun x hx=>by
   rcases List.mem_cons.1 hx with rfl | hx
   · exact ⟨Nat.le_trans hB hC,hD⟩
   · exact h.at' x hx⟩
theorem own_marks {β:Type} (B C:Nat) (ds:List Nat) (hlt:∀ D ∈ ds,D<C):OwnFrom (β:=β) C (fun _ W=>MkD B ds W):=fun s W W' row hs hg hr =>
 ⟨hs.nd,fun D hD=>⟨(hs.at' D hD).1,(hg.block D (lt_of_heap (hs.at' D hD).2) (fun e=>by have:=(hr D e.symm).1;have:=hlt D hD;omega)).trans (hs.at' D hD).2⟩⟩
theorem OwnFrom.mono {β:Type} {B C:Nat} {J:β→World→Prop} (h:OwnFrom B J) (hb:B≤C):OwnFrom C J:=fun s W W' row hs hg hr=>h s W W' row hs hg (fun r e=>⟨Nat.le_trans hb (hr r e).1,(hr r e).2⟩)
theorem own_pre {X:Type} {B:Nat} {J:List X→World→Prop} (h:OwnFrom B J) (pre:List X):OwnFrom B (fun q W=>J (pre ++ q) W):=fun s W W' row hs hg hr=>h _ W W' row hs hg hr
theorem leaves_marks {P:Program} {fn:Func} {tmps:Array Value} {R:Ending→World→Prop} {B:Nat} (K:World→Prop) (hK:∀ W l,K W→B≤l→W.heap[l]?=some (.deferred (some []))→K (W.putObj l (.deferred none)))
   (hend:∀ W,K W→∃ v,(results fn tmps).run P W=.ok v W∧R (.returned v) W):∀ (ds:List Nat) (W:World),MkD B ds W→K W→LeavesInM Fence.wide 0 P fn tmps R (marks ds) .returning W
 | [],W,_,h=>hend W h
 | D :: ds,W,hm,h=>by
   have hD:=hm.at' D List.mem_cons_self
   refine ⟨by simp,.inl ⟨D,_,rfl,run_takeDeferred hD.2,leaves_marks K hK hend ds _ ⟨(List.nodup_cons.1 hm.nd).2,fun x hx=>⟨(hm.at' x (List.mem_cons_of_mem _ hx)).1,?_⟩⟩ (hK W D h hD.1 hD.2)⟩⟩
   rw [World.putObj_heap_other (fun e=>(List.nodup_cons.1 hm.nd).1 (by rw [← e];exact hx))]
   exact (hm.at' x (List.mem_cons_of_mem _ hx)).2
theorem wp_rangeR {X:Type} {P:Program} {g:Operand} {ps:Array Tmp} {assign body:Code} {Q:Exit→Act→World→Prop} {a:Act} {w:World}
   {gf:Nat} {lb:Array Value} (hg:a.eval g=.func (.func gf) #[] lb) (eg:∀ args w,(callFunc gf args).run P w=.ok (.enter gf args) w)
   {encs:X→Array Value} {R:X→World→Prop} {S:List X→Prop} {w0:World} (hseq:SeqR P gf lb encs R S w0) (hb0:Below w0.heap.size w0 w) (hps:∀ x,(encs x).size=ps.size)
   (hR:∀ x W l o o',R x W→W.heap[l]?=some o→o.isCells=false→R x (W.putObj l o'))
   (I:List X→World→Prop) (Ix:Code→List X→World→Prop) (hI:OwnFrom w.heap.size I) (hIx:∀ c,OwnFrom w.heap.size (Ix c)) (h0:I [] w) (a₁:X→Act)
   (hassign:∀ (l:Nat) (x:X) (W:World) (K:Act→World→Prop),K (a₁ x) W →
     assign.wpIn (Fence.wide.inRound l) 0 P (Exit.then K (fun _ _ _=>False)) { tmps:=(ps.zip (encs x)).foldl (fun t (p,v)=>t.setIfInBounds p v) a.tmps,defers:=[] } W)
   (hbody:∀ (l:Nat) (pre:List X) (x:X) (W:World),w.heap.size≤W.heap.size→I pre W→R x W→body.wpIn (Fence.wide.inRound l) 0 P (endR w.heap.size I Ix (pre ++ [x]) W) (a₁ x) W)
   (hdone:∀ (D:Nat) (xs:List X) (W:World),w.heap.size≤D→S xs→I xs W→W.heap[D]?=some (.deferred (some []))→Q .normal { a with defers:={ target:=.collected D,args:=#[] } :: a.defers } W)
   (hstop:∀ (D:Nat) (c:Code) (pre:List X) (W:World),w.heap.size≤D→Ix c pre W→W.heap[D]?=some (.deferred (some []))→c.wp P Q { a with defers:={ target:=.collected D,args:=#[] } :: a.defers } W) :
   (Code.rangeFunc g ps assign body).wp P Q a w :=
 (wpIn_wide (n:=0)).1 (wpIn_rangeR hg eg hseq hb0 hps hR I Ix hI hIx h0 a₁ hassign hbody hdone (fun D c pre W h1 h2 h3=>wpIn_wide.2 (hstop D c pre W h1 h2 h3)))
theorem isI_put {w:World} {a:Option Addr} {n c:Nat} {l:List Int} {k:Nat} {o o':Obj} (h:IsI w a n c l) (hk:w.heap[k]?=some o) (ho:o.isCells=false):IsI (w.putObj k o') a n c l:=by
 obtain ⟨h1,h2,h3,h4 | ⟨b,off,rfl,hlt,hc⟩⟩:=h
 · exact ⟨h1,h2,h3,.inl h4⟩
 · refine ⟨h1,h2,h3,.inr ⟨b,off,rfl,by rw [World.putObj_size];exact hlt,fun i hi => ?_⟩⟩
   have hne:b≠k:=fun e=>by
     have:=hc i hi
     rw [e] at this
     simp only [World.cell?,hk] at this
     cases o <;> simp_all [Obj.isCells]
   rw [← hc i hi]
   simp only [World.cell?,World.putObj_heap_other hne]
end Go.Proofs.YtmmmjohoihpbeaaGreat
