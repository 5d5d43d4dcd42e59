/- A range over a function whose rounds are handed memory that was made on the way: a contract for iterators,and a law for the statement,of our own;no program in sight;no condition but those typed. -/
import Derived.Test.YtmmmjohoihpbeaaGreatQOUp
import Derived.RangeFuncWrites
namespace Go.Proofs.YtmmmjohoihpbeaaGreat
open Go.RowKit
set_option linter.unusedVariables false
def SeqR {X:Type} (P:Program) (g:Nat) (lb:Array Value) (encs:X→Array Value) (R:X→World→Prop) (S:List X→Prop) (w:World):Prop :=
 ∀ (l:Nat) (J Jx:List X→World→Prop) (W:World),Below w.heap.size w W→l<W.heap.size→OwnFrom W.heap.size J→OwnFrom W.heap.size Jx →
   (∀ pre x W1,W.heap.size≤W1.heap.size→J pre W1→R x W1→YieldAt Fence.wide 0 P l (encs x) W1 fun e W' =>
     (e=.returned (.bool true)∧J (pre ++ [x]) W'∧Below W1.heap.size W1 W')∨(e=.returned (.bool false)∧Jx (pre ++ [x]) W'∧KeepsFrom (l+1) W1 W')) →
   J [] W→CallsIn Fence.wide 0 P g (#[.func (.yield l) #[] #[]] ++ lb) W fun e W' => (∃ v,e=.returned v)∧((∃ xs,S xs∧J xs W')∨∃ pre,Jx pre W')
def endR {X:Type} (B:Nat) (I:List X→World→Prop) (Ix:Code→List X→World→Prop) (xs:List X) (W:World):Exit→Act→World→Prop
 | .normal,_,W' => Below W.heap.size W W'∧I xs W'
 | .ret,_,W' => KeepsFrom B W W'∧Ix .ret xs W'
 | .exit id,_,W' => KeepsFrom B W W'∧Ix (.exit id) xs W'
 | .goto t,_,W' => KeepsFrom B W W'∧Ix (.goto t) xs W'
 | .panic _,_,_=>False
 | .outgrown,_,_=>False
theorem below_turned {W W3:World} {l:Nat} {o o':Obj} (hl:W.heap[l]?=some o) (h:Below (W.putObj l o').heap.size (W.putObj l o') W3):Below W.heap.size W (W3.putObj l o):=by
 have hlt:=lt_of_heap hl
 refine ⟨h.os,h.tape,h.output,by rw [World.putObj_size];have:=h.size;rwa [World.putObj_size] at this,fun k hk => ?_⟩
 by_cases e:k=l
 · subst e
   rw [hl]
   exact World.putObj_heap_same (by have:=h.size;rw [World.putObj_size] at this;omega)
 · rw [World.putObj_heap_other e,h.block k (by rw [World.putObj_size];exact hk),World.putObj_heap_other e]
theorem keeps_put {B l:Nat} (W:World) (o:Obj) (h:l<B):KeepsFrom B W (W.putObj l o) :=
 ⟨by rw [World.putObj_size];exact Nat.le_refl _,fun k o' hk h1 _=>by rw [World.putObj_heap_other (by omega)];exact h1⟩
theorem keeps_mono {B C:Nat} {W W':World} (h:KeepsFrom B W W') (hb:B≤C):KeepsFrom C W W':=⟨h.size,fun k o hk=>h.same k o (Nat.le_trans hb hk)⟩
theorem below_keeps {B:Nat} {W W':World} (h:Below W.heap.size W W'):KeepsFrom B W W':=⟨h.size,fun k o _ hk _=>below_heap h hk (lt_of_heap hk)⟩
theorem wpIn_rangeR {X:Type} {P:Program} {g:Operand} {ps:Array Tmp} {assign body:Code} {Q:Exit→Act→World→Prop} {a:Act} {w:World}
   {gf:Nat} {lb:Array Value} (hg:a.eval g=.func (.func gf) #[] lb) (eg:∀ args w,(callFunc gf args).run P w=.ok (.enter gf args) w)
   {encs:X→Array Value} {R:X→World→Prop} {S:List X→Prop} {w0:World} (hseq:SeqR P gf lb encs R S w0) (hb0:Below w0.heap.size w0 w) (hps:∀ x,(encs x).size=ps.size)
   (hR:∀ x W l o o',R x W→W.heap[l]?=some o→o.isCells=false→R x (W.putObj l o'))
   (I:List X→World→Prop) (Ix:Code→List X→World→Prop) (hI:OwnFrom w.heap.size I) (hIx:∀ c,OwnFrom w.heap.size (Ix c)) (h0:I [] w) (a₁:X→Act)
   (hassign:∀ (l:Nat) (x:X) (W:World) (K:Act→World→Prop),K (a₁ x) W →
     assign.wpIn (Fence.wide.inRound l) 0 P (Exit.then K (fun _ _ _=>False)) { tmps:=(ps.zip (encs x)).foldl (fun t (p,v)=>t.setIfInBounds p v) a.tmps,defers:=[] } W)
   (hbody:∀ (l:Nat) (pre:List X) (x:X) (W:World),w.heap.size≤W.heap.size→I pre W→R x W→body.wpIn (Fence.wide.inRound l) 0 P (endR w.heap.size I Ix (pre ++ [x]) W) (a₁ x) W)
   (hdone:∀ (D:Nat) (xs:List X) (W:World),w.heap.size≤D→S xs→I xs W→W.heap[D]?=some (.deferred (some []))→Q .normal { a with defers:={ target:=.collected D,args:=#[] } :: a.defers } W)
   (hstop:∀ (D:Nat) (c:Code) (pre:List X) (W:World),w.heap.size≤D→Ix c pre W→W.heap[D]?=some (.deferred (some []))→c.wpIn Fence.wide 0 P Q { a with defers:={ target:=.collected D,args:=#[] } :: a.defers } W) :
   (Code.rangeFunc g ps assign body).wpIn Fence.wide 0 P Q a w:=by
 refine wpIn_rangeFunc fun fn hfn => ?_
 obtain ⟨rec,hrec⟩:∃ rec:LoopState→Option Code→Loop,rec=fun st pe=>{ state:=st,pending:=pe,fn,tmps:=a.tmps,params:=ps,assign,body,defers:=w.heap.size }:=⟨_,rfl⟩
 have hst:∀ st pe,(rec st pe).state=st:=fun st pe=>by rw [hrec]
 have hpe:∀ st pe,(rec st pe).pending=pe:=fun st pe=>by rw [hrec]
 have hex:Below w.heap.size w ((w.alloc (.deferred (some []))).alloc (.loop (rec .ready none))):=((Below.refl _ w).alloc (Nat.le_refl _) _).alloc (by simp) _
 have hr1:((w.alloc (.deferred (some []))).alloc (.loop (rec .ready none))).heap[w.heap.size+1]?=some (.loop (rec .ready none)):=by
   have:=heap_new (w.alloc (.deferred (some []))) (.loop (rec .ready none))
   rwa [World.size_alloc] at this
 have hd1:((w.alloc (.deferred (some []))).alloc (.loop (rec .ready none))).heap[w.heap.size]?=some (.deferred (some [])) :=
   (Below.heap_alloc _ _ _ (by simp)).trans (heap_new w _)
 have hi1:I [] ((w.alloc (.deferred (some []))).alloc (.loop (rec .ready none))):=hI.alloc _ (hI.alloc _ h0)
 refine ⟨w.heap.size+1,[{ target:=.collected w.heap.size,args:=#[] }],(w.alloc (.deferred (some []))).alloc (.loop (rec .ready none)),{ target:=.fn (.func gf) lb,args:=#[.func (.yield (w.heap.size+1)) #[] #[]] },(w.alloc (.deferred (some []))).alloc (.loop (rec .ready none)),gf,
   #[.func (.yield (w.heap.size+1)) #[] #[]] ++ lb,(w.alloc (.deferred (some []))).alloc (.loop (rec .ready none)),?_,?_,?_,?_,?_,?_⟩
 · rw [hrec];exact run_enterLoop_outer _ _ _ _ _
 · simp only [resolve,hg]
   simp [go_sem]
 · intro f' hf';trivial
 · simp [invoke,go_sem,eg]
 · intro h;cases h
 generalize (w.alloc (.deferred (some []))).alloc (.loop (rec .ready none))=W1 at hex hr1 hd1 hi1 ⊢
 have hl1:w.heap.size+1<W1.heap.size:=lt_of_heap hr1
 have own2:∀ {K:List X→World→Prop},OwnFrom w.heap.size K→∀ st pe,OwnFrom W1.heap.size (fun pre W=>K pre W∧W.heap[w.heap.size+1]?=some (.loop (rec st pe))∧W.heap[w.heap.size]?=some (.deferred (some []))):=fun hK st pe s A B row hs hgr hr =>
   ⟨hK s A B row hs.1 hgr (fun r e=>⟨by have:=(hr r e).1;omega,(hr r e).2⟩),
     (hgr.block _ (lt_of_heap hs.2.1) (fun e=>by have:=(hr _ e.symm).1;omega)).trans hs.2.1,(hgr.block _ (lt_of_heap hs.2.2) (fun e=>by have:=(hr _ e.symm).1;omega)).trans hs.2.2⟩
 refine (hseq (w.heap.size+1) (fun pre W=>I pre W∧W.heap[w.heap.size+1]?=some (.loop (rec .ready none))∧W.heap[w.heap.size]?=some (.deferred (some [])))
   (fun pre W => ∃ c,Ix c pre W∧W.heap[w.heap.size+1]?=some (.loop (rec .done (some c)))∧W.heap[w.heap.size]?=some (.deferred (some []))) W1 (hb0.trans (hex.mono hb0.size)) hl1 (own2 hI _ _)
   (fun s A B row hs hgr hr=>by obtain ⟨c,hc⟩:=hs;exact ⟨c,own2 (hIx c) _ _ s A B row hc hgr hr⟩) ?_ ⟨hi1,hr1,hd1⟩).mono ?_
 · -- one round
   rintro pre x W hsz ⟨hi,hl,hd⟩ hx
   have hlt:w.heap.size+1<W.heap.size:=lt_of_heap hl
   have hy:=run_yield (P:=P) (args:=encs x) hl (by rw [hrec];exact hps x)
   rw [show (rec .ready none).fn=fn by rw [hrec],show (rec .ready none).params=ps by rw [hrec],show (rec .ready none).tmps=a.tmps by rw [hrec],show (rec .ready none).assign=assign by rw [hrec],show (rec .ready none).body=body by rw [hrec]] at hy
   refine ⟨fn,_,assign,body,hy,roundIn_of_wpIn hfn (hassign _ x W _ ⟨_,run_beginRound hl (hst _ _),?_⟩)⟩
   have hbusy:({ rec .ready none with state:=.busy }:Loop)=rec .busy none:=by rw [hrec]
   rw [hbusy]
   have hl2:(W.putObj (w.heap.size+1) (.loop (rec .busy none))).heap[w.heap.size+1]?=some (.loop (rec .busy none)):=World.putObj_heap_same hlt
   have hd2:(W.putObj (w.heap.size+1) (.loop (rec .busy none))).heap[w.heap.size]?=some (.deferred (some [])):=(World.putObj_heap_other (by omega)).trans hd
   refine wpIn_mono (hbody _ pre x _ (by rw [World.putObj_size];omega) (hI.putObj _ hi (by omega) hl rfl) (hR x W _ _ _ hx hl rfl)) ?_
   have fin:∀ (c:Code) (W3:World),KeepsFrom w.heap.size (W.putObj (w.heap.size+1) (.loop (rec .busy none))) W3→Ix c (pre ++ [x]) W3 →
       ∃ v w',(Instr.endRound (w.heap.size+1) (some c)).run P W3=.ok v w'∧((Ending.returned v=.returned (.bool true)∧(I (pre ++ [x]) w'∧w'.heap[w.heap.size+1]?=some (.loop (rec .ready none))∧w'.heap[w.heap.size]?=some (.deferred (some [])))∧Below W.heap.size W w') ∨
         (Ending.returned v=.returned (.bool false)∧(∃ c,Ix c (pre ++ [x]) w'∧w'.heap[w.heap.size+1]?=some (.loop (rec .done (some c)))∧w'.heap[w.heap.size]?=some (.deferred (some [])))∧KeepsFrom (w.heap.size+1+1) W w')):=fun c W3 hk hix=>by
     have hl3:=hk.same _ _ (by omega) hl2 rfl
     have hd3:=hk.same _ _ (Nat.le_refl _) hd2 rfl
     have hrun:=run_endRound (P:=P) (some c) hl3
     have he:({ rec .busy none with state:=if (some c).isNone then .ready else .done,pending:=some c }:Loop)=rec .done (some c):=by rw [hrec];rfl
     rw [he] at hrun
     refine ⟨_,_,hrun,.inr ⟨rfl,⟨c,(hIx c).putObj _ hix (by omega) hl3 rfl,World.putObj_heap_same (lt_of_heap hl3),(World.putObj_heap_other (by omega)).trans hd3⟩,?_⟩⟩
     exact ((keeps_put W _ (Nat.lt_succ_self _)).trans (keeps_mono hk (by omega))).trans (keeps_put W3 _ (Nat.lt_succ_self _))
   rintro e a3 W3 hp
   cases e with
   | normal =>
     obtain ⟨hk,hi3⟩:=hp
     have hl3:=below_heap hk hl2 (lt_of_heap hl2)
     have hd3:=below_heap hk hd2 (lt_of_heap hd2)
     have hrun:=run_endRound (P:=P) none hl3
     have he:({ rec .busy none with state:=if (none:Option Code).isNone then .ready else .done,pending:=none }:Loop)=rec .ready none:=by rw [hrec];rfl
     rw [he] at hrun
     exact ⟨_,_,hrun,.inl ⟨rfl,⟨hI.putObj _ hi3 (by omega) hl3 rfl,World.putObj_heap_same (lt_of_heap hl3),(World.putObj_heap_other (by omega)).trans hd3⟩,below_turned hl hk⟩⟩
   | ret=>exact fin _ W3 hp.1 hp.2
   | exit id=>exact fin _ W3 hp.1 hp.2
   | goto t=>exact fin _ W3 hp.1 hp.2
   | panic ch=>exact hp.elim
   | outgrown=>exact hp.elim
 · -- behind it
   rintro e W2 ⟨⟨v,rfl⟩,⟨xs,hS,hi,hl,hd⟩ | ⟨pre,c,hi,hl,hd⟩⟩
   · have hrun:=run_endLoop (P:=P) hl (by rw [hst];simp)
     rw [hpe] at hrun
     exact ⟨none,_,hrun,hdone _ xs _ (Nat.le_refl _) hS (hI.putObj _ hi (by omega) hl rfl) ((World.putObj_heap_other (by omega)).trans hd)⟩
   · have hrun:=run_endLoop (P:=P) hl (by rw [hst];simp)
     rw [hpe] at hrun
     exact ⟨some c,_,hrun,hstop _ c pre _ (Nat.le_refl _) ((hIx c).putObj _ hi (by omega) hl rfl) ((World.putObj_heap_other (by omega)).trans hd)⟩
def SeqK {X:Type} (P:Program) (g:Nat) (lb:Array Value) (encs:X→Array Value) (R:X→World→Prop) (K:World→World→Prop) (S:List X→Prop) (w:World):Prop :=
 ∀ (l:Nat) (J:List X→World→Prop) (Jx:List X→World→Prop) (W:World),Below w.heap.size w W→l<W.heap.size→OwnFrom W.heap.size J→OwnFrom W.heap.size Jx →
   (∀ pre x W1,W.heap.size≤W1.heap.size→J pre W1→R x W1→YieldAt Fence.wide 0 P l (encs x) W1 fun e W' =>
     (e=.returned (.bool true)∧J (pre ++ [x]) W'∧K W1 W')∨(e=.returned (.bool false)∧Jx (pre ++ [x]) W'∧KeepsFrom (l+1) W1 W')) →
   J [] W→CallsIn Fence.wide 0 P g (#[.func (.yield l) #[] #[]] ++ lb) W fun e W' => (∃ v,e=.returned v)∧((∃ xs,S xs∧J xs W')∨∃ pre,Jx pre W')
def endK {X:Type} (B:Nat) (K:World→World→Prop) (I:List X→World→Prop) (Ix:Code→List X→World→Prop) (xs:List X) (W:World):Exit→Act→World→Prop
 | .normal,_,W' => K W W'∧I xs W'
 | .ret,_,W' => KeepsFrom B W W'∧Ix .ret xs W'
 | .exit id,_,W' => KeepsFrom B W W'∧Ix (.exit id) xs W'
 | .goto t,_,W' => KeepsFrom B W W'∧Ix (.goto t) xs W'
 | .panic _,_,_=>False
 | .outgrown,_,_=>False
def KeepAll (ob:Nat) (W W':World):Prop:=Touch (fun k=>k=ob) W W'∧KeepsOthers W W'
theorem KeepAll.turned {ob:Nat} {W W3:World} {l:Nat} {o o':Obj} (hl:W.heap[l]?=some o) (h:KeepAll ob (W.putObj l o') W3) (ho':o'.isCells=false) (ho:o.isCells=false):KeepAll ob W (W3.putObj l o):=by
 have hlt:=lt_of_heap hl
 obtain ⟨h1,h2⟩:=h
 have hs:=h1.size
 rw [World.putObj_size] at hs
 refine ⟨⟨h1.os,h1.tape,h1.output,by rw [World.putObj_size];exact hs,fun k hk hne => ?_⟩,by rw [World.putObj_size];exact hs,fun k o2 hk ho2 => ?_⟩
 · by_cases e:k=l
   · subst e;rw [hl];exact World.putObj_heap_same (by omega)
   · rw [World.putObj_heap_other e,h1.block k (by rw [World.putObj_size];exact hk) hne,World.putObj_heap_other e]
 · by_cases e:k=l
   · subst e;rw [hl] at hk;cases hk;exact World.putObj_heap_same (by omega)
   · rw [World.putObj_heap_other e];exact h2.same k o2 (by rw [World.putObj_heap_other e];exact hk) ho2
theorem wpIn_rangeK {X:Type} {P:Program} {g:Operand} {ps:Array Tmp} {assign body:Code} {Q:Exit→Act→World→Prop} {a:Act} {w:World}
   {gf:Nat} {lb:Array Value} (hg:a.eval g=.func (.func gf) #[] lb) (eg:∀ args w,(callFunc gf args).run P w=.ok (.enter gf args) w)
   {encs:X→Array Value} {R:X→World→Prop} {ob:Nat} {S:List X→Prop} {w0:World} (hseq:SeqK P gf lb encs R (KeepAll ob) S w0) (hb0:Below w0.heap.size w0 w) (hps:∀ x,(encs x).size=ps.size)
   (hR:∀ x W l o o',R x W→W.heap[l]?=some o→o.isCells=false→R x (W.putObj l o'))
   (I:List X→World→Prop) (Ix:Code→List X→World→Prop) (hI:OwnFrom w.heap.size I) (hIx:∀ c,OwnFrom w.heap.size (Ix c)) (h0:I [] w) (a₁:X→Act)
   (hassign:∀ (l:Nat) (x:X) (W:World) (K:Act→World→Prop),K (a₁ x) W →
     assign.wpIn (Fence.wide.inRound l) 0 P (Exit.then K (fun _ _ _=>False)) { tmps:=(ps.zip (encs x)).foldl (fun t (p,v)=>t.setIfInBounds p v) a.tmps,defers:=[] } W)
   (hbody:∀ (l:Nat) (pre:List X) (x:X) (W:World),w.heap.size≤W.heap.size→I pre W→R x W→body.wpIn (Fence.wide.inRound l) 0 P (endK w.heap.size (KeepAll ob) I Ix (pre ++ [x]) W) (a₁ x) W)
   (hdone:∀ (D:Nat) (xs:List X) (W:World),w.heap.size≤D→S xs→I xs W→W.heap[D]?=some (.deferred (some []))→Q .normal { a with defers:={ target:=.collected D,args:=#[] } :: a.defers } W)
   (hstop:∀ (D:Nat) (c:Code) (pre:List X) (W:World),w.heap.size≤D→Ix c pre W→W.heap[D]?=some (.deferred (some []))→c.wpIn Fence.wide 0 P Q { a with defers:={ target:=.collected D,args:=#[] } :: a.defers } W) :
   (Code.rangeFunc g ps assign body).wpIn Fence.wide 0 P Q a w:=by
 refine wpIn_rangeFunc fun fn hfn => ?_
 obtain ⟨rec,hrec⟩:∃ rec:LoopState→Option Code→Loop,rec=fun st pe=>{ state:=st,pending:=pe,fn,tmps:=a.tmps,params:=ps,assign,body,defers:=w.heap.size }:=⟨_,rfl⟩
 have hst:∀ st pe,(rec st pe).state=st:=fun st pe=>by rw [hrec]
 have hpe:∀ st pe,(rec st pe).pending=pe:=fun st pe=>by rw [hrec]
 have hex:Below w.heap.size w ((w.alloc (.deferred (some []))).alloc (.loop (rec .ready none))):=((Below.refl _ w).alloc (Nat.le_refl _) _).alloc (by simp) _
 have hr1:((w.alloc (.deferred (some []))).alloc (.loop (rec .ready none))).heap[w.heap.size+1]?=some (.loop (rec .ready none)):=by
   have:=heap_new (w.alloc (.deferred (some []))) (.loop (rec .ready none))
   rwa [World.size_alloc] at this
 have hd1:((w.alloc (.deferred (some []))).alloc (.loop (rec .ready none))).heap[w.heap.size]?=some (.deferred (some [])) :=
   (Below.heap_alloc _ _ _ (by simp)).trans (heap_new w _)
 have hi1:I [] ((w.alloc (.deferred (some []))).alloc (.loop (rec .ready none))):=hI.alloc _ (hI.alloc _ h0)
 refine ⟨w.heap.size+1,[{ target:=.collected w.heap.size,args:=#[] }],(w.alloc (.deferred (some []))).alloc (.loop (rec .ready none)),{ target:=.fn (.func gf) lb,args:=#[.func (.yield (w.heap.size+1)) #[] #[]] },(w.alloc (.deferred (some []))).alloc (.loop (rec .ready none)),gf,
   #[.func (.yield (w.heap.size+1)) #[] #[]] ++ lb,(w.alloc (.deferred (some []))).alloc (.loop (rec .ready none)),?_,?_,?_,?_,?_,?_⟩
 · rw [hrec];exact run_enterLoop_outer _ _ _ _ _
 · simp only [resolve,hg]
   simp [go_sem]
 · intro f' hf';trivial
 · simp [invoke,go_sem,eg]
 · intro h;cases h
 generalize (w.alloc (.deferred (some []))).alloc (.loop (rec .ready none))=W1 at hex hr1 hd1 hi1 ⊢
 have hl1:w.heap.size+1<W1.heap.size:=lt_of_heap hr1
 have own2:∀ {K:List X→World→Prop},OwnFrom w.heap.size K→∀ st pe,OwnFrom W1.heap.size (fun pre W=>K pre W∧W.heap[w.heap.size+1]?=some (.loop (rec st pe))∧W.heap[w.heap.size]?=some (.deferred (some []))):=fun hK st pe s A B row hs hgr hr =>
   ⟨hK s A B row hs.1 hgr (fun r e=>⟨by have:=(hr r e).1;omega,(hr r e).2⟩),
     (hgr.block _ (lt_of_heap hs.2.1) (fun e=>by have:=(hr _ e.symm).1;omega)).trans hs.2.1,(hgr.block _ (lt_of_heap hs.2.2) (fun e=>by have:=(hr _ e.symm).1;omega)).trans hs.2.2⟩
 refine (hseq (w.heap.size+1) (fun pre W=>I pre W∧W.heap[w.heap.size+1]?=some (.loop (rec .ready none))∧W.heap[w.heap.size]?=some (.deferred (some [])))
   (fun pre W => ∃ c,Ix c pre W∧W.heap[w.heap.size+1]?=some (.loop (rec .done (some c)))∧W.heap[w.heap.size]?=some (.deferred (some []))) W1 (hb0.trans (hex.mono hb0.size)) hl1 (own2 hI _ _)
   (fun s A B row hs hgr hr=>by obtain ⟨c,hc⟩:=hs;exact ⟨c,own2 (hIx c) _ _ s A B row hc hgr hr⟩) ?_ ⟨hi1,hr1,hd1⟩).mono ?_
 · -- one round
   rintro pre x W hsz ⟨hi,hl,hd⟩ hx
   have hlt:w.heap.size+1<W.heap.size:=lt_of_heap hl
   have hy:=run_yield (P:=P) (args:=encs x) hl (by rw [hrec];exact hps x)
   rw [show (rec .ready none).fn=fn by rw [hrec],show (rec .ready none).params=ps by rw [hrec],show (rec .ready none).tmps=a.tmps by rw [hrec],show (rec .ready none).assign=assign by rw [hrec],show (rec .ready none).body=body by rw [hrec]] at hy
   refine ⟨fn,_,assign,body,hy,roundIn_of_wpIn hfn (hassign _ x W _ ⟨_,run_beginRound hl (hst _ _),?_⟩)⟩
   have hbusy:({ rec .ready none with state:=.busy }:Loop)=rec .busy none:=by rw [hrec]
   rw [hbusy]
   have hl2:(W.putObj (w.heap.size+1) (.loop (rec .busy none))).heap[w.heap.size+1]?=some (.loop (rec .busy none)):=World.putObj_heap_same hlt
   have hd2:(W.putObj (w.heap.size+1) (.loop (rec .busy none))).heap[w.heap.size]?=some (.deferred (some [])):=(World.putObj_heap_other (by omega)).trans hd
   refine wpIn_mono (hbody _ pre x _ (by rw [World.putObj_size];omega) (hI.putObj _ hi (by omega) hl rfl) (hR x W _ _ _ hx hl rfl)) ?_
   have fin:∀ (c:Code) (W3:World),KeepsFrom w.heap.size (W.putObj (w.heap.size+1) (.loop (rec .busy none))) W3→Ix c (pre ++ [x]) W3 →
       ∃ v w',(Instr.endRound (w.heap.size+1) (some c)).run P W3=.ok v w'∧((Ending.returned v=.returned (.bool true)∧(I (pre ++ [x]) w'∧w'.heap[w.heap.size+1]?=some (.loop (rec .ready none))∧w'.heap[w.heap.size]?=some (.deferred (some [])))∧KeepAll ob W w') ∨
         (Ending.returned v=.returned (.bool false)∧(∃ c,Ix c (pre ++ [x]) w'∧w'.heap[w.heap.size+1]?=some (.loop (rec .done (some c)))∧w'.heap[w.heap.size]?=some (.deferred (some [])))∧KeepsFrom (w.heap.size+1+1) W w')):=fun c W3 hk hix=>by
     have hl3:=hk.same _ _ (by omega) hl2 rfl
     have hd3:=hk.same _ _ (Nat.le_refl _) hd2 rfl
     have hrun:=run_endRound (P:=P) (some c) hl3
     have he:({ rec .busy none with state:=if (some c).isNone then .ready else .done,pending:=some c }:Loop)=rec .done (some c):=by rw [hrec];rfl
     rw [he] at hrun
     refine ⟨_,_,hrun,.inr ⟨rfl,⟨c,(hIx c).putObj _ hix (by omega) hl3 rfl,World.putObj_heap_same (lt_of_heap hl3),(World.putObj_heap_other (by omega)).trans hd3⟩,?_⟩⟩
     exact ((keeps_put W _ (Nat.lt_succ_self _)).trans (keeps_mono hk (by omega))).trans (keeps_put W3 _ (Nat.lt_succ_self _))
   rintro e a3 W3 hp
   cases e with
   | normal =>
     obtain ⟨hk,hi3⟩:=hp
     have hl3:=hk.2.same _ _ hl2 rfl
     have hd3:=hk.2.same _ _ hd2 rfl
     have hrun:=run_endRound (P:=P) none hl3
     have he:({ rec .busy none with state:=if (none:Option Code).isNone then .ready else .done,pending:=none }:Loop)=rec .ready none:=by rw [hrec];rfl
     rw [he] at hrun
     exact ⟨_,_,hrun,.inl ⟨rfl,⟨hI.putObj _ hi3 (by omega) hl3 rfl,World.putObj_heap_same (lt_of_heap hl3),(World.putObj_heap_other (by omega)).trans hd3⟩,hk.turned hl rfl rfl⟩⟩
   | ret=>exact fin _ W3 hp.1 hp.2
   | exit id=>exact fin _ W3 hp.1 hp.2
   | goto t=>exact fin _ W3 hp.1 hp.2
   | panic ch=>exact hp.elim
   | outgrown=>exact hp.elim
 · -- behind it
   rintro e W2 ⟨⟨v,rfl⟩,⟨xs,hS,hi,hl,hd⟩ | ⟨pre,c,hi,hl,hd⟩⟩
   · have hrun:=run_endLoop (P:=P) hl (by rw [hst];simp)
     rw [hpe] at hrun
     exact ⟨none,_,hrun,hdone _ xs _ (Nat.le_refl _) hS (hI.putObj _ hi (by omega) hl rfl) ((World.putObj_heap_other (by omega)).trans hd)⟩
   · have hrun:=run_endLoop (P:=P) hl (by rw [hst];simp)
     rw [hpe] at hrun
     exact ⟨some c,_,hrun,hstop _ c pre _ (Nat.le_refl _) ((hIx c).putObj _ hi (by omega) hl rfl) ((World.putObj_heap_other (by omega)).trans hd)⟩
theorem wp_rangeK {X:Type} {P:Program} {g:Operand} {ps:Array Tmp} {assign body:Code} {Q:Exit→Act→World→Prop} {a:Act} {w:World}
   {gf:Nat} {lb:Array Value} (hg:a.eval g=.func (.func gf) #[] lb) (eg:∀ args w,(callFunc gf args).run P w=.ok (.enter gf args) w)
   {encs:X→Array Value} {R:X→World→Prop} {ob:Nat} {S:List X→Prop} {w0:World} (hseq:SeqK P gf lb encs R (KeepAll ob) S w0) (hb0:Below w0.heap.size w0 w) (hps:∀ x,(encs x).size=ps.size)
   (hR:∀ x W l o o',R x W→W.heap[l]?=some o→o.isCells=false→R x (W.putObj l o'))
   (I:List X→World→Prop) (Ix:Code→List X→World→Prop) (hI:OwnFrom w.heap.size I) (hIx:∀ c,OwnFrom w.heap.size (Ix c)) (h0:I [] w) (a₁:X→Act)
   (hassign:∀ (l:Nat) (x:X) (W:World) (K:Act→World→Prop),K (a₁ x) W →
     assign.wpIn (Fence.wide.inRound l) 0 P (Exit.then K (fun _ _ _=>False)) { tmps:=(ps.zip (encs x)).foldl (fun t (p,v)=>t.setIfInBounds p v) a.tmps,defers:=[] } W)
   (hbody:∀ (l:Nat) (pre:List X) (x:X) (W:World),w.heap.size≤W.heap.size→I pre W→R x W→body.wpIn (Fence.wide.inRound l) 0 P (endK w.heap.size (KeepAll ob) I Ix (pre ++ [x]) W) (a₁ x) W)
   (hdone:∀ (D:Nat) (xs:List X) (W:World),w.heap.size≤D→S xs→I xs W→W.heap[D]?=some (.deferred (some []))→Q .normal { a with defers:={ target:=.collected D,args:=#[] } :: a.defers } W)
   (hstop:∀ (D:Nat) (c:Code) (pre:List X) (W:World),w.heap.size≤D→Ix c pre W→W.heap[D]?=some (.deferred (some []))→c.wp P Q { a with defers:={ target:=.collected D,args:=#[] } :: a.defers } W) :
   (Code.rangeFunc g ps assign body).wp P Q a w :=
 (wpIn_wide (n:=0)).1 (wpIn_rangeK hg eg hseq hb0 hps hR I Ix hI hIx h0 a₁ hassign hbody hdone (fun D c pre W h1 h2 h3=>wpIn_wide.2 (hstop D c pre W h1 h2 h3)))
end Go.Proofs.YtmmmjohoihpbeaaGreat
