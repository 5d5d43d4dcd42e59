/- Opening what a call is handed,with its sizes: lemmas of our own;no condition. -/
import Derived.Test.YtmmmjohoihpbeaaGreatQOOpen
import Derived.Test.YtmmmjohoihpbeaaGreatQOGHeap
import Derived.Deep.Slices
namespace Go.Proofs.YtmmmjohoihpbeaaGreat
section
open Go.ChangeShapes Go.WideShapes Go.ChangeAt Go.RowKit Go.Deep
set_option linter.unusedVariables false
set_option maxRecDepth 100000
def Small (l:List Nat):Prop:=∀ n ∈ l,n≤reachBytes
theorem small_of_all {l:List Nat} (h:l.all (·≤reachBytes)=true):Small l:=fun n hn=>by simpa using List.all_eq_true.1 h n hn
section
variable {H:Type} {P:Program}
theorem weightsEach_get:∀ (ts:List TypeId) (ds:List (DataW H)) (i:Nat) (t:TypeId) (d:DataW H),Small (DataW.weightsEach P ts ds)→ts[i]?=some t→ds[i]?=some d→Small (d.weights P t)
 | [],_,i,t,d,_,ht,_=>by simp at ht
 | _ :: _,[],i,t,d,_,_,hd=>by simp at hd
 | t0 :: ts,d0 :: ds,0,t,d,h,ht,hd=>by
   simp at ht hd
   subst ht;subst hd
   intro n hn
   refine h n ?_
   simp only [DataW.weightsEach,List.mem_append]
   exact .inl hn
 | t0 :: ts,d0 :: ds,i+1,t,d,h,ht,hd=>by
   refine weightsEach_get ts ds i t d (fun n hn=>h n ?_) (by simpa using ht) (by simpa using hd)
   simp only [DataW.weightsEach,List.mem_append]
   exact .inr hn
theorem weightsAll_get (e:TypeId):∀ (ds:List (DataW H)) (i:Nat) (d:DataW H),Small (DataW.weightsAll P e ds)→ds[i]?=some d→Small (d.weights P e)
 | [],i,d,_,hd=>by simp at hd
 | d0 :: ds,0,d,h,hd=>by
   simp at hd
   subst hd
   intro n hn
   refine h n ?_
   simp only [DataW.weightsAll,List.mem_append]
   exact .inl hn
 | d0 :: ds,i+1,d,h,hd=>by
   refine weightsAll_get e ds i d (fun n hn=>h n ?_) (by simpa using hd)
   simp only [DataW.weightsAll,List.mem_append]
   exact .inr hn
def Opened (P:Program) (w:World) (t:TypeId) (cs:List Value):Prop :=
 ∃ (H:Type) (enc:TypeId × Value→H) (fuel:Nat) (x:DataW H × List MemPlace),DataW.trod enc P w 0 (fun _=>true) true fuel t cs=some x∧Small (x.1.weights P t)
variable {w:World} {t e:TypeId} {cs:List Value}
theorem Opened.of {enc:TypeId × Value→H} {v:Value} {d:DataW H} {p:List MemPlace} (h:DataW.Trod enc P w 0 (fun _=>true) true t v d p) (hs:Small (d.weights P t)):Opened P w t v.cells.toList:=by
 obtain ⟨fuel,hf⟩:=h
 exact ⟨H,enc,fuel,_,hf,hs⟩
theorem Opened.struct {fs:Array Field} (h:Opened P w t cs) (ht:P.underlying t=some (.struct fs)):cs.length=P.cellsOf t∧∀ (j:Nat) (f:Field),fs[j]?=some f→Opened P w f.type ((cs.drop f.offset).take (P.cellsOf f.type)):=by
 obtain ⟨H,enc,fuel,x,hf,hs⟩:=h
 obtain ⟨xs,n,_,rfl,hl,hlen,hg⟩:=DataW.trod_struct ht hf
 refine ⟨hl,fun j f hj => ?_⟩
 have hjl:j<fs.size:=(Array.getElem?_eq_some_iff.1 hj).1
 have hjx:j<xs.length:=by omega
 have h1:=hg j f hj
 rw [List.getElem?_eq_getElem hjx] at h1
 refine ⟨H,enc,n,xs[j],h1,?_⟩
 have hs':Small (DataW.weightsEach P (fs.toList.map (·.type)) (xs.map (·.1))):=by simpa [DataW.weights,ht] using hs
 refine weightsEach_get _ _ j f.type xs[j].1 hs' ?_ (by simp [hjx])
 rw [List.getElem?_map]
 have:fs.toList[j]?=some f:=by simpa using hj
 rw [this];rfl
theorem Opened.slice (h:Opened P w t cs) (ht:P.underlying t=some (.slice e)):cs=[.slice none 0 0] ∨
   ∃ (a:Addr) (len cap:Nat),cs=[.slice (some a) len cap]∧len≤cap∧cap≤maxLen∧cap*P.bytesOf e≤reachBytes∧∀ i,i<cap→∃ cs',w.cells? 0 (a.add (i*P.cellsOf e)) (P.cellsOf e)=some cs'∧Opened P w e cs':=by
 obtain ⟨H,enc,fuel,x,hf,hs⟩:=h
 rcases open_slice ht hf with ⟨h0,_⟩ | ⟨a,len,cap,m,n,D,Pl,rfl,hb,hl,hm,hmm,rfl,hx⟩
 · exact .inl h0
 right
 have hmc:m=cap:=by simpa using hmm
 subst hmc
 have hs':∀ k,k=((List.range len).map D).length+((List.range (m - len)).map fun j=>D (len+j)).length→k*P.bytesOf e≤reachBytes:=fun k hk=>by
   refine hs _ ?_
   rw [hk]
   simp only [DataW.weights,ht]
   exact List.mem_cons_self
 refine ⟨a,len,m,rfl,hl,hm,hs' m (by simp;omega),fun i hi => ?_⟩
 obtain ⟨cs',h1,h2⟩:=hx i hi
 refine ⟨cs',h1,H,enc,n,_,h2,?_⟩
 have hA:Small (DataW.weightsAll P e ((List.range len).map D)):=fun k hk=>hs k (by simp only [DataW.weights,ht];exact List.mem_cons_of_mem _ (List.mem_append.2 (.inl hk)))
 have hB:Small (DataW.weightsAll P e ((List.range (m - len)).map fun j=>D (len+j))):=fun k hk=>hs k (by simp only [DataW.weights,ht];exact List.mem_cons_of_mem _ (List.mem_append.2 (.inr hk)))
 by_cases hil:i<len
 · exact weightsAll_get e _ i (D i) hA (by simp [hil])
 · have:=weightsAll_get e _ (i - len) (D i) hB (by rw [List.getElem?_map,List.getElem?_range (by omega)];simp;congr 1;omega)
   exact this
theorem Opened.int {q:IntKind} (h:Opened P w t cs) (ht:P.underlying t=some (.int q)):∃ n,cs=[.int q n]∧(Lit.int q n).wf=true:=by
 obtain ⟨H,enc,fuel,x,hf,hs⟩:=h
 obtain ⟨z,hz,_,hw⟩:=DataW.trod_int ht hf
 exact ⟨z,hz,hw⟩
theorem Opened.u8 (h:Opened P w t cs) (ht:P.underlying t=some (.int .u8)):∃ x:UInt8,cs=[.int .u8 x.toNat]:=by
 obtain ⟨n,rfl,hw⟩:=h.int ht
 obtain ⟨k,rfl,hk⟩:=u8_nat hw
 exact ⟨UInt8.ofNat k,by rw [show (UInt8.ofNat k).toNat=k by simp;omega]⟩
theorem cells_one {a:Addr} {cs':List Value} (h:w.cells? 0 a 1=some cs'):∃ v,cs'=[v]∧w.cell? a=some v:=by
 obtain ⟨_,hlen,_⟩:=World.cells?_some h
 match cs',hlen with
 | [v],_=>exact ⟨v,rfl,cell_of_cells?_one h⟩
theorem addr_of_cell {a:Addr} {v:Value} (h:w.cell? a=some v):a=⟨a.block,a.off,none⟩∧a.block<w.heap.size:=by
 obtain ⟨b,off,spot⟩:=a
 have hs:spot=none:=World.cell?_spot h
 subst hs
 refine ⟨rfl,?_⟩
 rcases Nat.lt_or_ge b w.heap.size with h' | h'
 · exact h'
 · simp [World.cell?,Array.getElem?_eq_none h'] at h
theorem take_choose {α:Type} [Inhabited α] (m:Nat) (p:Nat→α→Prop) (h:∀ i,i<m→∃ x,p i x):∃ L:List α,L.length=m∧∀ i (hi:i<L.length),p i L[i]:=by
 induction m with
 | zero=>exact ⟨[],rfl,fun i hi=>by simp at hi⟩
 | succ m ih =>
   obtain ⟨L,hL,hp⟩:=ih fun i hi=>h i (by omega)
   obtain ⟨x,hx⟩:=h m (by omega)
   refine ⟨L ++ [x],by simp [hL],fun i hi => ?_⟩
   by_cases him:i<L.length
   · rw [List.getElem_append_left him];exact hp i him
   · have:i=L.length:=by simp at hi;omega
     subst this
     simp [hL];exact hx
theorem Opened.bytes (h:Opened P w t cs) (ht:P.underlying t=some (.slice e)) (he:P.underlying e=some (.int .u8)) (hc:P.cellsOf e=1) (hb:P.bytesOf e=1):∃ a n c l,cs=[.slice a n c]∧IsB w a n c l∧l.length≤140737488351232:=by
 rcases h.slice ht with rfl | ⟨a,len,cap,rfl,hl,hm,hr,hx⟩
 · exact ⟨none,0,0,[],rfl,isB_nil w,by simp⟩
 · rw [hb,Nat.mul_one] at hr
   unfold reachBytes at hr
   by_cases h0:len=0
   · subst h0
     exact ⟨some a,0,cap,[],rfl,⟨rfl,Nat.zero_le _,hm,.inl ⟨rfl,fun h=>by cases h⟩⟩,by simp⟩
   obtain ⟨l,hll,hp⟩:=take_choose (α:=UInt8) len (fun i x=>w.cell? (a.add i)=some (.int .u8 x.toNat)) (fun i hi=>by
     obtain ⟨cs',h1,h2⟩:=hx i (by omega)
     rw [hc,Nat.mul_one] at h1
     obtain ⟨v,rfl,hv⟩:=cells_one h1
     obtain ⟨x,hx⟩:=h2.u8 he
     simp at hx
     subst hx
     exact ⟨x,hv⟩)
   have h00:=hp 0 (by omega)
   rw [show a.add 0=a by simp [Addr.add]] at h00
   obtain ⟨hsp,hlt⟩:=addr_of_cell h00
   obtain ⟨b,off,spot⟩:=a
   simp at hsp
   subst hsp
   refine ⟨_,_,_,l,rfl,⟨hll.symm,by omega,hm,.inr ⟨b,off,rfl,hlt,fun i hi => ?_⟩⟩,by omega⟩
   have:=hp i hi
   rwa [addr_add] at this
theorem Opened.ints (h:Opened P w t cs) (ht:P.underlying t=some (.slice e)) (he:P.underlying e=some (.int .i64)) (hc:P.cellsOf e=1) (hb:P.bytesOf e=8):∃ a n c l,cs=[.slice a n c]∧IsI w a n c l∧l.length*8≤140737488351232∧∀ x ∈ l,-9223372036854775808≤x∧x≤9223372036854775807:=by
 rcases h.slice ht with rfl | ⟨a,len,cap,rfl,hl,hm,hr,hx⟩
 · exact ⟨none,0,0,[],rfl,IsI.nil w,by simp,by simp⟩
 · rw [hb] at hr
   unfold reachBytes at hr
   by_cases h0:len=0
   · subst h0
     exact ⟨some a,0,cap,[],rfl,⟨rfl,Nat.zero_le _,hm,.inl ⟨rfl,fun h=>by cases h⟩⟩,by simp,by simp⟩
   obtain ⟨l,hll,hp⟩:=take_choose (α:=Int) len (fun i x=>w.cell? (a.add i)=some (.int .i64 x)∧-9223372036854775808≤x∧x≤9223372036854775807) (fun i hi=>by
     obtain ⟨cs',h1,h2⟩:=hx i (by omega)
     rw [hc,Nat.mul_one] at h1
     obtain ⟨v,rfl,hv⟩:=cells_one h1
     obtain ⟨x,hx,hw⟩:=h2.int he
     simp at hx
     subst hx
     exact ⟨x,hv,i64_bounds hw⟩)
   have h00:=(hp 0 (by omega)).1
   rw [show a.add 0=a by simp [Addr.add]] at h00
   obtain ⟨hsp,hlt⟩:=addr_of_cell h00
   obtain ⟨b,off,spot⟩:=a
   simp at hsp
   subst hsp
   refine ⟨_,_,_,l,rfl,⟨hll.symm,by omega,hm,.inr ⟨b,off,rfl,hlt,fun i hi => ?_⟩⟩,by omega,fun x hx => ?_⟩
   · have:=(hp i hi).1
     rwa [addr_add] at this
   · obtain ⟨i,hi,rfl⟩:=List.getElem_of_mem hx
     exact (hp i hi).2
end
/- From a contract on what a call is handed,with its sizes,to a statement: lemmas of our own;no condition. -/
open Go.ChangeShapes Go.WideShapes Go.ChangeAt Go.RowKit Go.Deep
set_option linter.unusedVariables false
set_option maxRecDepth 100000
theorem returnsInHanded_of_change6 {H:Type} {enc:TypeId × Value→H} {a:Assume} {C:Checked} {os:Os} {f:FuncId} {fn:Func} {s:ChangeSpec} {conds:List PathCond} {apart fresh handsOn again:Bool}
   (own:ownKnob C.prog.godebug=none) (started:os.Started) (noInit:C.prog.inits.idxOf? f=none) (hfn:C.prog.funcs[f]?=some fn)
   (witness:∃ (w:World) (tape:Tape) (i:Input),w.os=os∧(w.forCall tape i).Shaped C.prog∧i.vars=[]∧Input.okWide C.prog (w.forCall tape i) .any w.heap.size f i ∧
     s.pre6 enc C.prog fn conds apart (w.forCall tape i).memory i.args∧a.holds C.prog (lone (Frame.enter C.prog f i.args .normal) [] (w.forCall tape i)))
   (contract:∀ (W:World) (base:Nat) (args:Array Value) (ds gs:List (DataW H)) (before:List MemPlace),
     (∀ (j:Nat) t v,fn.params[j]?=some t→args[j]?=some v→Value.okWide C.prog W .any base t v) →
     DataW.Whole enc C.prog fn.params.toList s.vars apart W args.toList ds gs before →
     conds.all (PathCond.test C.prog ⟨fn.params.toList,ds,s.plain.varTypes C.prog,gs⟩)=true →
     (DataW.weightsEach C.prog (fn.params.toList ++ s.plain.varTypes C.prog) (ds ++ gs)).all (·≤reachBytes)=true →
     a.holds C.prog (lone (Frame.enter C.prog f args .normal) [] W) →
     Calls C.prog f args W fun e W' => ∃ v,e=.returned v∧s.post enc C.prog fn apart fresh handsOn again W args v W') :
   ReturnsInHanded a C os f .any (s.pre6 enc C.prog fn conds apart) (s.post enc C.prog fn apart fresh handsOn again):=by
 refine returnsInHanded_of_calls own started noInit witness ?_
 intro w tape i _ _ _ hok hpre hholds
 obtain ⟨_,_,_,fn',hfn',_,_,_,_,hval⟩:=hok
 have e:fn'=fn:=Option.some.inj (hfn'.symm.trans hfn)
 subst e
 obtain ⟨⟨ds,gs,before,hw,hc⟩,hz⟩:=hpre
 have hw':=DataW.Whole.of_heap (w':=w.forCall tape i) (by rfl) hw
 refine (contract (w.forCall tape i) w.heap.size i.args ds gs before hval hw' hc (hz.weights hw) hholds).mono fun e W' ⟨v,he,hp⟩ => ?_
 subst he
 exact ChangeSpec.post_blind hp
section
variable {P:Program} {w:World} {t e:TypeId} {cs:List Value} {r:Reach} {b0:Nat} {v:Value}
theorem drop_piece (cs:List Value) (o n:Nat):cs.drop o=(cs.drop o).take n ++ cs.drop (o+n):=by
 rw [← List.drop_drop];exact (List.take_append_drop _ _).symm
theorem Opened.structV {fs:Array Field} (ht:P.underlying t=some (.struct fs)) (hv:Value.okWide P w r b0 t v) (o:Opened P w t v.cells.toList):∃ cs:List Value,v=.agg cs.toArray∧Opened P w t cs:=by
 simp only [Value.okWide,ht] at hv
 obtain ⟨cs,rfl,_⟩:=hv
 exact ⟨cs.toList,by simp,o⟩
theorem Opened.i64 (h:Opened P w t cs) (ht:P.underlying t=some (.int .i64)):∃ x:Int,cs=[.int .i64 x]∧-9223372036854775808≤x∧x≤9223372036854775807:=by
 obtain ⟨n,rfl,hw⟩:=h.int ht
 exact ⟨n,rfl,i64_bounds hw⟩
end
end
end Go.Proofs.YtmmmjohoihpbeaaGreat
