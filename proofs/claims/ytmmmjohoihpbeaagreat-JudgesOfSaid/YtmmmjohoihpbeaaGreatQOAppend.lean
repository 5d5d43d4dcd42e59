/- Laws of our own on append and make;no program in sight. -/
import Derived.Test.YtmmmjohoihpbeaaGreatQOGBase
import Derived.Maps.AppendAt
import Derived.Lib.AppendZerosOnto
import Derived.Deep.AppendLies
import Derived.Deep.RegionLaw
namespace Go.Proofs.YtmmmjohoihpbeaaGreat
open Go.RowKit
set_option linter.unusedVariables false
structure RowTy (P:Program) (t e:TypeId) (size bytes:Nat) (z:Value):Prop where
 ht:P.underlying t=some (.slice e)
 info:(P.info? e).map (fun i=>(i.zero,i.size,i.bytes))=some (some z,size,bytes)
 hzs:z.cells.size=size
 pos:0<size
def At (w:World) (bo:Option Addr) (news:List Value):Prop:=∀ j u,news[j]?=some u→∃ b,bo=some b∧w.cell? (b.add j)=some u
theorem At.nil (w:World) (bo:Option Addr):At w bo []:=fun j u h=>by simp at h
theorem At.one (w:World) (v:Value) (e:TypeId):At (w.alloc (.cells #[v] e)) (some ⟨w.heap.size,0,none⟩) [v]:=fun j u h=>⟨_,rfl,one_at w v e j u h⟩
theorem addr_add (b off i:Nat):(⟨b,off,none⟩:Addr).add i=⟨b,off+i,none⟩:=by
 by_cases h:i=0
 · subst h;simp [Addr.add]
 · simp [Addr.add,h]
theorem At.of_cells {w:World} {b off:Nat} {news:List Value} (h:∀ j (hj:j<news.length),w.cell? ⟨b,off+j,none⟩=some news[j]):At w (some ⟨b,off,none⟩) news:=by
 intro j u hu
 obtain ⟨hj,rfl⟩:=List.getElem?_eq_some_iff.1 hu
 exact ⟨_,rfl,by rw [addr_add];exact h j hj⟩
theorem owns_shape {w:World} {base e size n:Nat} {v:Value} {xs:List Value} (h:w.ownsRow base e size v n xs):∃ bo c,v=.slice bo n c:=by
 rcases h.2 with ⟨rfl,rfl⟩ | ⟨g,cap,cur,rfl,_⟩
 · exact ⟨none,0,rfl⟩
 · exact ⟨_,_,rfl⟩
theorem run_append_any {P:Program} {t e:TypeId} {size bytes:Nat} {z:Value} (T:RowTy P t e size bytes z) (w:World) (base:Nat) (ty:TypeId) (v:Value) (n:Nat) (xs:List Value) (hown:w.ownsRow base e size v n xs)
   (bo:Option Addr) (m c:Nat) (news:List Value) (hl:news.length=m*size) (hat:At w bo news) (h1:∀ u ∈ news,u.oneCell'=true)
   (h63:n+m≤maxLen) (hbytes:(n+m)*bytes≤140737488355328) (hbase:base≤w.heap.size) :
   ∃ v' w',(Builtin.append_ #[t,t] ty #[v,.slice bo m c]).run P w=.ok v' w'∧w'.ownsRow base e size v' (n+m) (xs ++ news)∧w.grownBy w' v.ownBlock∧(v'.ownBlock=v.ownBlock∨v'.ownBlock=some w.heap.size):=by
 obtain ⟨i,hi,hz,hs,hb⟩:=info_parts T.info
 cases bo with
 | some ad =>
   obtain ⟨v',w',h2,h3,h4,_,h6⟩:=run_append_own_at (P:=P) w base t ty e i z size bytes T.ht hi hz hs hb T.hzs T.pos v n xs hown ad m c news hl (fun j u h=>by obtain ⟨b,hb,hc⟩:=hat j u h;cases hb;exact hc) h1 h63 hbytes hbase
   exact ⟨v',w',h2,h3,h4,h6⟩
 | none =>
   have hnews:news=[]:=by
     cases news with
     | nil=>rfl
     | cons u us=>obtain ⟨b,hb,_⟩:=hat 0 u rfl;cases hb
   subst hnews
   have hm:m=0:=by
     have hp:=T.pos
     rcases Nat.eq_zero_or_pos m with h | h
     · exact h
     · have:=Nat.mul_pos h hp;simp at hl;omega
   subst hm
   refine ⟨v,w,?_,by simpa using hown,⟨rfl,rfl,rfl,Nat.le_refl _,fun _ _ _=>rfl⟩,.inl rfl⟩
   have ht:=T.ht
   rcases hown.2 with ⟨rfl,rfl⟩ | ⟨g,cap,cur,rfl,_,_,hnc,_,_,_⟩
   · simp [Builtin.append_,run_underlying ht,sizeOf,typeInfo,hi,Builtin.lenOf,Builtin.firstCells]
   · simp [Builtin.append_,run_underlying ht,sizeOf,typeInfo,hi,Builtin.lenOf,Builtin.firstCells,hnc,storeCells]
theorem wp_append_any {P:Program} {t e:TypeId} {size bytes:Nat} {z:Value} (T:RowTy P t e size bytes z) (w:World) {o:Oper} {a:Act} {K:Act→World→Prop} {Q:Exit→Act→World→Prop} (s x:Operand)
   (ho:o.op=.call { callee:=.builtin .append,args:=#[s,x],argTypes:=#[t,t] })
   (base:Nat) (v:Value) (n:Nat) (xs:List Value) (hs:a.eval s=v) (hown:w.ownsRow base e size v n xs)
   (bo:Option Addr) (m c:Nat) (news:List Value) (hx:a.eval x=.slice bo m c) (hl:news.length=m*size) (hat:At w bo news) (h1:∀ u ∈ news,u.oneCell'=true)
   (h63:n+m≤maxLen) (hbytes:(n+m)*bytes≤140737488355328) (hbase:base≤w.heap.size)
   (h:∀ b' c' w',w'.ownsRow base e size (.slice b' (n+m) c') (n+m) (xs ++ news)→w.grownBy w' v.ownBlock→((Value.slice b' (n+m) c').ownBlock=v.ownBlock∨(Value.slice b' (n+m) c').ownBlock=some w.heap.size)→K (a.put o.dst (.slice b' (n+m) c')) w'):o.wp P a w K Q:=by
 obtain ⟨v',w',hr,h2,h3,h4⟩:=run_append_any T w base o.type v n xs hown bo m c news hl hat h1 h63 hbytes hbase
 unfold Oper.wp execOp
 simp only [ho,resolve,invoke,builtin,Sem.run_bind,Sem.run_pure,Result.andThen_ok,List.map_toArray,List.map_cons,List.map_nil,hs,hx,hr]
 obtain ⟨b',c',rfl⟩:=owns_shape h2
 exact h b' c' w' h2 h3 h4
theorem wpList_append_any {P:Program} {t e:TypeId} {size bytes:Nat} {z:Value} (T:RowTy P t e size bytes z) {w:World} {ops:Array Oper} {rest:List Oper} {o:Oper} {a:Act} {Q:Exit→Act→World→Prop} (hgd:o.guard=none) (s x:Operand)
   (ho:o.op=.call { callee:=.builtin .append,args:=#[s,x],argTypes:=#[t,t] })
   (base:Nat) (v:Value) (n:Nat) (xs:List Value) (hs:a.eval s=v) (hown:w.ownsRow base e size v n xs)
   (bo:Option Addr) (m c:Nat) (news:List Value) (hx:a.eval x=.slice bo m c) (hl:news.length=m*size) (hat:At w bo news) (h1:∀ u ∈ news,u.oneCell'=true)
   (h63:n+m≤maxLen) (hbytes:(n+m)*bytes≤140737488355328) (hbase:base≤w.heap.size)
   (h:∀ b' c' w',w'.ownsRow base e size (.slice b' (n+m) c') (n+m) (xs ++ news)→w.grownBy w' v.ownBlock→((Value.slice b' (n+m) c').ownBlock=v.ownBlock∨(Value.slice b' (n+m) c').ownBlock=some w.heap.size)→wpList P ops Q rest (a.put o.dst (.slice b' (n+m) c')) w'):wpList P ops Q (o :: rest) a w :=
 wpList_plain hgd fun _ hK=>wp_append_any T w s x ho base v n xs hs hown bo m c news hx hl hat h1 h63 hbytes hbase fun b' c' w' h2 h3 h4=>hK _ _ (h b' c' w' h2 h3 h4)
theorem step_append_any {P:Program} {t e:TypeId} {size bytes:Nat} {z:Value} (T:RowTy P t e size bytes z) {w:World} {ops:Array Oper} {o:Oper} {a:Act} {K:Act→World→Prop} {Q:Exit→Act→World→Prop} {E:Prop} (hgd:o.guard=none) (s x:Operand)
   (ho:o.op=.call { callee:=.builtin .append,args:=#[s,x],argTypes:=#[t,t] })
   (base:Nat) (v:Value) (n:Nat) (xs:List Value) (hs:a.eval s=v) (hown:w.ownsRow base e size v n xs)
   (bo:Option Addr) (m c:Nat) (news:List Value) (hx:a.eval x=.slice bo m c) (hl:news.length=m*size) (hat:At w bo news) (h1:∀ u ∈ news,u.oneCell'=true)
   (h63:n+m≤maxLen) (hbytes:(n+m)*bytes≤140737488355328) (hbase:base≤w.heap.size)
   (h:∀ b' c' w',w'.ownsRow base e size (.slice b' (n+m) c') (n+m) (xs ++ news)→w.grownBy w' v.ownBlock→((Value.slice b' (n+m) c').ownBlock=v.ownBlock∨(Value.slice b' (n+m) c').ownBlock=some w.heap.size)→K (a.put o.dst (.slice b' (n+m) c')) w') :
   if Region.wanted o (yielded ops a.tmps)=true then Oper.wp P o a w K Q else E:=by
 have hw:Region.wanted o (yielded ops a.tmps)=true:=by simp [Region.wanted,hgd]
 rw [if_pos hw]
 exact wp_append_any T w s x ho base v n xs hs hown bo m c news hx hl hat h1 h63 hbytes hbase h
end Go.Proofs.YtmmmjohoihpbeaaGreat
