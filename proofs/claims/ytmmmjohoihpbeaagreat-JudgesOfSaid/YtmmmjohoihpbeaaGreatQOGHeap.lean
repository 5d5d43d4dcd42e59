/- Laws of our own on what a call leaves of the memory,and on copy;no program in sight. -/
import Derived.Test.YtmmmjohoihpbeaaGreatQOAppend
import Derived.Laws.CopyOwn
import Derived.Laws.EntriesVeiled
import Derived.Deep.MidRow
import Derived.Lib.AppendZerosOnto
import Derived.Deep.RegionLaw
namespace Go.Proofs.YtmmmjohoihpbeaaGreat
open Go.RowKit
set_option linter.unusedVariables false
structure Touch (S:Nat→Prop) (w w':World):Prop where
 os:w'.os=w.os
 tape:w'.tape=w.tape
 output:w'.output=w.output
 size:w.heap.size≤w'.heap.size
 block:∀ k,k<w.heap.size→¬ S k→w'.heap[k]?=w.heap[k]?
theorem Touch.refl (S:Nat→Prop) (w:World):Touch S w w:=⟨rfl,rfl,rfl,Nat.le_refl _,fun _ _ _=>rfl⟩
theorem Touch.trans {S:Nat→Prop} {a b c:World} (h:Touch S a b) (k:Touch S b c):Touch S a c :=
 ⟨k.os.trans h.os,k.tape.trans h.tape,k.output.trans h.output,Nat.le_trans h.size k.size,fun j hj hs=>(k.block j (Nat.lt_of_lt_of_le hj h.size) hs).trans (h.block j hj hs)⟩
theorem Touch.andThen {S T:Nat→Prop} {a b c:World} (h:Touch S a b) (k:Touch T b c) (hT:∀ j,T j→S j∨a.heap.size≤j):Touch S a c :=
 ⟨k.os.trans h.os,k.tape.trans h.tape,k.output.trans h.output,Nat.le_trans h.size k.size,fun j hj hs=>(k.block j (Nat.lt_of_lt_of_le hj h.size) (fun ht=>by
   rcases hT j ht with h1 | h1
   · exact hs h1
   · omega)).trans (h.block j hj hs)⟩
theorem Touch.of_below {S:Nat→Prop} {w w':World} (h:Below w.heap.size w w'):Touch S w w':=⟨h.os,h.tape,h.output,h.size,fun k hk _=>h.block k hk⟩
theorem Touch.below {S:Nat→Prop} {w w':World} (h:Touch S w w') {B:Nat} (hB:B≤w.heap.size) (hs:∀ k,k<B→¬ S k):Below B w w' :=
 ⟨h.os,h.tape,h.output,h.size,fun k hk=>h.block k (Nat.lt_of_lt_of_le hk hB) (hs k hk)⟩
theorem Touch.alloc {S:Nat→Prop} {a w:World} (h:Touch S a w) (o:Obj):Touch S a (w.alloc o) :=
 h.trans (Touch.of_below ((Below.refl _ _).alloc (Nat.le_refl _) o))
theorem Touch.drew {S:Nat→Prop} {a w:World} (h:Touch S a w):Touch S a w.drew:=h.trans (Touch.of_below (Below.refl _ _).drew)
theorem Touch.setCell {S:Nat→Prop} {a w:World} (h:Touch S a w) (p:Addr) (u:Value) (hp:S p.block∨a.heap.size≤p.block):Touch S a (w.setCell p u):=by
 refine ⟨h.os,h.tape,h.output,by simpa using h.size,fun k hk hs => ?_⟩
 rw [Below.heap_setCell _ _ _ _ (by rcases hp with hp | hp
                                    · exact fun e=>hs (e ▸ hp)
                                    · omega)]
 exact h.block k hk hs
theorem Touch.setRow {S:Nat→Prop} {a w:World} (h:Touch S a w) (g:Nat) (cs:Array Value) (hp:S g∨a.heap.size≤g):Touch S a (w.setRow g cs):=by
 refine ⟨h.os,h.tape,h.output,by simpa using h.size,fun k hk hs => ?_⟩
 rw [setRow_other _ _ _ _ (by rcases hp with hp | hp
                              · exact fun e=>hs (e ▸ hp)
                              · omega)]
 exact h.block k hk hs
theorem Touch.grown {S:Nat→Prop} {a w w':World} {row:Option Nat} (h:Touch S a w) (hg:w.grownBy w' row) (hr:∀ k,row=some k→S k∨a.heap.size≤k):Touch S a w':=by
 refine ⟨hg.os.trans h.os,hg.tape.trans h.tape,hg.output.trans h.output,Nat.le_trans h.size hg.size,fun k hk hs => ?_⟩
 have hne:some k≠row:=fun e=>by
   rcases hr k e.symm with h1 | h1
   · exact hs h1
   · omega
 rw [hg.block k (Nat.lt_of_lt_of_le hk h.size) hne]
 exact h.block k hk hs
theorem lt_of_heap {w:World} {k:Nat} {o:Obj} (h:w.heap[k]?=some o):k<w.heap.size:=by
 rcases Nat.lt_or_ge k w.heap.size with h' | h'
 · exact h'
 · simp [Array.getElem?_eq_none h'] at h
theorem Touch.heap {S:Nat→Prop} {w w':World} (h:Touch S w w') {k:Nat} {o:Obj} (hk:w.heap[k]?=some o) (hs:¬ S k):w'.heap[k]?=some o:=(h.block k (lt_of_heap hk) hs).trans hk
theorem Touch.cell {S:Nat→Prop} {w w':World} (h:Touch S w w') {p:Addr} {v:Value} (hp:w.cell? p=some v) (hs:¬ S p.block):w'.cell? p=some v:=by
 have hlt:p.block<w.heap.size:=by
   rcases Nat.lt_or_ge p.block w.heap.size with h' | h'
   · exact h'
   · simp [World.cell?,Array.getElem?_eq_none h'] at hp
 rw [World.cell?_of_block (w:=w) (h.block p.block hlt hs)];exact hp
theorem below_heap {B:Nat} {w w':World} (h:Below B w w') {k:Nat} {o:Obj} (hk:w.heap[k]?=some o) (hs:k<B):w'.heap[k]?=some o:=(h.block k hs).trans hk
theorem cell_alloc {w:World} {p:Addr} {v:Value} (h:w.cell? p=some v) (o:Obj):(w.alloc o).cell? p=some v:=(Touch.of_below (S:=fun _=>False) ((Below.refl _ _).alloc (Nat.le_refl _) o)).cell h id
theorem wpList_alloc_any {P:Program} {w:World} {ops:Array Oper} {rest:List Oper} {o:Oper} {a:Act} {Q:Exit→Act→World→Prop} (hgd:o.guard=none) (t:TypeId) (ho:o.op=.alloc t)
   (z:Value) (hz:(P.info? t).map (·.zero)=some (some z)) (C:Array Value) (hC:z.cells=C)
   (h:wpList P ops Q rest (a.put o.dst (.pointer (some ⟨w.heap.size,0,none⟩))) (w.alloc (.cells C t))):wpList P ops Q (o :: rest) a w:=by
 refine wpList_plain hgd fun K hK => ?_
 obtain ⟨i,hi,hzi⟩:=Option.map_eq_some_iff.1 hz
 subst hC
 unfold Oper.wp execOp
 simp only [ho,Instr.alloc]
 simp [zeroValue,typeInfo,hi,hzi,newVar,newRow]
 exact hK _ _ h
theorem setCells_row (P:Program) (w:World) (g o:Nat) (vs:List Value) (cur:Array Value) (t:TypeId) (hg:w.heap[g]?=some (.cells cur t (0,0))) (hfit:o+vs.length≤cur.size) (h1:∀ v ∈ vs,v.oneCell'=true) :
   w.setCells g o vs=w.setRow g (cur.toList.take o ++ vs ++ cur.toList.drop (o+vs.length)).toArray:=by
 have r1:=run_storeCells_at P g o t vs 0 cur w hg (by omega) h1
 have r2:=run_storeCells_cells (P:=P) g o vs 0 w (fun j hj=>by rw [cell_of_block hg];simp;omega) (fun j hj=>by simp [World.frozen?,hg]) h1
 rw [r1] at r2
 simp only [Nat.add_zero] at r2
 have:=(Result.ok.inj r2).2
 simpa using this.symm
theorem setCells_heap (P:Program) (w:World) (g o:Nat) (vs:List Value) (cur:Array Value) (t:TypeId) (hg:w.heap[g]?=some (.cells cur t (0,0))) (hfit:o+vs.length≤cur.size) (h1:∀ v ∈ vs,v.oneCell'=true) :
   (w.setCells g o vs).heap[g]?=some (.cells (cur.toList.take o ++ vs ++ cur.toList.drop (o+vs.length)).toArray t (0,0))∧Touch (fun k=>k=g) w (w.setCells g o vs):=by
 rw [setCells_row P w g o vs cur t hg hfit h1]
 exact ⟨setRow_heap w g cur _ t _ hg,(Touch.refl _ w).setRow g _ (.inl rfl)⟩
theorem rangeAt_row {w:World} {g:Nat} {cs:List Value} {t:TypeId} {fr:Nat × Nat} (hg:w.heap[g]?=some (.cells cs.toArray t fr)):w.rangeAt g 0 cs:=by
 intro j v hv
 rw [cell_of_block hg,Nat.zero_add,List.getElem?_toArray];exact hv
theorem there_row {w:World} {g:Nat} {C:Array Value} {t:TypeId} (hg:w.heap[g]?=some (.cells C t (0,0))) (o n:Nat) (hn:o+n≤C.size):w.there g o n:=by
 intro j hj
 exact ⟨by rw [cell_of_block hg];simp;omega,by simp [World.frozen?,hg]⟩
/- Rows of bytes,and lists of lists of bytes,in memory: laws of our own;no condition. -/
theorem owns_touch {S:Nat→Prop} {w w':World} {B e sz n:Nat} {v:Value} {xs:List Value} (h:w.ownsRow B e sz v n xs) (ht:Touch S w w') (hs:∀ k,v.ownBlock=some k→¬ S k):w'.ownsRow B e sz v n xs:=by
 refine ⟨h.1,?_⟩
 rcases h.2 with h0 | ⟨g,cap,cur,hv,hb,hg,h3⟩
 · exact .inl h0
 · exact .inr ⟨g,cap,cur,hv,hb,ht.heap hg (hs g (by rw [hv];rfl)),h3⟩
theorem owns_below {w w':World} {B e sz n:Nat} {v:Value} {xs:List Value} (h:w.ownsRow B e sz v n xs) (hb:Below w.heap.size w w'):w'.ownsRow B e sz v n xs:=owns_touch h (Touch.of_below (S:=fun _=>False) hb) (fun _ _=>id)
theorem owns_block {w:World} {B e sz n:Nat} {v:Value} {xs:List Value} (h:w.ownsRow B e sz v n xs) {k:Nat} (hk:v.ownBlock=some k):∃ cur,w.heap[k]?=some (.cells cur e):=by
 rcases h.2 with ⟨rfl,_⟩ | ⟨g,cap,cur,rfl,hb,hg,h3⟩
 · cases hk
 · cases hk;exact ⟨cur,hg⟩
/- Structs of several cells in a variable,and as a result: laws of our own;no program in sight. -/
theorem wpList_store_part {P:Program} {w:World} {ops:Array Oper} {rest:List Oper} {o:Oper} {a:Act} {Q:Exit→Act→World→Prop} (hgd:o.guard=none) (t:TypeId) (x y:Operand) (ho:o.op=.store t x y)
   (bz off:Nat) (cs:List Value) (C:Array Value) (ty:TypeId) (hg:w.heap[bz]?=some (.cells C ty (0,0))) (hx:a.eval x=.pointer (some ⟨bz,off,none⟩)) (hy:a.eval y=.agg cs.toArray) (hfit:off+cs.length≤C.size)
   (hi:(P.info? t).map (·.size)=some cs.length) (h1:∀ v ∈ cs,v.oneCell'=true)
   (h:∀ w',Touch (fun k=>k=bz) w w'→w'.heap[bz]?=some (.cells (C.toList.take off ++ cs ++ C.toList.drop (off+cs.length)).toArray ty (0,0))→wpList P ops Q rest (a.put o.dst undef) w'):wpList P ops Q (o :: rest) a w:=by
 refine wpList_store_mid hgd t x y ho bz off cs.toArray hx hy (there_row hg _ _ (by simpa using hfit)) (by simpa using hi) (all_oneCell_toArray h1) ?_
 obtain ⟨g,ht⟩:=setCells_heap P w bz off cs C ty hg hfit h1
 exact h _ ht g
theorem wpList_store_whole {P:Program} {w:World} {ops:Array Oper} {rest:List Oper} {o:Oper} {a:Act} {Q:Exit→Act→World→Prop} (hgd:o.guard=none) (t:TypeId) (x y:Operand) (ho:o.op=.store t x y)
   (bz:Nat) (cs:List Value) (C:Array Value) (ty:TypeId) (hg:w.heap[bz]?=some (.cells C ty (0,0))) (hx:a.eval x=.pointer (some ⟨bz,0,none⟩)) (hy:a.eval y=.agg cs.toArray) (hfit:cs.length=C.size)
   (hi:(P.info? t).map (·.size)=some cs.length) (h1:∀ v ∈ cs,v.oneCell'=true)
   (h:∀ w',Touch (fun k=>k=bz) w w'→w'.heap[bz]?=some (.cells cs.toArray ty (0,0))→wpList P ops Q rest (a.put o.dst undef) w'):wpList P ops Q (o :: rest) a w:=by
 refine wpList_store_part hgd t x y ho bz 0 cs C ty hg hx hy (by omega) hi h1 fun w' ht hw=>h w' ht ?_
 rw [List.take_zero,List.nil_append,List.drop_eq_nil_of_le (by simp;omega),List.append_nil] at hw
 exact hw
theorem results_cell {P:Program} {fn:Func} {t:Tmp} {ty:TypeId} (h:fn.results = #[.cell t ty]) (tmps:Array Value) (w:World) (b o:Nat) (hp:tmps.getD t undef=.pointer (some ⟨b,o,none⟩)) (cs:List Value) (d:TypeDesc) (hc:w.rangeAt b o cs)
   (hu:P.underlying ty=some d) (hd:d.isRow=true) (hi:(P.info? ty).map (·.size)=some cs.length):(results fn tmps).run P w=.ok (.agg cs.toArray) w:=by
 have:=run_loadVar_mid (P:=P) w b o ty cs d hc hu hd hi
 have hp':tmps[t]?.getD undef=.pointer (some ⟨b,o,none⟩):=by rw [← hp];simp
 simp [results,h,hp',asAddr,this]
theorem results_cell_tmp {P:Program} {fn:Func} {t u:Tmp} {ty:TypeId} (h:fn.results = #[.cell t ty,.tmp u]) (tmps:Array Value) (w:World) (b o:Nat) (hp:tmps.getD t undef=.pointer (some ⟨b,o,none⟩)) (cs:List Value) (d:TypeDesc) (hc:w.rangeAt b o cs)
   (hu:P.underlying ty=some d) (hd:d.isRow=true) (hi:(P.info? ty).map (·.size)=some cs.length):(results fn tmps).run P w=.ok (.tuple #[.agg cs.toArray,tmps.getD u undef]) w:=by
 have:=run_loadVar_mid (P:=P) w b o ty cs d hc hu hd hi
 have hp':tmps[t]?.getD undef=.pointer (some ⟨b,o,none⟩):=by rw [← hp];simp
 simp [results,h,hp',asAddr,this]
/- Zeros behind a slice of bytes that is full: a law of our own;conditions: those typed. -/
/- Large values in memory: laws of our own;no program in sight. -/
theorem modify_push {α:Type} (a:Array α) (x:α) (f:α→α):(a.push x).modify a.size f=a.push (f x):=by
 apply Array.ext
 · simp
 · intro i h1 h2
   simp only [Array.getElem_modify,Array.getElem_push]
   by_cases h:a.size=i
   · subst h
     simp
   · have hi:i<a.size:=by simp at h1;omega
     simp [h,hi]
theorem setRow_alloc (w:World) (Z C:Array Value) (t:TypeId) (fz:Nat × Nat):(w.alloc (.cells Z t fz)).setRow w.heap.size C=w.alloc (.cells C t fz):=by
 unfold World.setRow
 show ({ w.alloc (.cells Z t fz) with heap:=(w.heap.push (.cells Z t fz)).modify w.heap.size _ }:World)=_
 rw [modify_push]
 rfl
theorem setCells_alloc (P:Program) (w:World) (Z C:Array Value) (t:TypeId) (hs:C.size=Z.size) (h1:∀ v ∈ C.toList,v.oneCell'=true):(w.alloc (.cells Z t)).setCells w.heap.size 0 C.toList=w.alloc (.cells C t):=by
 rw [setCells_row P (w.alloc (.cells Z t)) w.heap.size 0 C.toList Z t (heap_new w _) (by simp;omega) h1,setRow_alloc]
 congr 3
 simp
 omega
theorem wpList_declare {P:Program} {w:World} {ops:Array Oper} {rest:List Oper} {o1 o2:Oper} {a:Act} {Q:Exit→Act→World→Prop} (g1:o1.guard=none) (g2:o2.guard=none) (t:TypeId) (h1:o1.op=.alloc t) (x y:Operand) (h2:o2.op=.store t x y)
   (z:Value) (hz:(P.info? t).map (·.zero)=some (some z)) (cells:Array Value) (hzs:z.cells.size=cells.size) (hi:(P.info? t).map (·.size)=some cells.size)
   (hx:(a.put o1.dst (.pointer (some ⟨w.heap.size,0,none⟩))).eval x=.pointer (some ⟨w.heap.size,0,none⟩)) (hy:(a.put o1.dst (.pointer (some ⟨w.heap.size,0,none⟩))).eval y=.agg cells) (hone:∀ v ∈ cells.toList,v.oneCell'=true)
   (h:wpList P ops Q rest ((a.put o1.dst (.pointer (some ⟨w.heap.size,0,none⟩))).put o2.dst undef) (w.alloc (.cells cells t))):wpList P ops Q (o1 :: o2 :: rest) a w:=by
 refine wpList_alloc_any g1 t h1 z hz z.cells rfl ?_
 refine wpList_store_mid g2 t x y h2 w.heap.size 0 cells hx hy ?_ hi ?_ ?_
 · exact there_row (heap_new w _) 0 cells.size (by omega)
 · have:=all_oneCell_toArray hone
   simpa using this
 · rw [setCells_alloc P w z.cells cells t hzs.symm hone]
   exact h
theorem rangeAt_mid {w:World} {g o:Nat} {C:Array Value} {cs:List Value} {t:TypeId} {fr:Nat × Nat} (hg:w.heap[g]?=some (.cells C t fr)) (hc:(C.toList.drop o).take cs.length=cs):w.rangeAt g o cs:=by
 intro j v hv
 rw [cell_of_block hg]
 have hj:=(List.getElem?_eq_some_iff.1 hv).1
 have:((C.toList.drop o).take cs.length)[j]?=some v:=by rw [hc];exact hv
 rw [List.getElem?_take,if_pos hj,List.getElem?_drop] at this
 simpa using this
/- A store of a whole struct in a region that draws: a law of our own;no program in sight. -/
end Go.Proofs.YtmmmjohoihpbeaaGreat
