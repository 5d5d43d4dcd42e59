/- The package halls: Few;conditions: those typed. -/
import Derived.Test.YtmmmjohoihpbeaaGreatQOJwRJwTJwUJwSJwH
import Derived.Shelf.RegionOpen
namespace Go.Proofs.YtmmmjohoihpbeaaGreat
section
open Go.RowKit Go.Shelf
set_option linter.unusedVariables false
set_option linter.unusedSimpArgs false
attribute [local go_sem] Oper.semAt_some
def FewK (w:World) (x:Option Addr) (n c:Nat) (l:List Int) (b:Bool) (W:World):Prop :=
 W.heap[w.heap.size+1+1+1]?=some (.cells #[.slice x n c] 22 (0,0))∧W.heap[w.heap.size+1+1+1+1]?=some (.cells #[.bool b] 4 (0,0))∧W.heap[w.heap.size+1+1+1+1+1]?=some (.cells #[.int .i64 0] 35 (0,0))∧IsI W x n c l∧Below w.heap.size w W∧∀ k off,x=some ⟨k,off,none⟩→w.heap.size+1+1+1+1+1<k
theorem below_put {w W:World} {l:Nat} {o:Obj} (h:Below w.heap.size w W) (hl:w.heap.size≤l):Below w.heap.size w (W.putObj l o) :=
 ⟨h.os,h.tape,h.output,by rw [World.putObj_size];exact h.size,fun k hk=>by rw [World.putObj_heap_other (by omega)];exact h.block k hk⟩
theorem FewK.put {w W:World} {x:Option Addr} {n c:Nat} {l:List Int} {b:Bool} {k:Nat} {o o':Obj} (h:FewK w x n c l b W) (hk:w.heap.size≤k) (ho:W.heap[k]?=some o) (hc:o.isCells=false):FewK w x n c l b (W.putObj k o'):=by
 obtain ⟨h1,h2,h3,h4,h5,h6⟩:=h
 refine ⟨?_,?_,?_,isI_put h4 ho hc,below_put h5 hk,h6⟩
 · rw [World.putObj_heap_other (fun e=>by rw [e,ho] at h1;cases h1;cases hc)];exact h1
 · rw [World.putObj_heap_other (fun e=>by rw [e,ho] at h2;cases h2;cases hc)];exact h2
 · rw [World.putObj_heap_other (fun e=>by rw [e,ho] at h3;cases h3;cases hc)];exact h3
theorem isI_set_ty {w:World} {a:Option Addr} {n c:Nat} {l:List Int} {k i:Nat} {C:Array Value} {t:TypeId} {fz:Nat × Nat} (h:IsI w a n c l) (hx:w.heap[k]?=some (.cells C t fz)) (hC:∀ (i:Nat) (z:Int),C[i]?≠some (.int .i64 z)) (v:Value):IsI (w.setCell ⟨k,i,none⟩ v) a n c l:=by
 obtain ⟨h1,h2,h3,h4 | ⟨b,off,rfl,hlt,hc⟩⟩:=h
 · exact ⟨h1,h2,h3,.inl h4⟩
 · refine ⟨h1,h2,h3,.inr ⟨b,off,rfl,by simpa using hlt,fun i hi => ?_⟩⟩
   have hne:b≠k:=fun e=>by
     have:=hc i hi
     rw [e,cell_of_block hx] at this
     exact hC _ _ this
   rw [World.cell?_setCell_other _ _ _ _ (by simp [hne])]
   exact hc i hi
theorem isI_set_far {w:World} {a:Option Addr} {n c:Nat} {l:List Int} {k i:Nat} (h:IsI w a n c l) (hne:∀ b off,a=some ⟨b,off,none⟩→b≠k) (v:Value):IsI (w.setCell ⟨k,i,none⟩ v) a n c l:=by
 obtain ⟨h1,h2,h3,h4 | ⟨b,off,rfl,hlt,hc⟩⟩:=h
 · exact ⟨h1,h2,h3,.inl h4⟩
 · refine ⟨h1,h2,h3,.inr ⟨b,off,rfl,by simpa using hlt,fun i hi => ?_⟩⟩
   rw [World.cell?_setCell_other _ _ _ _ (by have h:=hne b off rfl;simp;try (intro e;exact absurd e.symm h))]
   exact hc i hi
theorem isI_set_bool {w:World} {a:Option Addr} {n c:Nat} {l:List Int} {k:Nat} {b:Bool} {t:TypeId} {fz:Nat × Nat} (h:IsI w a n c l) (hx:w.heap[k]?=some (.cells #[.bool b] t fz)) (v:Value):IsI (w.setCell ⟨k,0,none⟩ v) a n c l :=
 isI_set_ty h hx (fun i z e=>by
   have:=(Array.getElem?_eq_some_iff.1 e).1
   have h0:i=0:=by simp at this;omega
   subst h0;cases e) v
def FewP (g:List (List Int)) (items:Nat) (sm l:List Int) (b:Bool):Prop :=
 if b then ∃ m,m≤items∧l ∈ setsL m [] 0 items∧m<wthL g sm l∧∀ m',m'<m→∀ l' ∈ setsL m' [] 0 items,wthL g sm l'≤m'
 else l=[]∧((∃ has,MtL (aloneL g sm) has∧manyL has=sm.length)∨∀ m',m'≤items→∀ l' ∈ setsL m' [] 0 items,wthL g sm l'≤m')
def FewQ (w:World) (g:List (List Int)) (items:Nat) (sm:List Int) (e:Ending) (W:World):Prop :=
 ∃ x c l b,e=.returned (.tuple #[.slice x l.length c,.bool b,.int .i64 0])∧Below w.heap.size w W∧IsI W x l.length c l∧FewP g items sm l b∧∀ k off,x=some ⟨k,off,none⟩→w.heap.size≤k
theorem few_store {w W:World} {x:Option Addr} {n c:Nat} {l:List Int} {b b0:Bool} {x0:Option Addr} {n0 c0:Nat} {e0:Int} (hb:Below w.heap.size w W) (h3:W.heap[w.heap.size+1+1+1]?=some (.cells #[.slice x0 n0 c0] 22 (0,0))) (h4:W.heap[w.heap.size+1+1+1+1]?=some (.cells #[.bool b0] 4 (0,0))) (h5:W.heap[w.heap.size+1+1+1+1+1]?=some (.cells #[.int .i64 e0] 35 (0,0))) (hl:IsI W x n c l) (hne:∀ k off,x=some ⟨k,off,none⟩→w.heap.size+1+1+1+1+1<k) :
   FewK w x n c l b (((W.setCell ⟨w.heap.size+1+1+1,0,none⟩ (.slice x n c)).setCell ⟨w.heap.size+1+1+1+1,0,none⟩ (.bool b)).setCell ⟨w.heap.size+1+1+1+1+1,0,none⟩ (.int .i64 0)):=by
 have g3:=heap_setCell_same W (w.heap.size+1+1+1) 0 _ _ (.slice x n c) h3
 have g4:=(Below.heap_setCell W ⟨w.heap.size+1+1+1,0,none⟩ (.slice x n c) (w.heap.size+1+1+1+1) (by show w.heap.size+1+1+1+1≠w.heap.size+1+1+1;omega)).trans h4
 have g5:=(Below.heap_setCell W ⟨w.heap.size+1+1+1,0,none⟩ (.slice x n c) (w.heap.size+1+1+1+1+1) (by show w.heap.size+1+1+1+1+1≠w.heap.size+1+1+1;omega)).trans h5
 have i1:=isI_set_other hl h3 (.slice x n c)
 have b1:=hb.setCell (p:=⟨w.heap.size+1+1+1,0,none⟩) (by simp;omega) (.slice x n c)
 generalize W.setCell ⟨w.heap.size+1+1+1,0,none⟩ (.slice x n c)=W1 at *
 have k3:=(Below.heap_setCell W1 ⟨w.heap.size+1+1+1+1,0,none⟩ (.bool b) (w.heap.size+1+1+1) (by show w.heap.size+1+1+1≠w.heap.size+1+1+1+1;omega)).trans g3
 have k4:=heap_setCell_same W1 (w.heap.size+1+1+1+1) 0 _ _ (.bool b) g4
 have k5:=(Below.heap_setCell W1 ⟨w.heap.size+1+1+1+1,0,none⟩ (.bool b) (w.heap.size+1+1+1+1+1) (by show w.heap.size+1+1+1+1+1≠w.heap.size+1+1+1+1;omega)).trans g5
 have i2:IsI (W1.setCell ⟨w.heap.size+1+1+1+1,0,none⟩ (.bool b)) x n c l:=isI_set_bool i1 g4 _
 have b2:=b1.setCell (p:=⟨w.heap.size+1+1+1+1,0,none⟩) (by simp;omega) (.bool b)
 generalize W1.setCell ⟨w.heap.size+1+1+1+1,0,none⟩ (.bool b)=W2 at *
 have j3:=(Below.heap_setCell W2 ⟨w.heap.size+1+1+1+1+1,0,none⟩ (.int .i64 0) (w.heap.size+1+1+1) (by show w.heap.size+1+1+1≠w.heap.size+1+1+1+1+1;omega)).trans k3
 have j4:=(Below.heap_setCell W2 ⟨w.heap.size+1+1+1+1+1,0,none⟩ (.int .i64 0) (w.heap.size+1+1+1+1) (by show w.heap.size+1+1+1+1≠w.heap.size+1+1+1+1+1;omega)).trans k4
 have j5:=heap_setCell_same W2 (w.heap.size+1+1+1+1+1) 0 _ _ (.int .i64 0) k5
 exact ⟨j3,j4,j5,isI_set_far i2 (fun k off e=>by have:=hne k off e;omega) _,b2.setCell (p:=⟨w.heap.size+1+1+1+1+1,0,none⟩) (by simp;omega) _,hne⟩
theorem few_leaves {w:World} {g:List (List Int)} {items:Nat} {sm l:List Int} {x:Option Addr} {n c:Nat} {b:Bool} {tmps:Array Value} (h6:tmps.getD 6 undef=.pointer (some ⟨w.heap.size+1+1+1,0,none⟩)) (h7:tmps.getD 7 undef=.pointer (some ⟨w.heap.size+1+1+1+1,0,none⟩)) (h8:tmps.getD 8 undef=.pointer (some ⟨w.heap.size+1+1+1+1+1,0,none⟩))
   (hp:FewP g items sm l b) (W:World) (h:FewK w x n c l b W):∃ v,(results Tryz.f99 tmps).run Tryz.prog W=.ok v W∧FewQ w g items sm (.returned v) W:=by
 obtain ⟨h1,h2,h3,h4,h5,h9⟩:=h
 have q1:W.cell? ⟨w.heap.size+1+1+1,0,none⟩=some (.slice x n c):=by rw [cell_of_block h1];rfl
 have q2:W.cell? ⟨w.heap.size+1+1+1+1,0,none⟩=some (.bool b):=by rw [cell_of_block h2];rfl
 have q3:W.cell? ⟨w.heap.size+1+1+1+1+1,0,none⟩=some (.int .i64 0):=by rw [cell_of_block h3];rfl
 have h6':tmps[6]?.getD undef=.pointer (some ⟨w.heap.size+1+1+1,0,none⟩):=by rw [← h6];simp
 have h7':tmps[7]?.getD undef=.pointer (some ⟨w.heap.size+1+1+1+1,0,none⟩):=by rw [← h7];simp
 have h8':tmps[8]?.getD undef=.pointer (some ⟨w.heap.size+1+1+1+1+1,0,none⟩):=by rw [← h8];simp
 obtain rfl:=h4.1
 refine ⟨.tuple #[.slice x l.length c,.bool b,.int .i64 0],?_,x,c,l,b,rfl,h5,h4,hp,fun k off e=>by have:=h9 k off e;omega⟩
 simp [results,Tryz.results99,h6',h7',h8',asAddr,go_sem,q1,q2,q3]
theorem alloc6J (w:World) (o1 o2 o3 o4 o5 o6:Obj):Below w.heap.size w ((((((w.alloc o1).alloc o2).alloc o3).alloc o4).alloc o5).alloc o6)∧((((((w.alloc o1).alloc o2).alloc o3).alloc o4).alloc o5).alloc o6).heap[w.heap.size]?=some o1∧((((((w.alloc o1).alloc o2).alloc o3).alloc o4).alloc o5).alloc o6).heap[w.heap.size+1]?=some o2∧((((((w.alloc o1).alloc o2).alloc o3).alloc o4).alloc o5).alloc o6).heap[w.heap.size+1+1]?=some o3∧((((((w.alloc o1).alloc o2).alloc o3).alloc o4).alloc o5).alloc o6).heap[w.heap.size+1+1+1]?=some o4∧((((((w.alloc o1).alloc o2).alloc o3).alloc o4).alloc o5).alloc o6).heap[w.heap.size+1+1+1+1]?=some o5∧((((((w.alloc o1).alloc o2).alloc o3).alloc o4).alloc o5).alloc o6).heap[w.heap.size+1+1+1+1+1]?=some o6:=by
 obtain ⟨h0,h1,h2,h3,h4⟩:=alloc4J w o1 o2 o3 o4
 obtain ⟨g0,g1,g2⟩:=alloc2_facts ((((w.alloc o1).alloc o2).alloc o3).alloc o4) o5 o6
 rw [World.size_alloc,World.size_alloc,World.size_alloc,World.size_alloc] at g1 g2
 exact ⟨h0.trans (g0.mono h0.size),below_heap g0 h1 (lt_of_heap h1),below_heap g0 h2 (lt_of_heap h2),below_heap g0 h3 (lt_of_heap h3),below_heap g0 h4 (lt_of_heap h4),g1,g2⟩
structure FewB (w:World) (fb:Nat) (a sa:Option Addr) (n c sn sc items:Nat) (W:World):Prop where
 f:W.heap[fb]?=some (.cells #[.func (.func 114) #[] #[.pointer (some ⟨w.heap.size+1+1,0,none⟩),.pointer (some ⟨w.heap.size,0,none⟩),.pointer (some ⟨w.heap.size+1,0,none⟩)]] 48 (0,0))
 g:W.heap[w.heap.size]?=some (.cells #[.slice a n c] 23 (0,0))
 i:W.heap[w.heap.size+1]?=some (.cells #[.int .i64 (items:Int)] 3 (0,0))
 s:W.heap[w.heap.size+1+1]?=some (.cells #[.slice sa sn sc] 22 (0,0))
 r3:W.heap[w.heap.size+1+1+1]?=some (.cells #[.slice none 0 0] 22 (0,0))
 r4:W.heap[w.heap.size+1+1+1+1]?=some (.cells #[.bool false] 4 (0,0))
 r5:W.heap[w.heap.size+1+1+1+1+1]?=some (.cells #[.int .i64 0] 35 (0,0))
theorem FewB.below {w:World} {fb:Nat} {a sa:Option Addr} {n c sn sc items:Nat} {W W':World} (h:FewB w fb a sa n c sn sc items W) (hb:Below W.heap.size W W'):FewB w fb a sa n c sn sc items W' :=
 ⟨below_heap hb h.f (lt_of_heap h.f),below_heap hb h.g (lt_of_heap h.g),below_heap hb h.i (lt_of_heap h.i),below_heap hb h.s (lt_of_heap h.s),below_heap hb h.r3 (lt_of_heap h.r3),below_heap hb h.r4 (lt_of_heap h.r4),below_heap hb h.r5 (lt_of_heap h.r5)⟩
theorem few_blocks {w W W':World} {fb:Nat} {a sa:Option Addr} {n c sn sc items:Nat} (hb:Below W.heap.size W W') (hf:W'.heap[fb]?=some (.cells #[.func (.func 114) #[] #[.pointer (some ⟨w.heap.size+1+1,0,none⟩),.pointer (some ⟨w.heap.size,0,none⟩),.pointer (some ⟨w.heap.size+1,0,none⟩)]] 48 (0,0)))
   (n0:W.heap[w.heap.size]?=some (.cells #[.slice a n c] 23 (0,0))) (n1:W.heap[w.heap.size+1]?=some (.cells #[.int .i64 (items:Int)] 3 (0,0))) (n2:W.heap[w.heap.size+1+1]?=some (.cells #[.slice sa sn sc] 22 (0,0)))
   (n3:W.heap[w.heap.size+1+1+1]?=some (.cells #[.slice none 0 0] 22 (0,0))) (n4:W.heap[w.heap.size+1+1+1+1]?=some (.cells #[.bool false] 4 (0,0))) (n5:W.heap[w.heap.size+1+1+1+1+1]?=some (.cells #[.int .i64 0] 35 (0,0))):FewB w fb a sa n c sn sc items W' :=
 ⟨hf,below_heap hb n0 (lt_of_heap n0),below_heap hb n1 (lt_of_heap n1),below_heap hb n2 (lt_of_heap n2),below_heap hb n3 (lt_of_heap n3),below_heap hb n4 (lt_of_heap n4),below_heap hb n5 (lt_of_heap n5)⟩
def FewL (w W2:World) (g:List (List Int)) (items:Nat) (sm:List Int) (k:Nat) (ds:List Nat) (wr:World):Prop :=
 (∀ m',m'<k→∀ l' ∈ setsL m' [] 0 items,wthL g sm l'≤m')∧Below W2.heap.size W2 wr∧MkD w.heap.size ds wr
theorem setsL_length:∀ {m:Nat} {ah:List Int} {f it:Nat} {l:List Int},l ∈ setsL m ah f it→l.length=ah.length+m
 | 0,ah,f,it,l,h=>by rw [List.mem_singleton.1 h];rfl
 | m+1,ah,f,it,l,h=>by
   have h':l ∈ (List.range' f (it - m - f)).flatMap fun k:Nat=>setsL m (ah ++ [(k:Int)]) (k+1) it:=h
   obtain ⟨k,_,hk⟩:=List.mem_flatMap.1 h'
   have:=setsL_length hk
   rw [this];simp;omega
theorem own_pure {β:Type} {B:Nat} (K:β→Prop):OwnFrom B (fun s (_:World)=>K s):=fun s A A' row hs hg hr=>hs
theorem isI_own {w w':World} {a:Option Addr} {n c:Nat} {l:List Int} {row:Option Nat} (h:IsI w a n c l) (hg:w.grownBy w' row) (hr:∀ r,row=some r→∃ o:Obj,w.heap[r]?=some o∧o.isCells=false):IsI w' a n c l:=by
 obtain ⟨h1,h2,h3,h4 | ⟨b,off,rfl,hlt,hc⟩⟩:=h
 · exact ⟨h1,h2,h3,.inl h4⟩
 · exact ⟨h1,h2,h3,.inr ⟨b,off,rfl,Nat.lt_of_lt_of_le hlt hg.size,fun i hi=>cell_kept (hc i hi) hg hr⟩⟩
theorem heap_own {w w':World} {k:Nat} {C:Array Value} {t:TypeId} {row:Option Nat} (h:w.heap[k]?=some (.cells C t (0,0))) (hg:w.grownBy w' row) (hr:∀ r,row=some r→∃ o:Obj,w.heap[r]?=some o∧o.isCells=false):w'.heap[k]?=some (.cells C t (0,0)) :=
 (hg.block k (lt_of_heap h) (fun e=>by obtain ⟨o,h1,h2⟩:=hr k e.symm;rw [h] at h1;cases h1;cases h2)).trans h
theorem own_few {w:World} {g:List (List Int)} {items:Nat} {sm:List Int} {C:Nat} {ds:List Nat} (c:Code) (hC:w.heap.size≤C) (hlt:∀ D ∈ ds,D<C):OwnFrom C (fun (q:List SlX) W' => c=Code.ret∧(∃ x n c l,FewP g items sm l true∧FewK w x n c l true W')∧MkD w.heap.size ds W'):=fun s A A' row hs hg hr=>by
 obtain ⟨h1,⟨x,n,c,l,h2,h3,h4,h5,h6,h7,h9⟩,h8⟩:=hs
 have hr':∀ r,row=some r→∃ o:Obj,A.heap[r]?=some o∧o.isCells=false:=fun r e=>(hr r e).2
 exact ⟨h1,⟨x,n,c,l,h2,heap_own h3 hg hr',heap_own h4 hg hr',heap_own h5 hg hr',isI_own h6 hg hr',ownFrom_below (β:=Unit) (Nat.le_refl _) hC () A A' row h7 hg hr,h9⟩,own_marks (β:=Unit) w.heap.size C ds hlt () A A' row h8 hg hr⟩
set_option maxRecDepth 100000 in
set_option maxHeartbeats 8000000 in
theorem few_any (a sa:Option Addr) (n c sn sc:Nat) (g:List (List Int)) (items:Nat) (sm:List Int) (w:World) (h:IsII w a n c g) (hg:GOk g items) (hs:IsI w sa sn sc sm) (hr:RisL sm g.length) (hn1:1≤g.length) :
   Calls Tryz.prog 99 #[.slice a n c,.int .i64 items,.slice sa sn sc] w (FewQ w g items sm):=by
 have hi8:=hg.hi
 obtain ⟨b0,m0,m1,m2,m3,m4,m5⟩:=alloc6J w (.cells #[.slice a n c] 23 (0,0)) (.cells #[.int .i64 (items:Int)] 3 (0,0)) (.cells #[.slice sa sn sc] 22 (0,0)) (.cells #[.slice none 0 0] 22 (0,0)) (.cells #[.bool false] 4 (0,0)) (.cells #[.int .i64 0] 35 (0,0))
 have HI:=Lib.hid (h.below b0)
 have HS:=Lib.hid (hs.below b0)
 have HG:=Lib.hid hg
 have HR:=Lib.hid hr
 clear h hg hs hr
 refine (callsIn_wide (n:=0)).1 ?_
 refine callsIn_of_wp_marks Tryz.func99 rfl trivial ?_ rfl
 simp only [Tryz.ntmps99,List.size_toArray,List.length_cons,List.length_nil,Nat.reduceAdd,Nat.reduceSub,Array.replicate_succ,Array.replicate_zero,List.push_toArray,List.append_toArray,List.nil_append,List.cons_append]
 refine (wpIn_wide (n:=0)).2 ?_
 go_wp2_with fail
 generalize ((((((w.alloc (.cells #[.slice a n c] 23 (0,0))).alloc (.cells #[.int .i64 (items:Int)] 3 (0,0))).alloc (.cells #[.slice sa sn sc] 22 (0,0))).alloc (.cells #[.slice none 0 0] 22 (0,0))).alloc (.cells #[.bool false] 4 (0,0))).alloc (.cells #[.int .i64 0] 35 (0,0)))=W0 at b0 m0 m1 m2 m3 m4 m5 HI HS ⊢
 refine (mall_any a sa n c sn sc g items sm W0 HI.out HG.out HS.out HR.out hn1).mono ?_
 rintro e W1 ⟨hb1,has,rfl,hmt⟩
 have b1:Below w.heap.size w W1:=b0.trans (hb1.mono b0.size)
 have n0:=below_heap hb1 m0 (lt_of_heap m0)
 have n1:=below_heap hb1 m1 (lt_of_heap m1)
 have n2:=below_heap hb1 m2 (lt_of_heap m2)
 have n3:=below_heap hb1 m3 (lt_of_heap m3)
 have n4:=below_heap hb1 m4 (lt_of_heap m4)
 have n5:=below_heap hb1 m5 (lt_of_heap m5)
 have HI1:=Lib.hid (HI.out.below hb1)
 have HS1:=Lib.hid (HS.out.below hb1)
 have HMT:=Lib.hid hmt
 clear b0 hb1 m0 m1 m2 m3 m4 m5 HI HS hmt
 have f3:W1.cell? ⟨w.heap.size+1+1+1,0,none⟩=some (.slice none 0 0):=by rw [cell_of_block n3];rfl
 have f4:W1.cell? ⟨w.heap.size+1+1+1+1,0,none⟩=some (.bool false):=by rw [cell_of_block n4];rfl
 have f5:W1.cell? ⟨w.heap.size+1+1+1+1+1,0,none⟩=some (.int .i64 0):=by rw [cell_of_block n5];rfl
 have z3:W1.frozen? ⟨w.heap.size+1+1+1,0,none⟩=false:=blk_free n3
 have z4:W1.frozen? ⟨w.heap.size+1+1+1+1,0,none⟩=false:=blk_free n4
 have z5:W1.frozen? ⟨w.heap.size+1+1+1+1+1,0,none⟩=false:=blk_free n5
 by_cases hall:manyL has=sm.length
 · rw [decide_eq_true hall]
   have HP:Hid (FewP g items sm [] false):=Lib.hid ⟨rfl,.inl ⟨has,HMT.out,hall⟩⟩
   have HK:=Lib.hid (few_store (b:=false) b1 n3 n4 n5 (IsI.nil W1) (fun k off e=>by cases e))
   clear hall n0 n1 n2 n3 n4 n5
   go_wp2_with fail
   exact few_leaves rfl rfl rfl HP.out _ HK.out
 · rw [decide_eq_false hall]
   clear hall HMT f3 f4 f5 z3 z4 z5
   have k4:W1.cell? ⟨w.heap.size+1,0,none⟩=some (.int .i64 (items:Int)):=by rw [cell_of_block n1];rfl
   have hb2:Below W1.heap.size W1 (W1.alloc (.cells #[.func (.func 114) #[] #[.pointer (some ⟨w.heap.size+1+1,0,none⟩),.pointer (some ⟨w.heap.size,0,none⟩),.pointer (some ⟨w.heap.size+1,0,none⟩)]] 48 (0,0))):=(Below.refl _ _).alloc (Nat.le_refl _) _
   have hv2:=heap_new W1 (.cells #[.func (.func 114) #[] #[.pointer (some ⟨w.heap.size+1+1,0,none⟩),.pointer (some ⟨w.heap.size,0,none⟩),.pointer (some ⟨w.heap.size+1,0,none⟩)]] 48 (0,0))
   have j4:=cell_later hb2 k4
   have HI2:=Lib.hid (HI1.out.below hb2)
   have HS2:=Lib.hid (HS1.out.below hb2)
   have HN:Hid ((W1.alloc (.cells #[.func (.func 114) #[] #[.pointer (some ⟨w.heap.size+1+1,0,none⟩),.pointer (some ⟨w.heap.size,0,none⟩),.pointer (some ⟨w.heap.size+1,0,none⟩)]] 48 (0,0))).heap.size=W1.heap.size+1):=Lib.hid (World.size_alloc _ _)
   have HV:=Lib.hid (few_blocks hb2 hv2 n0 n1 n2 n3 n4 n5)
   have HB2:=Lib.hid (b1.trans (hb2.mono b1.size))
   clear n0 n1 n2 n3 n4 n5 HI1 HS1 hb2 hv2 b1
   go_wp2_with fail
   generalize (W1.alloc (.cells #[.func (.func 114) #[] #[.pointer (some ⟨w.heap.size+1+1,0,none⟩),.pointer (some ⟨w.heap.size,0,none⟩),.pointer (some ⟨w.heap.size+1,0,none⟩)]] 48 (0,0)))=W2 at j4 HI2 HS2 HN HV HB2 ⊢
   go_wp2_with fail
   refine wp_loop (fun a' wr => ∃ (k:Nat) (ds:List Nat) (u12 u13 u31 u32 u33 u34 u35 u36 u37 u38 u39 u40 u41 u42 u43 u44 u45:Value),a'={ tmps:=#[.slice a n c,.int .i64 (items:Int),.slice sa sn sc,.pointer (some ⟨w.heap.size,0,none⟩),.pointer (some ⟨w.heap.size+1,0,none⟩),.pointer (some ⟨w.heap.size+1+1,0,none⟩),.pointer (some ⟨w.heap.size+1+1+1,0,none⟩),.pointer (some ⟨w.heap.size+1+1+1+1,0,none⟩),.pointer (some ⟨w.heap.size+1+1+1+1+1,0,none⟩),.bool false,.int .i64 0,.pointer (some ⟨W1.heap.size,0,none⟩),u12,u13,.tuple #[.bool false,.int .i64 0],.slice a n c,.int .i64 (items:Int),.slice sa sn sc,.tuple #[.bool false,.int .i64 0],.bool false,.int .i64 0,.int .i64 0,.bool false,.bool false,.bool false,.bool false,undef,.func (.func 114) #[] #[.pointer (some ⟨w.heap.size+1+1,0,none⟩),.pointer (some ⟨w.heap.size,0,none⟩),.pointer (some ⟨w.heap.size+1,0,none⟩)],.int .i64 (items:Int),.int .i64 ((items:Int)+1),.int .i64 (k:Int),u31,u32,u33,u34,u35,u36,u37,u38,u39,u40,u41,u42,u43,u44,u45],defers:=marks ds }∧k≤items+1∧Hid (FewL w W2 g items sm k ds wr)) (fun a' _=>20 - (intOf (a'.tmps.getD 30 undef)).toNat) ?start ?round
   case start =>
     exact ⟨0,[],_,_,_,_,_,_,_,_,_,_,_,_,_,_,_,_,_,rfl,Nat.zero_le _,Lib.hid ⟨fun m' hm' => by omega,Below.refl _ _,MkD.nil _ _⟩⟩
   case round =>
     rintro a' wr ⟨k,ds,u12,u13,u31,u32,u33,u34,u35,u36,u37,u38,u39,u40,u41,u42,u43,u44,u45,rfl,hk,HQ⟩
     have hbel:=HQ.out.2.1
     have k4':=cell_later hbel j4
     have HBW:=Lib.hid (HB2.out.trans (hbel.mono HB2.out.size))
     have HVW:=Lib.hid (HV.out.below hbel)
     have HI3:=Lib.hid (HI2.out.below hbel)
     have HS3:=Lib.hid (HS2.out.below hbel)
     by_cases hlt:k<items+1
     · have d1:decide ((k:Int)<(items:Int)+1)=true:=decide_eq_true (by omega)
       have hb3:Below wr.heap.size wr (wr.alloc (.cells #[.int .i64 (k:Int)] 3 (0,0))):=(Below.refl _ _).alloc (Nat.le_refl _) _
       have hv3:=heap_new wr (.cells #[.int .i64 (k:Int)] 3 (0,0))
       have q4:=cell_later hb3 k4'
       have q12:(wr.alloc (.cells #[.int .i64 (k:Int)] 3 (0,0))).cell? ⟨wr.heap.size,0,none⟩=some (.int .i64 (k:Int)):=by rw [cell_of_block hv3];rfl
       have HB3:=Lib.hid hb3
       have HV3:=Lib.hid hv3
       clear hb3 hv3 hbel
       go_wp2_with fail
       generalize (wr.alloc (.cells #[.int .i64 (k:Int)] 3 (0,0)))=W3 at HB3 HV3 q4 q12 ⊢
       have hst:=sets_any none 0 0 [] 0 items k W3 (IsI.nil W3)
       rw [show ((0:Nat):Int)=0 from rfl] at hst
       refine hst.mono ?_
       rintro e W4 ⟨tb,ab,fb,ib,rfl,hb4,hs4⟩
       have HBQ:Hid (Below wr.heap.size wr W4):=Lib.hid (HB3.out.trans (hb4.mono HB3.out.size))
       have HVX:=Lib.hid (HVW.out.below HBQ.out)
       have HIX:=Lib.hid (HI3.out.below HBQ.out)
       have HSX:=Lib.hid (HS3.out.below HBQ.out)
       have HBX:=Lib.hid (HBW.out.trans (HBQ.out.mono HBW.out.size))
       have HQX:Hid (FewL w W2 g items sm k ds W4):=Lib.hid ⟨HQ.out.1,HQ.out.2.1.trans (HBQ.out.mono HQ.out.2.1.size),HQ.out.2.2.below HBQ.out⟩
       have HS4:=Lib.hid hs4
       have HK12:Hid (W4.cell? ⟨wr.heap.size,0,none⟩=some (.int .i64 (k:Int))):=Lib.hid (cell_later hb4 q12)
       have hwz:w.heap.size≤W4.heap.size:=HBX.out.size
       clear hst hb4 hs4 q4 q12
       go_wp2_with fail
       refine wp_rangeR (X:=SlX) (gf:=159) (lb:=#[.pointer (some ⟨tb,0,none⟩),.pointer (some ⟨ab,0,none⟩),.pointer (some ⟨fb,0,none⟩),.pointer (some ⟨ib,0,none⟩)]) rfl (enters_of Tryz.func159 (by kernel_rfl) rfl)
         (sets1_ok (· ∈ setsL k [] 0 items) items hi8 k (by omega) [] 0 W4 tb ab fb ib (Nat.zero_le _) (Nat.zero_le _) HS4.out (fun l hl=>hl)) (Below.refl _ _) (fun _=>rfl) (SlX.put _)
         (fun q W' => (∀ y ∈ q,wthL g sm y.l≤k)∧Below W4.heap.size W4 W'∧MkD w.heap.size ds W')
         (fun c q W' => c=Code.ret∧(∃ x n c l,FewP g items sm l true∧FewK w x n c l true W')∧MkD w.heap.size ds W')
         (OwnFrom.and (own_pure _) (OwnFrom.and (ownFrom_below (Nat.le_refl _) (Nat.le_refl _)) (own_marks _ _ _ HQX.out.2.2.lt)))
         (fun c=>own_few c hwz HQX.out.2.2.lt)
         ⟨by simp,Below.refl _ _,HQX.out.2.2⟩ ?_ ?_ ?_ ?_ ?_
       rotate_left
       · intro l' y Wx K hK
         dsimp only [SlX.enc]
         gi_wp2
         exact hK
       · rintro l' q y Wx hsz ⟨hq,hb,hm'⟩ ⟨hy,hM⟩
         have HVx:=HVX.out.below hb
         have p1:Wx.cell? ⟨W1.heap.size,0,none⟩=some (.func (.func 114) #[] #[.pointer (some ⟨w.heap.size+1+1,0,none⟩),.pointer (some ⟨w.heap.size,0,none⟩),.pointer (some ⟨w.heap.size+1,0,none⟩)]):=by rw [cell_of_block HVx.f];rfl
         have p2:=cell_later hb HK12.out
         have hcall:=fun W=>(enters_of Tryz.func114 (by kernel_rfl) rfl) (#[.slice y.a y.n y.c] ++ #[.pointer (some ⟨w.heap.size+1+1,0,none⟩),.pointer (some ⟨w.heap.size,0,none⟩),.pointer (some ⟨w.heap.size+1,0,none⟩)]) W
         have hdx:Below Wx.heap.size Wx Wx.drew:=(Below.refl _ _).drew
         have HW:=Lib.hid (fwithin_any (w.heap.size+1+1) w.heap.size (w.heap.size+1) a sa y.a n c sn sc y.n y.c g items sm y.l Wx.drew (HVx.below hdx).s (HVx.below hdx).g (HVx.below hdx).i (HIX.out.below (hb.trans (hdx.mono hb.size))) HG.out (HSX.out.below (hb.trans (hdx.mono hb.size))) HR.out (hy.below hdx))
         have hmix:Tryz.prog.follows .mixedOrders=true:=by kernel_rfl
         have HBx:=Lib.hid hb
         have HMx:=Lib.hid hm'
         have HQx:=Lib.hid hq
         have HYx:=Lib.hid hy
         have HMEM:=Lib.hid hM
         have HVx':=Lib.hid HVx
         clear hb hm' hq hy hM HVx
         have hlen:=setsL_length HMEM.out
         have HLEN:Hid (y.l.length≤17592186044416):=Lib.hid (by rw [hlen];simp;omega)
         clear hlen
         by_cases hov:k<wthL g sm y.l
         · have d2:decide ((k:Int)<(wthL g sm y.l:Int))=true:=decide_eq_true (by omega)
           have d3:decide (k<wthL g sm y.l)=true:=decide_eq_true hov
           have HP:Hid (FewP g items sm y.l true):=Lib.hid ⟨k,by omega,HMEM.out,hov,HQ.out.1⟩
           clear hov
           gi_wp2_with fail
           gi_region_with_o (refine ⟨trivial,rfl,?_⟩;refine (CallsIn.inRound l' (callsIn_wide.2 HW.out)).mono ?_;rintro e w5 ⟨rfl,hb5⟩;have hB5:=hdx.trans (hb5.mono hdx.size);have p3:=cell_later hB5 p2)
           all_goals
             have HB5:=Lib.hid hB5
             have HV5:=HVx'.out.below hB5
             have HY5:=Lib.hid (HYx.out.below hB5)
             have HM5:=Lib.hid (HMx.out.below hB5)
             clear p1 p2 p3 hb5 hB5 hcall hdx HW
             gi_wp2_with fail
             refine ⟨trivial,rfl,?_⟩
             refine (CallsIn.inRound l' (callsIn_wide.2 (iclone_any y.a y.n y.c y.l w5 HY5.out HLEN.out))).mono ?_
             rintro e w6 ⟨a6,c6,rfl,hb6,ho6⟩
             obtain ⟨r1,r2,r3⟩:=owns_caps ho6
             have HV6:=HV5.below hb6
             have f3:w6.cell? ⟨w.heap.size+1+1+1,0,none⟩=some (.slice none 0 0):=by rw [cell_of_block HV6.r3];rfl
             have f4:w6.cell? ⟨w.heap.size+1+1+1+1,0,none⟩=some (.bool false):=by rw [cell_of_block HV6.r4];rfl
             have f5:w6.cell? ⟨w.heap.size+1+1+1+1+1,0,none⟩=some (.int .i64 0):=by rw [cell_of_block HV6.r5];rfl
             have z3:w6.frozen? ⟨w.heap.size+1+1+1,0,none⟩=false:=blk_free HV6.r3
             have z4:w6.frozen? ⟨w.heap.size+1+1+1+1,0,none⟩=false:=blk_free HV6.r4
             have z5:w6.frozen? ⟨w.heap.size+1+1+1+1+1,0,none⟩=false:=blk_free HV6.r5
             have HX6:Hid (Below Wx.heap.size Wx w6):=Lib.hid (HB5.out.trans (hb6.mono HB5.out.size))
             have HW6:Hid (Below w.heap.size w w6):=Lib.hid (HBX.out.trans ((HBx.out.trans (HX6.out.mono HBx.out.size)).mono HBX.out.size))
             have HFK:=Lib.hid (few_store (b:=true) HW6.out HV6.r3 HV6.r4 HV6.r5 (isI_of_owns ho6 rfl).clip (fun k' off e=>by
               subst e
               have h1:=owns_base ho6 k' rfl
               have h2:=lt_of_heap HV5.r5
               omega))
             have HMM:Hid (MkD w.heap.size ds (((w6.setCell ⟨w.heap.size+1+1+1,0,none⟩ (.slice a6 y.l.length y.l.length)).setCell ⟨w.heap.size+1+1+1+1,0,none⟩ (.bool true)).setCell ⟨w.heap.size+1+1+1+1+1,0,none⟩ (.int .i64 0))∧KeepsFrom W4.heap.size Wx (((w6.setCell ⟨w.heap.size+1+1+1,0,none⟩ (.slice a6 y.l.length y.l.length)).setCell ⟨w.heap.size+1+1+1+1,0,none⟩ (.bool true)).setCell ⟨w.heap.size+1+1+1+1+1,0,none⟩ (.int .i64 0))):=Lib.hid (by
               have hk:KeepsFrom w.heap.size Wx (((w6.setCell ⟨w.heap.size+1+1+1,0,none⟩ (.slice a6 y.l.length y.l.length)).setCell ⟨w.heap.size+1+1+1+1,0,none⟩ (.bool true)).setCell ⟨w.heap.size+1+1+1+1+1,0,none⟩ (.int .i64 0)):=(below_keeps HX6.out).trans ((((KeepsOthers.setCell _ _ _).trans (KeepsOthers.setCell _ _ _)).trans (KeepsOthers.setCell _ _ _)).from _)
               exact ⟨HMx.out.keeps hk (Nat.le_refl _),keeps_mono hk hwz⟩)
             clear hb6 ho6 HV6 HV5
             gi_wp2_with fail
             refine ⟨trivial,rfl,?_⟩
             refine (CallsIn.inRound l' (callsIn_wide.2 (iclip_any a6 y.l.length c6 w6 r1 r2 r3))).mono ?_
             rintro e w7 ⟨rfl,rfl⟩
             gi_wp2_with fail
             exact ⟨HMM.out.2,rfl,⟨a6,y.l.length,y.l.length,y.l,HP.out,HFK.out⟩,HMM.out.1⟩
         · have d2:decide ((k:Int)<(wthL g sm y.l:Int))=false:=decide_eq_false (by omega)
           have d3:decide (k<wthL g sm y.l)=false:=decide_eq_false hov
           have HP:Hid (∀ z ∈ q ++ [y],wthL g sm z.l≤k):=Lib.hid (fun z hz=>by
             rcases List.mem_append.1 hz with hz | hz
             · exact HQx.out z hz
             · rw [List.mem_singleton.1 hz];omega)
           clear hov
           gi_wp2_with fail
           gi_region_with_o (refine ⟨trivial,rfl,?_⟩;refine (CallsIn.inRound l' (callsIn_wide.2 HW.out)).mono ?_;rintro e w5 ⟨rfl,hb5⟩;have hB5:=hdx.trans (hb5.mono hdx.size);have p3:=cell_later hB5 p2)
           all_goals
             have HE:Hid (Below Wx.heap.size Wx w5∧Below W4.heap.size W4 w5∧MkD w.heap.size ds w5):=Lib.hid ⟨hB5,HBx.out.trans (hB5.mono HBx.out.size),HMx.out.below hB5⟩
             clear p1 p2 p3 hb5 hB5 hcall hdx HW
             gi_wp2_with fail
             exact ⟨HE.out.1,HP.out,HE.out.2⟩
       · rintro D ys Wd hD hS ⟨hq,hb,hm'⟩ hK
         have HE:Hid (FewL w W2 g items sm (k+1) (D :: ds) Wd):=Lib.hid ⟨fun m' hm2 l' hl' => by
           by_cases e:m'=k
           · subst e
             rw [← hS] at hl'
             obtain ⟨y,hy,rfl⟩:=List.mem_map.1 hl'
             exact hq y hy
           · exact HQ.out.1 m' (by omega) l' hl',HQX.out.2.1.trans (hb.mono HQX.out.2.1.size),hm'.cons hK hwz hD HQX.out.2.2.lt⟩
         clear hS hq hb hm' hK
         go_wp2_with fail
         refine ⟨⟨k+1,D :: ds,_,_,_,_,_,_,_,_,_,_,_,_,_,_,_,_,_,rfl,by omega,HE⟩,?_⟩
         simp [intOf]
         omega
       · rintro D cc q Wd hD ⟨rfl,⟨x,n',c',l,hp,hk'⟩,hm'⟩ hK
         have HE:=Lib.hid (hm'.cons hK hwz hD HQX.out.2.2.lt)
         have HP:=Lib.hid hp
         have HK:=Lib.hid hk'
         clear hp hk' hm' hK
         go_wp2_with fail
         exact leaves_marks (B:=w.heap.size) (fun W' => FewK w x n' c' l true W') (fun W' l' h hl' ho=>h.put hl' ho rfl) (fun W' hW' => few_leaves rfl rfl rfl HP.out W' hW') (D :: ds) Wd HE.out HK.out
     · have d1:decide ((k:Int)<(items:Int)+1)=false:=decide_eq_false (by omega)
       have HP:Hid (FewP g items sm [] false):=Lib.hid ⟨rfl,.inr (fun m' hm' => HQ.out.1 m' (by omega))⟩
       have HK:=Lib.hid (few_store (b:=false) HBW.out HVW.out.r3 HVW.out.r4 HVW.out.r5 (IsI.nil wr) (fun k off e=>by cases e))
       have HM:Hid (MkD w.heap.size ds (((wr.setCell ⟨w.heap.size+1+1+1,0,none⟩ (.slice none 0 0)).setCell ⟨w.heap.size+1+1+1+1,0,none⟩ (.bool false)).setCell ⟨w.heap.size+1+1+1+1+1,0,none⟩ (.int .i64 0))):=Lib.hid (HQ.out.2.2.keeps ((((KeepsOthers.setCell _ _ _).trans (KeepsOthers.setCell _ _ _)).trans (KeepsOthers.setCell _ _ _)).from w.heap.size) (Nat.le_refl _))
       have f3:wr.cell? ⟨w.heap.size+1+1+1,0,none⟩=some (.slice none 0 0):=by rw [cell_of_block HVW.out.r3];rfl
       have f4:wr.cell? ⟨w.heap.size+1+1+1+1,0,none⟩=some (.bool false):=by rw [cell_of_block HVW.out.r4];rfl
       have f5:wr.cell? ⟨w.heap.size+1+1+1+1+1,0,none⟩=some (.int .i64 0):=by rw [cell_of_block HVW.out.r5];rfl
       have z3:wr.frozen? ⟨w.heap.size+1+1+1,0,none⟩=false:=blk_free HVW.out.r3
       have z4:wr.frozen? ⟨w.heap.size+1+1+1+1,0,none⟩=false:=blk_free HVW.out.r4
       have z5:wr.frozen? ⟨w.heap.size+1+1+1+1+1,0,none⟩=false:=blk_free HVW.out.r5
       clear hbel
       go_wp2_with fail
       exact leaves_marks (B:=w.heap.size) (fun W' => FewK w none 0 0 [] false W') (fun W' l' h hl' ho=>h.put hl' ho rfl) (fun W' hW' => few_leaves rfl rfl rfl HP.out W' hW') ds _ HM.out HK.out
end
end Go.Proofs.YtmmmjohoihpbeaaGreat
