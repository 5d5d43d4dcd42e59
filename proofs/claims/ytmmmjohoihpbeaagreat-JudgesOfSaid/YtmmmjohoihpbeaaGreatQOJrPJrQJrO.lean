/- The statements' helpers MarketSize,TwinOutcome,LeftMarket,LeftOutcome;conditions: those typed. -/
import Derived.Test.YtmmmjohoihpbeaaGreatQOStMktJwEJwTm
import Derived.Test.YtmmmjohoihpbeaaGreatQOJrAJrT
import Derived.Test.YtmmmjohoihpbeaaGreatQOJmiJwOfJwEvJwVw
import Derived.Test.YtmmmjohoihpbeaaGreatQOMChkJwAr
namespace Go.Proofs.YtmmmjohoihpbeaaGreat
section
open Go.RowKit Go.Shelf
set_option linter.unusedVariables false
set_option linter.unusedSimpArgs false
attribute [local go_sem] Oper.semAt_some
theorem isize_any (a:Option Addr) (n c:Nat) (l:List Int) (w:World) (h:IsI w a n c l) :
   Calls Tryz.prog 22 #[.slice a n c] w fun e w' => e=.returned (.int .i64 (l.length:Int))∧w=w':=by
 obtain rfl:=h.1
 clear h
 go_enter Tryz.func22,Tryz.ntmps22
 go_wp2_with fail
 go_ret
 exact ⟨rfl,rfl⟩
set_option maxRecDepth 100000 in
set_option maxHeartbeats 4000000 in
theorem ilsize_any (a:Option Addr) (n c:Nat) (L:List (List Int)) (w:World) (h:IsIL w a n c L) (hb:L.length≤17592186044416) (hl:∀ l ∈ L,l.length≤17592186044416) :
   Calls Tryz.prog 23 #[.slice a n c] w fun e w' => ∃ z:Int,e=.returned (.int .i64 z)∧w=w'∧0≤z∧z≤35184372088832∧(z≤1000→L.length≤1000∧∀ l ∈ L,l.length≤1000):=by
 obtain rfl:=h.1
 have HI:=Lib.hid h
 have HLB:=Lib.hid hl
 obtain ⟨N,hN⟩:∃ N,N=L.length:=⟨_,rfl⟩
 have HN:=Lib.hid hN
 clear h hl hN
 go_enter Tryz.func23,Tryz.ntmps23
 go_wp2_with fail
 go_loop [3,4] (fun nv i => ∃ (j:Nat) (z:Int),j≤L.length∧nv=.int .i64 z∧i=.int .i64 (j:Int)∧Hid ((L.length:Int)≤z∧z≤35184372088832∧∀ q (h:q<L.length),q<j→(L[q].length:Int)≤z)) (fun _ i=>N - (intOf i).toNat)
 case atStart=>exact ⟨0,L.length,Nat.zero_le _,rfl,rfl,Lib.hid ⟨Int.le_refl _,by omega,fun q h h0=>by omega⟩⟩
 case round =>
   obtain ⟨j,z,hj,rfl,rfl,HZ⟩:=hrel
   obtain ⟨hz1,hz2,_⟩:=HZ.out
   by_cases hlt:j<L.length
   · by_cases hz:z≤1048576
     · have dz:decide (z≤1048576)=true:=decide_eq_true hz
       obtain ⟨b,off,x,y,rfl,_,hc,hI⟩:=HI.out.at hlt
       have hlj:=HLB.out _ (List.getElem_mem hlt)
       have HI2:=Lib.hid hI
       have HZ2:Hid ((L.length:Int)≤z+L[j].length∧z+L[j].length≤35184372088832∧∀ q (h:q<L.length),q<j+1→(L[q].length:Int)≤z+L[j].length):=Lib.hid ⟨by omega,by omega,fun q h hq=>by
         by_cases e:q=j
         · subst e;omega
         · have:=HZ.out.2.2 q h (by omega);omega⟩
       generalize L[j]=row at hc hlj HI2 HZ2
       have hw:wrap64 (z+(row.length:Int))=z+(row.length:Int):=by unfold wrap64;omega
       clear hI hz
       go_wp2_with fail
       refine (isize_any x row.length y row w HI2.out).mono ?_
       rintro e w2 ⟨rfl,rfl⟩
       go_wp2_with fail
       go_round
       case rel=>exact ⟨j+1,z+row.length,by omega,by first | rfl | rw [hw],by go_num,HZ2⟩
       case measure=>have:=HN.out;simp [intOf];omega
     · have dz:decide (z≤1048576)=false:=decide_eq_false hz
       have HE:Hid (0≤z∧z≤35184372088832∧(z≤1000→L.length≤1000∧∀ l ∈ L,l.length≤1000)):=Lib.hid ⟨by omega,by omega,fun e=>by omega⟩
       clear hz
       go_wp2_with fail
       go_ret
       exact ⟨z,rfl,rfl,HE.out⟩
   · have hjj:j=L.length:=by omega
     have HE:Hid (0≤z∧z≤35184372088832∧(z≤1000→L.length≤1000∧∀ l ∈ L,l.length≤1000)):=Lib.hid ⟨by omega,by omega,fun e=>⟨by omega,fun l hl=>by
       obtain ⟨q,hq,rfl⟩:=List.getElem_of_mem hl
       have:=HZ.out.2.2 q hq (by omega)
       omega⟩⟩
     subst hjj
     clear hz1 hz2
     go_wp2_with fail
     go_ret
     exact ⟨z,rfl,rfl,HE.out⟩
structure FtMk (m:MkC):Prop where
 r:m.r.length≤17592186044416
 b:m.b.length≤17592186044416
 e:∀ l ∈ m.b,l.length≤17592186044416
 o:m.o.length≤17592186044416
set_option maxRecDepth 100000 in
set_option maxHeartbeats 4000000 in
theorem mksize_any (x:MkA) (m:MkC) (w:World) (h:IsMk w (fun _=>True) x m) (hf:FtMk m) :
   Calls Tryz.prog 7 #[.agg x.cells.toArray] w fun e w' => ∃ z:Int,e=.returned (.int .i64 z)∧Below w.heap.size w w'∧0≤z∧z≤140737488355328∧(z≤1000→SmMk m):=by
 obtain ⟨ra,rn,rc,ba,bn,bc,bv,oa,on,oc⟩:=x
 have hr:=h.r.1
 have hbb:=h.b
 have ho:=h.o.1
 unfold MkA.cells
 dsimp only at hr hbb ho ⊢
 obtain rfl:=hr.1
 obtain rfl:=hbb.1
 obtain rfl:=ho.1
 obtain ⟨f1,f2,f3,f4⟩:=hf
 have hb0:Below w.heap.size w (w.alloc (.cells #[.slice ra m.r.length rc,.slice ba m.b.length bc,.slice oa m.o.length oc] 25)):=(Below.refl _ _).alloc (Nat.le_refl _) _
 have hv:=heap_new w (.cells #[.slice ra m.r.length rc,.slice ba m.b.length bc,.slice oa m.o.length oc] 25 (0,0))
 have HR:=Lib.hid (hr.below hb0)
 have HB:=Lib.hid (hbb.isIL.below hb0)
 have HO:=Lib.hid (ho.below hb0)
 have HF3:=Lib.hid f3
 clear h hr hbb ho f3
 go_enter Tryz.func7,Tryz.ntmps7
 go_wp2_with fail
 generalize w.alloc (.cells #[.slice ra m.r.length rc,.slice ba m.b.length bc,.slice oa m.o.length oc] 25)=W at hb0 hv HR HB HO ⊢
 have c0:W.cell? ⟨w.heap.size,0,none⟩=some (.slice ra m.r.length rc):=by rw [cell_of_block hv];rfl
 have c1:W.cell? ⟨w.heap.size,1,none⟩=some (.slice ba m.b.length bc):=by rw [cell_of_block hv];rfl
 have c2:W.cell? ⟨w.heap.size,2,none⟩=some (.slice oa m.o.length oc):=by rw [cell_of_block hv];rfl
 have HB0:=Lib.hid hb0
 clear hb0 hv
 go_wp2_with fail
 refine (isize_any ra m.r.length rc m.r W HR.out).mono ?_
 rintro e w2 ⟨rfl,rfl⟩
 have hw1:wrap64 (1+(m.r.length:Int))=1+(m.r.length:Int):=by unfold wrap64;omega
 by_cases n1:1+(m.r.length:Int)≤1048576
 case neg =>
   have d1:decide (1+(m.r.length:Int)≤1048576)=false:=decide_eq_false n1
   have HE:Hid (0≤1+(m.r.length:Int)∧1+(m.r.length:Int)≤140737488355328∧(1+(m.r.length:Int)≤1000→SmMk m)):=Lib.hid ⟨by omega,by omega,fun e=>by omega⟩
   clear n1
   go_wp2_with fail
   go_ret
   exact ⟨_,rfl,HB0.out,HE.out⟩
 case pos =>
 have d1:decide (1+(m.r.length:Int)≤1048576)=true:=decide_eq_true n1
 go_wp2_with fail
 refine (ilsize_any ba m.b.length bc m.b W HB.out f2 HF3.out).mono ?_
 rintro e w3 ⟨z,rfl,rfl,hz0,hz1,hz2⟩
 have HZ:=Lib.hid hz2
 clear hz2
 have hw2:wrap64 (1+(m.r.length:Int)+z)=1+(m.r.length:Int)+z:=by unfold wrap64;omega
 by_cases n2:1+(m.r.length:Int)+z≤1048576
 case neg =>
   have d2:decide (1+(m.r.length:Int)+z≤1048576)=false:=decide_eq_false n2
   have HE:Hid (0≤1+(m.r.length:Int)+z∧1+(m.r.length:Int)+z≤140737488355328∧(1+(m.r.length:Int)+z≤1000→SmMk m)):=Lib.hid ⟨by omega,by omega,fun e=>by omega⟩
   clear n1 n2
   go_wp2_with fail
   go_ret
   exact ⟨_,rfl,HB0.out,HE.out⟩
 case pos =>
 have d2:decide (1+(m.r.length:Int)+z≤1048576)=true:=decide_eq_true n2
 go_wp2_with fail
 refine (isize_any oa m.o.length oc m.o W HO.out).mono ?_
 rintro e w4 ⟨rfl,rfl⟩
 have hw3:wrap64 (1+(m.r.length:Int)+z+(m.o.length:Int))=1+(m.r.length:Int)+z+(m.o.length:Int):=by unfold wrap64;omega
 have HE:Hid (0≤1+(m.r.length:Int)+z+(m.o.length:Int)∧1+(m.r.length:Int)+z+(m.o.length:Int)≤140737488355328∧(1+(m.r.length:Int)+z+(m.o.length:Int)≤1000→SmMk m)):=Lib.hid ⟨by omega,by omega,fun e=>by
   obtain ⟨h1,h2⟩:=HZ.out (by omega)
   exact ⟨by omega,by omega,fun l hl=>Nat.le_trans (h2 l hl) (by decide),by omega⟩⟩
 clear n1 n2
 go_wp2_with fail
 go_ret
 exact ⟨_,rfl,HB0.out,HE.out⟩
set_option maxRecDepth 100000 in
set_option maxHeartbeats 4000000 in
theorem leftO_any (gh gp:Nat) (ha pa:Option Addr) (hn hc pn pc:Nat) (has P:List Int) (w:World) (hh:IsI w ha hn hc has) (hp:IsI w pa pn pc P) (h1:has.length≤1000000000) (h2:P.length≤1000000000) (t1:TwJ w gh has) (t2:TwJ w gp P) :
   Calls Tryz.prog 17 #[.agg #[.slice (some ⟨gh,0,none⟩) has.length (has.length+1),.slice (some ⟨gp,0,none⟩) P.length (P.length+1)],.agg #[.slice ha hn hc,.slice pa pn pc]] w fun e w' => e=.returned (.bool true)∧Below w.heap.size w w':=by
 obtain rfl:=hh.1
 obtain rfl:=hp.1
 obtain ⟨hb0,m0,m1⟩:=alloc2_facts w (.cells #[.slice (some ⟨gh,0,none⟩) has.length (has.length+1),.slice (some ⟨gp,0,none⟩) P.length (P.length+1)] 27 (0,0)) (.cells #[.slice ha has.length hc,.slice pa P.length pc] 27 (0,0))
 have HH:=Lib.hid (hh.below hb0)
 have HP:=Lib.hid (hp.below hb0)
 have HT1:Hid (TwJ ((w.alloc (.cells #[.slice (some ⟨gh,0,none⟩) has.length (has.length+1),.slice (some ⟨gp,0,none⟩) P.length (P.length+1)] 27 (0,0))).alloc (.cells #[.slice ha has.length hc,.slice pa P.length pc] 27 (0,0))) gh has):=Lib.hid (below_heap hb0 t1 (lt_of_heap t1))
 have HT2:Hid (TwJ ((w.alloc (.cells #[.slice (some ⟨gh,0,none⟩) has.length (has.length+1),.slice (some ⟨gp,0,none⟩) P.length (P.length+1)] 27 (0,0))).alloc (.cells #[.slice ha has.length hc,.slice pa P.length pc] 27 (0,0))) gp P):=Lib.hid (below_heap hb0 t2 (lt_of_heap t2))
 clear hh hp t1 t2
 go_enter Tryz.func17,Tryz.ntmps17
 go_wp2_with fail
 generalize ((w.alloc (.cells #[.slice (some ⟨gh,0,none⟩) has.length (has.length+1),.slice (some ⟨gp,0,none⟩) P.length (P.length+1)] 27 (0,0))).alloc (.cells #[.slice ha has.length hc,.slice pa P.length pc] 27 (0,0)))=W at hb0 m0 m1 HH HP HT1 HT2 ⊢
 have HC:Hid (∀ W',Below W.heap.size W W'→W'.cell? ⟨w.heap.size,0,none⟩=some (.slice (some ⟨gh,0,none⟩) has.length (has.length+1))∧W'.cell? ⟨w.heap.size,1,none⟩=some (.slice (some ⟨gp,0,none⟩) P.length (P.length+1))∧W'.cell? ⟨w.heap.size+1,0,none⟩=some (.slice ha has.length hc)∧W'.cell? ⟨w.heap.size+1,1,none⟩=some (.slice pa P.length pc)):=Lib.hid (fun W' hW=>by
   have h0:=below_heap hW m0 (lt_of_heap m0)
   have h1:=below_heap hW m1 (lt_of_heap m1)
   refine ⟨?_,?_,?_,?_⟩ <;> first | (rw [cell_of_block h0];rfl) | (rw [cell_of_block h1];rfl))
 have HB0:=Lib.hid hb0
 obtain ⟨c0,c1,c2,c3⟩:=HC.out W (Below.refl _ _)
 clear hb0 m0 m1
 go_wp2_with fail
 refine (leftI_any gh ha has.length hc has W h1 HH.out HT1.out.twin).mono ?_
 rintro e w1 ⟨rfl,hb1⟩
 have HB1:=Lib.hid hb1
 obtain ⟨k0,k1,k2,k3⟩:=HC.out w1 hb1
 have HT2':Hid (TwJ w1 gp P):=Lib.hid (below_heap hb1 HT2.out (lt_of_heap HT2.out))
 clear hb1 c0 c1 c2 c3
 go_wp2_with fail
 refine (leftI_any gp pa P.length pc P w1 h2 (HP.out.below HB1.out) HT2'.out.twin).mono ?_
 rintro e w2 ⟨rfl,hb2⟩
 have HB2:=Lib.hid (HB0.out.trans ((HB1.out.trans (hb2.mono HB1.out.size)).mono HB0.out.size))
 clear hb2 k0 k1 k2 k3
 go_wp2_with fail
 go_ret
 exact ⟨rfl,HB2.out⟩
set_option maxRecDepth 100000 in
set_option maxHeartbeats 8000000 in
theorem leftMk_any (B gr gl:Nat) (gs:List Nat) (gz go:Nat) (x:MkA) (m:MkC) (w:World) (h:IsMk w (fun _=>True) x m) (hs:SmMk m) (ht:TwMk w B gr gl gs gz go m) :
   Calls Tryz.prog 16 #[.agg #[.slice (some ⟨gr,0,none⟩) m.r.length (m.r.length+1),.slice (some ⟨gl,0,none⟩) m.b.length (m.b.length+1),.slice (some ⟨go,0,none⟩) m.o.length (m.o.length+1)],.agg x.cells.toArray] w fun e w' => e=.returned (.bool true)∧Below w.heap.size w w':=by
 obtain ⟨ra,rn,rc,ba,bn,bc,bv,oa,on,oc⟩:=x
 have hr:=h.r.1
 have hbb:=h.b
 have ho:=h.o.1
 unfold MkA.cells
 dsimp only at hr hbb ho ⊢
 obtain rfl:=hr.1
 obtain rfl:=hbb.1
 obtain rfl:=ho.1
 obtain ⟨s1,s2,s3,s4⟩:=hs
 obtain ⟨hb0,m0,m1⟩:=alloc2_facts w (.cells #[.slice (some ⟨gr,0,none⟩) m.r.length (m.r.length+1),.slice (some ⟨gl,0,none⟩) m.b.length (m.b.length+1),.slice (some ⟨go,0,none⟩) m.o.length (m.o.length+1)] 25 (0,0)) (.cells #[.slice ra m.r.length rc,.slice ba m.b.length bc,.slice oa m.o.length oc] 25 (0,0))
 have HM:=Lib.hid (h.below hb0)
 have HT:=Lib.hid (ht.below hb0)
 have HS3:=Lib.hid s3
 clear h hr hbb ho ht s3
 go_enter Tryz.func16,Tryz.ntmps16
 go_wp2_with fail
 generalize ((w.alloc (.cells #[.slice (some ⟨gr,0,none⟩) m.r.length (m.r.length+1),.slice (some ⟨gl,0,none⟩) m.b.length (m.b.length+1),.slice (some ⟨go,0,none⟩) m.o.length (m.o.length+1)] 25 (0,0))).alloc (.cells #[.slice ra m.r.length rc,.slice ba m.b.length bc,.slice oa m.o.length oc] 25 (0,0)))=W at hb0 m0 m1 HM HT ⊢
 have HC:Hid (∀ W',Below W.heap.size W W'→(W'.cell? ⟨w.heap.size,0,none⟩=some (.slice (some ⟨gr,0,none⟩) m.r.length (m.r.length+1))∧W'.cell? ⟨w.heap.size,1,none⟩=some (.slice (some ⟨gl,0,none⟩) m.b.length (m.b.length+1))∧W'.cell? ⟨w.heap.size,2,none⟩=some (.slice (some ⟨go,0,none⟩) m.o.length (m.o.length+1)))∧W'.cell? ⟨w.heap.size+1,0,none⟩=some (.slice ra m.r.length rc)∧W'.cell? ⟨w.heap.size+1,1,none⟩=some (.slice ba m.b.length bc)∧W'.cell? ⟨w.heap.size+1,2,none⟩=some (.slice oa m.o.length oc)):=Lib.hid (fun W' hW=>by
   have h0:=below_heap hW m0 (lt_of_heap m0)
   have h1:=below_heap hW m1 (lt_of_heap m1)
   refine ⟨⟨?_,?_,?_⟩,?_,?_,?_⟩ <;> first | (rw [cell_of_block h0];rfl) | (rw [cell_of_block h1];rfl))
 have HB0:=Lib.hid hb0
 obtain ⟨⟨c0,c1,c2⟩,c3,c4,c5⟩:=HC.out W (Below.refl _ _)
 clear hb0 m0 m1
 go_wp2_with fail
 refine (leftI_any gr ra m.r.length rc m.r W (by omega) HM.out.r.1 HT.out.r.twin).mono ?_
 rintro e w1 ⟨rfl,hb1⟩
 have HB1:=Lib.hid hb1
 have HT1:=Lib.hid (HT.out.below hb1)
 clear hb1 c0 c1 c2 c3 c4 c5
 obtain ⟨⟨c0,c1,c2⟩,c3,c4,c5⟩:=HC.out w1 HB1.out
 go_wp2_with fail
 refine (leftK_any gl gs gz B ba m.b.length bc m.b w1 (by omega) (fun l hl=>Nat.le_trans (HS3.out l hl) (by decide)) (HM.out.below HB1.out).b.isIL HT1.out.b).mono ?_
 rintro e w2 ⟨rfl,hb2⟩
 have HB2:=Lib.hid (HB1.out.trans (hb2.mono HB1.out.size))
 have HT2:=Lib.hid (HT1.out.below hb2)
 clear hb2 c0 c1 c2 c3 c4 c5
 obtain ⟨⟨c0,c1,c2⟩,c3,c4,c5⟩:=HC.out w2 HB2.out
 go_wp2_with fail
 refine (leftI_any go oa m.o.length oc m.o w2 (by omega) (HM.out.below HB2.out).o.1 HT2.out.o.twin).mono ?_
 rintro e w3 ⟨rfl,hb3⟩
 have HB3:=Lib.hid (HB0.out.trans ((HB2.out.trans (hb3.mono HB2.out.size)).mono HB0.out.size))
 clear hb3 c0 c1 c2 c3 c4 c5
 go_wp2_with fail
 go_ret
 exact ⟨rfl,HB3.out⟩
end
open Go.RowKit
set_option linter.unusedVariables false
set_option linter.unusedSimpArgs false
set_option maxRecDepth 100000
theorem setO2 {w:World} {b:Nat} {u0 u1 v0 v1:Value} {T:TypeId} (h:w.heap[b]?=some (.cells #[u0,u1] T (0,0))) :
   ((w.setCell ⟨b,0,none⟩ v0).setCell ⟨b,1,none⟩ v1).heap[b]?=some (.cells #[v0,v1] T (0,0))∧Touch (fun k=>k=b) w ((w.setCell ⟨b,0,none⟩ v0).setCell ⟨b,1,none⟩ v1):=by
 have h0:(w.setCell ⟨b,0,none⟩ v0).heap[b]?=some (.cells #[v0,u1] T (0,0)):=by rw [heap_setCell_same _ b 0 _ _ _ h];rfl
 exact ⟨by rw [heap_setCell_same _ b 1 _ _ _ h0];rfl,(Touch.setCell (Touch.refl (fun k=>k=b) w) ⟨b,0,none⟩ v0 (.inl rfl)).setCell ⟨b,1,none⟩ v1 (.inl rfl)⟩
set_option maxHeartbeats 8000000 in
theorem twinO_any (ha pa:Option Addr) (hn hc pn pc:Nat) (has P:List Int) (w:World) (hh:IsI w ha hn hc has) (hp:IsI w pa pn pc P) (hs1:has.length≤1000000000) (hs2:P.length≤1000000000) :
   Calls Tryz.prog 10 #[.agg #[.slice ha hn hc,.slice pa pn pc]] w fun e w' => ∃ gh gp,e=.returned (.agg #[.slice (some ⟨gh,0,none⟩) has.length (has.length+1),.slice (some ⟨gp,0,none⟩) P.length (P.length+1)])∧Below w.heap.size w w'∧TwJ w' gh has∧TwJ w' gp P:=by
 obtain rfl:=hh.1
 obtain rfl:=hp.1
 obtain ⟨hb0,m0,m1⟩:=alloc2_facts w (.cells #[.slice ha has.length hc,.slice pa P.length pc] 27 (0,0)) (.cells #[.slice none 0 0,.slice none 0 0] 27 (0,0))
 have HIH:=Lib.hid (hh.below hb0)
 have HIP:=Lib.hid (hp.below hb0)
 have HBw0:=Lib.hid hb0
 have BXw0:=Lib.hid m0
 have RSw0:=Lib.hid m1
 clear hh hp hb0
 go_enter Tryz.func10,Tryz.ntmps10
 go_wp2_with fail
 generalize ((w.alloc (.cells #[.slice ha has.length hc,.slice pa P.length pc] 27)).alloc (.cells #[.slice none 0 0,.slice none 0 0] 27))=w0 at m0 m1 HIH HIP HBw0 BXw0 RSw0 ⊢
 have CF:Hid (∀ (W:World),W.heap[w.heap.size]?=some (.cells #[.slice ha has.length hc,.slice pa P.length pc] 27 (0,0))→W.cell? ⟨w.heap.size,0,none⟩=some (.slice ha has.length hc)∧W.cell? ⟨w.heap.size,1,none⟩=some (.slice pa P.length pc)):=Lib.hid (fun W h=>by
   refine ⟨?_,?_⟩ <;> (rw [cell_of_block h];rfl))
 obtain ⟨p0,p1⟩:=CF.out w0 m0
 obtain ⟨d0,d1⟩:=CF.out w0.drew m0
 have hd0:Hid (Below w0.heap.size w0 w0.drew):=Lib.hid (Below.refl _ _).drew
 have HRX:Hid (∀ (W:World),Below w0.heap.size w0 W→IsI W ha has.length hc has∧IsI W pa P.length pc P):=Lib.hid (fun W hb=>⟨HIH.out.below hb,HIP.out.below hb⟩)
 clear m0 m1
 go_region_held3 (fun W => W.cell? ⟨w.heap.size, 0, none⟩ = some (.slice ha has.length hc) ∧ W.cell? ⟨w.heap.size, 1, none⟩ = some (.slice pa P.length pc)) (first | with_reducible exact ⟨d0, d1⟩ | with_reducible exact CFw1 | with_reducible exact CFw3 | with_reducible exact CFw5) (first
       | (go_at_call 11;(with_reducible refine (twinJ_ex ha has.length hc has w0.drew hs1 (HRX.out _ hd0.out).1).mono ?_);rintro e w1 ⟨gh,rfl,hbw1,hTr,hgr⟩
          have hboxw1:=below_heap ((Below.refl w0.heap.size w0).drew.trans hbw1) BXw0.out (lt_of_heap BXw0.out)
          have BXw1:=Lib.hid hboxw1
          have RSw1:=Lib.hid (below_heap ((Below.refl w0.heap.size w0).drew.trans hbw1) RSw0.out (lt_of_heap RSw0.out))
          have HIw1:=Lib.hid ((Below.refl w0.heap.size w0).drew.trans hbw1)
          have HBw1:=Lib.hid (HBw0.out.trans (((Below.refl w0.heap.size w0).drew.trans hbw1).mono HBw0.out.size))
          have CFw1:=CF.out w1 hboxw1
          clear hboxw1 hbw1)
       | (go_at_call 11;(with_reducible refine (twinJ_ex pa P.length pc P w1 hs2 (HRX.out _ HIw1.out).2).mono ?_);rintro e w3 ⟨gp,rfl,hbw3,hTo,hgo⟩
          have hboxw3:=below_heap hbw3 BXw1.out (lt_of_heap BXw1.out)
          have BXw3:=Lib.hid hboxw3
          have RSw3:=Lib.hid (below_heap hbw3 RSw1.out (lt_of_heap RSw1.out))
          have HBw3:=Lib.hid (HBw1.out.trans (hbw3.mono HBw1.out.size))
          have HBsw3:=Lib.hid hbw3
          have CFw3:=CF.out w3 hboxw3
          have hr4:=RSw3.out
          have r0:w3.cell? ⟨w.heap.size+1,0,none⟩=some (.slice none 0 0):=by rw [cell_of_block hr4];rfl
          have r1:w3.cell? ⟨w.heap.size+1,1,none⟩=some (.slice none 0 0):=by rw [cell_of_block hr4];rfl
          have f0:w3.frozen? ⟨w.heap.size+1,0,none⟩=false:=blk_free hr4
          have f1:w3.frozen? ⟨w.heap.size+1,1,none⟩=false:=blk_free hr4
          have t5:=setO2 (v0:=.slice (some ⟨gh,0,none⟩) has.length (has.length+1)) (v1:=.slice (some ⟨gp,0,none⟩) P.length (P.length+1)) hr4
          have CFw5:=CF.out _ (t5.2.heap BXw3.out (by omega))
          have T5:=Lib.hid t5
          clear t5 hr4 hboxw3 hbw3)
       | fail)
 have hfin:∀ (W:World),Touch (fun k=>k=w.heap.size+1) w3 W→Below w.heap.size w W∧TwJ W gh has∧TwJ W gp P:=fun W t=>by
   have hB:Below w.heap.size w W:=HBw3.out.trans (t.below HBw3.out.size (fun k hk e=>by omega))
   have hne:∀ {g:Nat} {C:Array Value} {ty:TypeId},ty≠27→w3.heap[g]?=some (.cells C ty (0,0))→W.heap[g]?=some (.cells C ty (0,0)):=fun {g C ty} hty h=>t.heap h (fun e=>by
     rw [e,RSw3.out] at h
     exact hty (Obj.cells.inj (Option.some.inj h)).2.1.symm)
   have htr:TwJ w3 gh has:=below_heap HBsw3.out hTr (lt_of_heap hTr)
   exact ⟨hB,hne (by decide) htr,hne (by decide) hTo⟩
 have HFIN:=Lib.hid (hfin _ T5.out.2)
 have HG5:=Lib.hid T5.out.1
 clear hfin T5
 go_wp2_with fail
 refine bodyPost_ret (results_cell rfl _ _ (w.heap.size+1) 0 rfl [.slice (some ⟨gh,0,none⟩) has.length (has.length+1),.slice (some ⟨gp,0,none⟩) P.length (P.length+1)] _ (rangeAt_row HG5.out) Tryz.underlying27 rfl info_out) rfl ?_
 exact ⟨gh,gp,rfl,HFIN.out.1,HFIN.out.2.1,HFIN.out.2.2⟩
section
open Go.ChangeShapes Go.WideShapes Go.ChangeAt Go.RowKit Go.Deep
theorem mkf_openC {w:World} {cs:List Value} (o:Opened Tryz.prog w 25 cs):∃ (x:MkA) (m:MkC),cs=x.cells∧IsMk w (fun _=>True) x m∧FtMk m:=by
 obtain ⟨hl,hf⟩:=o.struct Tryz.underlying25
 have hl':cs.length=3:=hl.trans (by kernel_rfl)
 have k:∀ t,Tryz.prog.cellsOf t=1→∀ x,Opened Tryz.prog w t ((cs.drop x).take (Tryz.prog.cellsOf t))→Opened Tryz.prog w t ((cs.drop x).take 1):=fun t ht x h=>by rwa [ht] at h
 obtain ⟨ra,rn,rc,rl,e0,h0,m0,_⟩:=(k _ (by kernel_rfl) 0 (hf 0 _ rfl)).ints Tryz.underlying22 Tryz.underlying3 (by kernel_rfl) (by kernel_rfl)
 obtain ⟨ba,bn,bc,L,e1,h1,m1,b1⟩:=(k _ (by kernel_rfl) 1 (hf 1 _ rfl)).rows IvX.cells (fun x=>IsI w x.a x.n x.c x.l∧x.l.length≤17592186044416) 1 (by kernel_rfl) (by decide) Tryz.underlying23 (fun cs' h=>by
   obtain ⟨a,n,c,l,e,h,hm,_⟩:=h.ints Tryz.underlying22 Tryz.underlying3 (by kernel_rfl) (by kernel_rfl)
   exact ⟨⟨a,n,c,l⟩,e,h,by show l.length≤_;omega⟩)
 obtain ⟨oa,on,oc,ol,e2,h2,m2,_⟩:=(k _ (by kernel_rfl) 2 (hf 2 _ rfl)).ints Tryz.underlying22 Tryz.underlying3 (by kernel_rfl) (by kernel_rfl)
 obtain ⟨vs,hv⟩:=iiP_of_rows h1 (fun x hx=>(m1 x hx).1)
 have hby:Tryz.prog.bytesOf 22=24:=by kernel_rfl
 have hLb:L.length≤17592186044416:=by
   have b2:L.length*Tryz.prog.bytesOf 22≤reachBytes:=b1
   rw [hby] at b2
   unfold reachBytes at b2
   omega
 refine ⟨⟨ra,rn,rc,ba,bn,bc,vs,oa,on,oc⟩,⟨rl,L.map (·.l),ol⟩,?_,⟨⟨h0,fun _ _ _ _=>trivial⟩,hv,⟨h2,fun _ _ _ _=>trivial⟩⟩,⟨by show rl.length≤_;omega,by show (L.map (·.l)).length≤_;rw [List.length_map];exact hLb,fun l hl => ?_,by show ol.length≤_;omega⟩⟩
 · have:cs=cs.drop 0:=rfl
   rw [this,drop_piece cs 0 1,e0,drop_piece cs (0+1) 1,e1,drop_piece cs (0+1+1) 1,e2,List.drop_eq_nil_of_le (by omega)]
   rfl
 · obtain ⟨x,hx,rfl⟩:=List.mem_map.1 hl
   exact (m1 x hx).2
theorem otf_openC {w:World} {cs:List Value} (o:Opened Tryz.prog w 27 cs):∃ (ha:Option Addr) (hn hc:Nat) (has:List Int) (pa:Option Addr) (pn pc:Nat) (P:List Int),cs=[.slice ha hn hc,.slice pa pn pc]∧IsI w ha hn hc has∧IsI w pa pn pc P∧has.length≤17592186044416∧P.length≤17592186044416:=by
 obtain ⟨hl,hf⟩:=o.struct Tryz.underlying27
 have hl':cs.length=2:=hl.trans (by kernel_rfl)
 have k:∀ t,Tryz.prog.cellsOf t=1→∀ x,Opened Tryz.prog w t ((cs.drop x).take (Tryz.prog.cellsOf t))→Opened Tryz.prog w t ((cs.drop x).take 1):=fun t ht x h=>by rwa [ht] at h
 obtain ⟨ra,rn,rc,rl,e0,h0,m0,_⟩:=(k _ (by kernel_rfl) 0 (hf 0 _ rfl)).ints Tryz.underlying22 Tryz.underlying3 (by kernel_rfl) (by kernel_rfl)
 obtain ⟨oa,on,oc,ol,e2,h2,m2,_⟩:=(k _ (by kernel_rfl) 1 (hf 1 _ rfl)).ints Tryz.underlying22 Tryz.underlying3 (by kernel_rfl) (by kernel_rfl)
 refine ⟨ra,rn,rc,rl,oa,on,oc,ol,?_,h0,h2,by omega,by omega⟩
 have:cs=cs.drop 0:=rfl
 rw [this,drop_piece cs 0 1,e0,drop_piece cs (0+1) 1,e2,List.drop_eq_nil_of_le (by omega)]
 rfl
theorem given_arg {w:World} {r:Reach} {b0:Nat} {v:Value} (hv:Value.okWide Tryz.prog w r b0 29 v) (o:Opened Tryz.prog w 29 v.cells.toList) :
   ∃ (x:MkA) (m:MkC) (ha:Option Addr) (hn hc:Nat) (has:List Int) (pa:Option Addr) (pn pc:Nat) (P:List Int) (i:Int) (da:Option Addr) (dn dc:Nat) (bid:List Int),v=.agg (x.cells ++ [Value.slice ha hn hc,Value.slice pa pn pc,Value.int .i64 i,Value.slice da dn dc]).toArray∧IsMk w (fun _=>True) x m∧FtMk m∧IsI w ha hn hc has∧IsI w pa pn pc P∧IsI w da dn dc bid∧has.length≤17592186044416∧P.length≤17592186044416∧bid.length≤17592186044416∧-9223372036854775808≤i∧i≤9223372036854775807:=by
 obtain ⟨cs,rfl,o'⟩:=Opened.structV Tryz.underlying29 hv o
 obtain ⟨hl,hf⟩:=o'.struct Tryz.underlying29
 have hl':cs.length=7:=hl.trans (by kernel_rfl)
 have k:∀ t n,Tryz.prog.cellsOf t=n→∀ x,Opened Tryz.prog w t ((cs.drop x).take (Tryz.prog.cellsOf t))→Opened Tryz.prog w t ((cs.drop x).take n):=fun t n ht x h=>by rwa [ht] at h
 obtain ⟨x,m,e0,hm,hft⟩:=mkf_openC (k _ 3 (by kernel_rfl) 0 (hf 0 _ rfl))
 obtain ⟨ha,hn,hc,has,pa,pn,pc,P,e1,hh,hp,hs1,hs2⟩:=otf_openC (k _ 2 (by kernel_rfl) 3 (hf 1 _ rfl))
 obtain ⟨i,e2,hi1,hi2⟩:=(k _ 1 (by kernel_rfl) 5 (hf 2 _ rfl)).i64 Tryz.underlying3
 obtain ⟨da,dn,dc,bid,e3,hd,hs3,_⟩:=(k _ 1 (by kernel_rfl) 6 (hf 3 _ rfl)).ints Tryz.underlying22 Tryz.underlying3 (by kernel_rfl) (by kernel_rfl)
 refine ⟨x,m,ha,hn,hc,has,pa,pn,pc,P,i,da,dn,dc,bid,?_,hm,hft,hh,hp,hd,hs1,hs2,by omega,hi1,hi2⟩
 have h0:cs=cs.drop 0:=rfl
 have e:cs=x.cells ++ [Value.slice ha hn hc,Value.slice pa pn pc,Value.int .i64 i,Value.slice da dn dc]:=by
   rw [h0,drop_piece cs 0 3,e0,drop_piece cs (0+3) 2,e1,drop_piece cs (0+3+2) 1,e2,drop_piece cs (0+3+2+1) 1,e3,List.drop_eq_nil_of_le (by omega)]
   rfl
 rw [e]
end
end Go.Proofs.YtmmmjohoihpbeaaGreat
