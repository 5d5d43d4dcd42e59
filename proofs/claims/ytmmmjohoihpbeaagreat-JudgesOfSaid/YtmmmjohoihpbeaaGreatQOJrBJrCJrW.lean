/- The document's markets (05): Check;conditions: those typed. -/
import Derived.Test.YtmmmjohoihpbeaaGreatQOJrAJrT
import Derived.Test.YtmmmjohoihpbeaaGreatQOJwVJwMJwW
import Derived.Test.YtmmmjohoihpbeaaGreatQOJwGaJwFiJwFf
import Derived.Test.YtmmmjohoihpbeaaGreatQOJwWo
namespace Go.Proofs.YtmmmjohoihpbeaaGreat
open Go.RowKit
set_option linter.unusedVariables false
set_option linter.unusedSimpArgs false
theorem mktB_iff (m:MkC):mktB m=true↔okB m.r m.r.length=true∧1≤m.b.length∧m.b.length≤8∧m.o.length=m.b.length∧(∀ i,i<m.b.length→bidB m.r.length (m.b.getD i [])=true)∧∀ i:Nat,i<m.b.length→m.o.count (i:Int)=1:=by
 constructor
 · intro h
   obtain ⟨h1,h2,h3,h4,h5⟩:=mktB_bd h
   obtain ⟨o1,o2,o3,o4⟩:=ord_bd h4
   refine ⟨h1,h2,h3,o1,fun i hi=>h5 _ (getD_mem hi),fun i hi => ?_⟩
   have e1:=List.count_pos_iff.2 (o4 i hi)
   have e2:=List.nodup_iff_count.1 o3 (i:Int)
   omega
 · rintro ⟨h1,h2,h3,h4,h5,h6⟩
   unfold mktB
   simp only [Bool.and_eq_true,decide_eq_true_eq,List.all_eq_true]
   refine ⟨h1,h2,h3,?_,fun l hl => ?_⟩
   · unfold ordC
     rw [Bool.and_eq_true,decide_eq_true_eq,List.all_eq_true]
     refine ⟨h4,fun i hi=>decide_eq_true (List.count_pos_iff.1 ?_)⟩
     have:=h6 i (List.mem_range.1 hi)
     omega
   · obtain ⟨i,hi,rfl⟩:=List.getElem_of_mem hl
     have:=h5 i hi
     rwa [getD_get hi] at this
theorem mktB_no {m:MkC} (h:¬ (okB m.r m.r.length=true∧1≤m.b.length∧m.b.length≤8∧m.o.length=m.b.length∧(∀ i,i<m.b.length→bidB m.r.length (m.b.getD i [])=true)∧∀ i:Nat,i<m.b.length→m.o.count (i:Int)=1)):mktB m=false:=by
 cases e:mktB m with
 | false=>rfl
 | true=>exact absurd ((mktB_iff m).1 e) h
theorem count_take (l:List Int) (z:Int) (k:Nat) (h:k<l.length):(l.take (k+1)).count z=(l.take k).count z+if l[k]=z then 1 else 0:=by
 rw [List.take_succ_eq_append_getElem h,List.count_append,List.count_singleton]
 congr 1
 by_cases e:l[k]=z
 · simp [e]
 · simp [e]
set_option maxRecDepth 100000 in
set_option maxHeartbeats 8000000 in
theorem r05check_any (x:MkA) (m:MkC) (w:World) (h:IsMk w (fun _=>True) x m) (hrm:m.r.length≤17592186044416) :
   Calls Tryz.prog 28 #[.agg x.cells.toArray] w fun e w' => e=.returned (.bool (mktB m))∧Below w.heap.size w w':=by
 obtain ⟨ra,rn,rc,ba,bn,bc,bv,oa,on,oc⟩:=x
 have hr:=h.r.1
 have hbb:=h.b
 have ho:=h.o.1
 unfold MkA.cells
 dsimp only at hr hbb ho ⊢
 obtain rfl:=hr.1
 obtain rfl:=hbb.1
 obtain rfl:=ho.1
 have hml:=hbb.2.1
 have hml2:=hbb.2.2.1
 have hb0:Below w.heap.size w (w.alloc (.cells #[.slice ra m.r.length rc,.slice ba m.b.length bc,.slice oa m.o.length oc] 25)):=(Below.refl _ _).alloc (Nat.le_refl _) _
 have hv:=heap_new w (.cells #[.slice ra m.r.length rc,.slice ba m.b.length bc,.slice oa m.o.length oc] 25 (0,0))
 have HM:=Lib.hid (h.below hb0)
 have HRM:=Lib.hid hrm
 have HBL:Hid (m.b.length≤9223372036854775807):=Lib.hid (by unfold maxLen at hml2;omega)
 clear h hr hbb ho hrm hml hml2
 go_enter Tryz.func28,Tryz.ntmps28
 go_wp2_with fail
 generalize w.alloc (.cells #[.slice ra m.r.length rc,.slice ba m.b.length bc,.slice oa m.o.length oc] 25)=W at hb0 hv HM ⊢
 have c0:W.cell? ⟨w.heap.size,0,none⟩=some (.slice ra m.r.length rc):=by rw [cell_of_block hv];rfl
 have c1:W.cell? ⟨w.heap.size,1,none⟩=some (.slice ba m.b.length bc):=by rw [cell_of_block hv];rfl
 have c2:W.cell? ⟨w.heap.size,2,none⟩=some (.slice oa m.o.length oc):=by rw [cell_of_block hv];rfl
 have HB0:=Lib.hid hb0
 have HR:Hid (IsI W ra m.r.length rc m.r):=Lib.hid HM.out.r.1
 have HO:Hid (IsI W oa m.o.length oc m.o):=Lib.hid HM.out.o.1
 have HL:Hid (IsIL W ba m.b.length bc m.b):=Lib.hid HM.out.b.isIL
 clear hb0 hv
 go_wp2_with fail
 refine (rcheck_any ra m.r.length rc m.r m.r.length W HR.out (by have:=HRM.out;omega)).mono ?_
 rintro e w1 ⟨rfl,rfl⟩
 cases q1:okB m.r m.r.length with
 | false =>
   have HF:Hid (mktB m=false):=Lib.hid (mktB_no (fun e=>by rw [e.1] at q1;cases q1))
   clear q1
   go_wp2_with fail
   go_ret
   exact ⟨by rw [HF.out];rfl,HB0.out⟩
 | true =>
 by_cases n1:m.b.length<1
 · have d1:decide ((m.b.length:Int)<1)=true:=decide_eq_true (by omega)
   have HF:Hid (mktB m=false):=Lib.hid (mktB_no (fun e=>by have:=e.2.1;omega))
   clear q1 n1
   go_wp2_with fail
   go_ret
   exact ⟨by rw [HF.out];rfl,HB0.out⟩
 have d1:decide ((m.b.length:Int)<1)=false:=decide_eq_false (by omega)
 by_cases n2:8<m.b.length
 · have d2:decide ((8:Int)<(m.b.length:Int))=true:=decide_eq_true (by omega)
   have HF:Hid (mktB m=false):=Lib.hid (mktB_no (fun e=>by have:=e.2.2.1;omega))
   clear q1 n1 n2
   go_wp2_with fail
   go_ret
   exact ⟨by rw [HF.out];rfl,HB0.out⟩
 have d2:decide ((8:Int)<(m.b.length:Int))=false:=decide_eq_false (by omega)
 by_cases n3:m.o.length=m.b.length
 case neg =>
   have d3:((m.o.length:Int) != (m.b.length:Int))=true:=by rw [bne_iff_ne];omega
   have HF:Hid (mktB m=false):=Lib.hid (mktB_no (fun e=>n3 e.2.2.2.1))
   clear q1 n1 n2 n3
   go_wp2_with fail
   go_ret
   exact ⟨by rw [HF.out];rfl,HB0.out⟩
 case pos =>
 have d3:((m.o.length:Int) != (m.b.length:Int))=false:=by rw [n3];simp
 have H0:Hid (okB m.r m.r.length=true∧1≤m.b.length∧m.b.length≤8∧m.o.length=m.b.length):=Lib.hid ⟨q1,by omega,by omega,n3⟩
 obtain ⟨N,hN⟩:∃ N,N=m.b.length:=⟨_,rfl⟩
 have HN:=Lib.hid hN
 have hn8:m.b.length≤8:=by omega
 clear q1 n1 n2 n3 hN
 go_wp2_with fail
 go_loop [5,6,7] (fun i t k => ∃ j:Nat,j≤m.b.length∧i=.int .i64 j∧Hid (∀ q,q<j→bidB m.r.length (m.b.getD q [])=true∧m.o.count (q:Int)=1)) (fun i _ _=>N - (intOf i).toNat)
 case atStart=>exact ⟨0,Nat.zero_le _,rfl,Lib.hid (fun q h=>by omega)⟩
 case round =>
   obtain ⟨j,hj,rfl,HS⟩:=hrel
   by_cases hlt:j<m.b.length
   · obtain ⟨b,off,bx,bz,rfl,hbl,hc,hI⟩:=HL.out.at hlt
     have HI:=Lib.hid hI
     clear hI
     have hoc:Hid (∀ q (hq:q<m.o.length),∃ b' off',oa=some ⟨b',off',none⟩∧W.cell? ⟨b',off'+q,none⟩=some (.int .i64 m.o[q])):=Lib.hid fun q hq=>by
       obtain ⟨_,_,_,h | ⟨b',off',e,_,h⟩⟩:=HO.out
       · rw [h.1] at hq;simp at hq
       · exact ⟨b',off',e,h q hq⟩
     have HGJ:Hid (m.b.getD j []=m.b[j]):=Lib.hid (getD_get hlt)
     have hbb:Hid (bidB m.r.length m.b[j]=true∨bidB m.r.length m.b[j]=false):=Lib.hid (by cases bidB m.r.length m.b[j] <;> simp)
     by_cases he:m.b[j].length=0
     · have HBJ:Hid (bidB m.r.length m.b[j]=true):=Lib.hid (by unfold bidB;rw [decide_eq_true he];rfl)
       rw [he] at hc HI
       clear he
       go_wp2_with fail
       clear hc
       go_loop [6,7] (fun t k => ∃ q:Nat,q≤m.b.length∧k=.int .i64 q∧t=.int .i64 ((m.o.take q).count (j:Int):Nat)) (fun _ k=>N - (intOf k).toNat)
       case atStart=>exact ⟨0,Nat.zero_le _,rfl,by simp⟩
       case round =>
         obtain ⟨q,hq,rfl,rfl⟩:=hrel
         by_cases hlq:q<m.b.length
         · have hqo:q<m.o.length:=by have:=H0.out.2.2.2;omega
           obtain ⟨b2,off2,rfl,hcq⟩:=hoc.out q hqo
           have hct:=count_take m.o (j:Int) q hqo
           have hcb:(m.o.take q).count (j:Int)≤8:=Nat.le_trans List.count_le_length (by rw [List.length_take];omega)
           by_cases ej:m.o[q]=(j:Int)
           · rw [if_pos ej] at hct
             rw [ej] at hcq
             have HCT:=Lib.hid hct
             clear hct ej
             generalize (m.o.take q).count (j:Int)=cq at hcb HCT ⊢
             go_wp2_with fail
             go_round
             case rel=>exact ⟨q+1,by omega,by go_num,by rw [HCT.out];go_num⟩
             case measure=>have:=HN.out;simp [intOf];omega
           · rw [if_neg ej] at hct
             have dq:(m.o[q] == (j:Int))=false:=by rw [beq_eq_false_iff_ne];exact ej
             have HCT:=Lib.hid hct
             clear hct ej
             generalize m.o[q]=y at hcq dq
             generalize (m.o.take q).count (j:Int)=cq at hcb HCT ⊢
             go_wp2_with fail
             go_round
             case rel=>exact ⟨q+1,by omega,by go_num,by rw [HCT.out,Nat.add_zero]⟩
             case measure=>have:=HN.out;simp [intOf];omega
         · have hqq:q=m.b.length:=by omega
           have hct:m.o.take q=m.o:=by rw [hqq,← H0.out.2.2.2,List.take_length]
           rw [hct]
           clear hct
           subst hqq
           by_cases e1:m.o.count (j:Int)=1
           · have HS2:Hid (∀ q,q<j+1→bidB m.r.length (m.b.getD q [])=true∧m.o.count (q:Int)=1):=Lib.hid (fun q hq=>by
               by_cases e:q=j
               · subst e;exact ⟨by rw [HGJ.out];exact HBJ.out,e1⟩
               · exact HS.out q (by omega))
             rw [e1]
             clear e1
             go_wp2_with fail
             go_round
             case rel=>exact ⟨j+1,by omega,by go_num,HS2⟩
             case measure=>have:=HN.out;simp [intOf];omega
           · have dc:(((m.o.count (j:Int):Nat):Int) != 1)=true:=by rw [bne_iff_ne];omega
             have HF:Hid (mktB m=false):=Lib.hid (mktB_no (fun e=>e1 (e.2.2.2.2.2 j hlt)))
             clear e1
             generalize m.o.count (j:Int)=cj at dc ⊢
             go_wp2_with fail
             go_ret
             exact ⟨by rw [HF.out];rfl,HB0.out⟩
     · have de:decide ((0:Int)<(m.b[j].length:Int))=true:=decide_eq_true (by omega)
       have de2:decide (0<m.b[j].length)=true:=decide_eq_true (by omega)
       have HNE:=Lib.hid he
       clear he
       go_wp2_with fail
       refine (rcheck_any bx m.b[j].length bz m.b[j] m.r.length W HI.out (by have:=HRM.out;omega)).mono ?_
       rintro e w1 ⟨rfl,rfl⟩
       cases qj:okB m.b[j] m.r.length with
       | false =>
         have HF:Hid (mktB m=false):=Lib.hid (mktB_no (fun e=>by
           have:=e.2.2.2.2.1 j hlt
           rw [HGJ.out] at this
           unfold bidB at this
           rw [decide_eq_false HNE.out,qj] at this
           cases this))
         clear qj
         go_wp2_with fail
         go_ret
         exact ⟨by rw [HF.out];rfl,HB0.out⟩
       | true =>
         have HBJ:Hid (bidB m.r.length m.b[j]=true):=Lib.hid (by unfold bidB;rw [qj];simp)
         clear qj
         go_wp2_with fail
         clear hc
         go_loop [6,7] (fun t k => ∃ q:Nat,q≤m.b.length∧k=.int .i64 q∧t=.int .i64 ((m.o.take q).count (j:Int):Nat)) (fun _ k=>N - (intOf k).toNat)
         case atStart=>exact ⟨0,Nat.zero_le _,rfl,by simp⟩
         case round =>
           obtain ⟨q,hq,rfl,rfl⟩:=hrel
           by_cases hlq:q<m.b.length
           · have hqo:q<m.o.length:=by have:=H0.out.2.2.2;omega
             obtain ⟨b2,off2,rfl,hcq⟩:=hoc.out q hqo
             have hct:=count_take m.o (j:Int) q hqo
             have hcb:(m.o.take q).count (j:Int)≤8:=Nat.le_trans List.count_le_length (by rw [List.length_take];omega)
             by_cases ej:m.o[q]=(j:Int)
             · rw [if_pos ej] at hct
               rw [ej] at hcq
               have HCT:=Lib.hid hct
               clear hct ej
               generalize (m.o.take q).count (j:Int)=cq at hcb HCT ⊢
               go_wp2_with fail
               go_round
               case rel=>exact ⟨q+1,by omega,by go_num,by rw [HCT.out];go_num⟩
               case measure=>have:=HN.out;simp [intOf];omega
             · rw [if_neg ej] at hct
               have dq:(m.o[q] == (j:Int))=false:=by rw [beq_eq_false_iff_ne];exact ej
               have HCT:=Lib.hid hct
               clear hct ej
               generalize m.o[q]=y at hcq dq
               generalize (m.o.take q).count (j:Int)=cq at hcb HCT ⊢
               go_wp2_with fail
               go_round
               case rel=>exact ⟨q+1,by omega,by go_num,by rw [HCT.out,Nat.add_zero]⟩
               case measure=>have:=HN.out;simp [intOf];omega
           · have hqq:q=m.b.length:=by omega
             have hct:m.o.take q=m.o:=by rw [hqq,← H0.out.2.2.2,List.take_length]
             rw [hct]
             clear hct
             subst hqq
             by_cases e1:m.o.count (j:Int)=1
             · have HS2:Hid (∀ q,q<j+1→bidB m.r.length (m.b.getD q [])=true∧m.o.count (q:Int)=1):=Lib.hid (fun q hq=>by
                 by_cases e:q=j
                 · subst e;exact ⟨by rw [HGJ.out];exact HBJ.out,e1⟩
                 · exact HS.out q (by omega))
               rw [e1]
               clear e1
               go_wp2_with fail
               go_round
               case rel=>exact ⟨j+1,by omega,by go_num,HS2⟩
               case measure=>have:=HN.out;simp [intOf];omega
             · have dc:(((m.o.count (j:Int):Nat):Int) != 1)=true:=by rw [bne_iff_ne];omega
               have HF:Hid (mktB m=false):=Lib.hid (mktB_no (fun e=>e1 (e.2.2.2.2.2 j hlt)))
               clear e1
               generalize m.o.count (j:Int)=cj at dc ⊢
               go_wp2_with fail
               go_ret
               exact ⟨by rw [HF.out];rfl,HB0.out⟩
   · have hjj:j=m.b.length:=by omega
     have HB:Hid (mktB m=true):=Lib.hid ((mktB_iff m).2 ⟨H0.out.1,H0.out.2.1,H0.out.2.2.1,H0.out.2.2.2,fun i hi=>(HS.out i (by omega)).1,fun i hi=>(HS.out i (by omega)).2⟩)
     subst hjj
     go_wp2_with fail
     go_ret
     exact ⟨by rw [HB.out];rfl,HB0.out⟩
section
open Go.RowKit Go.Shelf
attribute [local go_sem] Oper.semAt_some
theorem gnR_take (r bid:List Int) (k:Nat) (hk:k<r.length):(gnR r bid).take (k+1)=(gnR r bid).take k ++ [(if bid=[] then -1 else bid.getD k 0 - r.getD k 0)]:=by
 rw [List.take_succ_eq_append_getElem (by rw [gnR_length];exact hk)]
 congr 2
 rw [← gnR_at hk,getD_get (by rw [gnR_length];exact hk)]
theorem gnL_take (r:List Int) (b:List (List Int)) (j:Nat) (hj:j<b.length):(gnL r b).take (j+1)=(gnL r b).take j ++ [gnR r b[j]]:=by
 rw [List.take_succ_eq_append_getElem (by rw [gnL_length];exact hj)]
 simp [gnL]
set_option maxRecDepth 100000 in
set_option maxHeartbeats 8000000 in
theorem r05gains_any (x:MkA) (m:MkC) (w:World) (h:MkT w x m) :
   Calls Tryz.prog 38 #[.agg x.cells.toArray] w fun e W => ∃ a c,e=.returned (.tuple #[.slice a m.b.length c,.int .i64 0])∧Below w.heap.size w W∧IsIL W a m.b.length c (gnL m.r m.b):=by
 obtain ⟨ra,rn,rc,ba,bn,bc,bv,oa,on,oc⟩:=x
 have hr:=h.v.r.1
 have hbb:=h.v.b
 have ho:=h.v.o.1
 unfold MkA.cells
 dsimp only at hr hbb ho ⊢
 obtain rfl:=hr.1
 obtain rfl:=hbb.1
 obtain rfl:=ho.1
 have hmo:=mktB_ok h.ok
 have HMO:=Lib.hid hmo
 have hn8:=hmo.hn
 have hk8:=hmo.hk
 have HQ:Hid (mktB m=true):=Lib.hid h.ok
 have hb0:Below w.heap.size w (w.alloc (.cells #[.slice ra m.r.length rc,.slice ba m.b.length bc,.slice oa m.o.length oc] 25)):=(Below.refl _ _).alloc (Nat.le_refl _) _
 have hv:=heap_new w (.cells #[.slice ra m.r.length rc,.slice ba m.b.length bc,.slice oa m.o.length oc] 25 (0,0))
 have HM:=Lib.hid (h.v.below hb0)
 clear h hr hbb ho hmo
 go_enter Tryz.func38,Tryz.ntmps38
 go_wp2_with fail
 generalize w.alloc (.cells #[.slice ra m.r.length rc,.slice ba m.b.length bc,.slice oa m.o.length oc] 25)=W at hb0 hv HM ⊢
 have c0:W.cell? ⟨w.heap.size,0,none⟩=some (.slice ra m.r.length rc):=by rw [cell_of_block hv];rfl
 have c1:W.cell? ⟨w.heap.size,1,none⟩=some (.slice ba m.b.length bc):=by rw [cell_of_block hv];rfl
 have c2:W.cell? ⟨w.heap.size,2,none⟩=some (.slice oa m.o.length oc):=by rw [cell_of_block hv];rfl
 have HB0:=Lib.hid hb0
 clear hb0 hv
 go_wp2_with fail
 refine (r05check_any ⟨ra,m.r.length,rc,ba,m.b.length,bc,bv,oa,m.o.length,oc⟩ m W HM.out (by omega)).mono ?_
 rw [HQ.out]
 rintro e w1 ⟨rfl,hb1⟩
 have k0:=cell_later hb1 c0
 have k1:=cell_later hb1 c1
 have HB1:=Lib.hid (HB0.out.trans (hb1.mono HB0.out.size))
 have HR1:Hid (IsI w1 ra m.r.length rc m.r):=Lib.hid (HM.out.below hb1).r.1
 have HL1:Hid (IsIL w1 ba m.b.length bc m.b):=Lib.hid (HM.out.below hb1).b.isIL
 obtain ⟨N,hN⟩:∃ N,N=m.b.length:=⟨_,rfl⟩
 have HN:=Lib.hid hN
 clear hb1 c0 c1 c2 hN
 go_wp2_with fail
 go_loopw [4,5,6,7] (fun o i l k wr => ∃ (j:Nat) (a:Option Addr) (c:Nat),j≤m.b.length∧i=.int .i64 j∧o=.slice a j c∧Hid (∃ vs,Gr w1.heap.size wr a j c vs ((gnL m.r m.b).take j))∧Hid (Below w1.heap.size w1 wr)) (fun _ i _ _ _=>N - (intOf i).toNat)
 case atStart=>exact ⟨0,none,0,Nat.zero_le _,rfl,rfl,Lib.hid ⟨[],Gr.nil _ _⟩,Lib.hid (Below.refl _ _)⟩
 case round =>
   obtain ⟨j,a,c,hj,rfl,rfl,HG,HB⟩:=hrel
   have r0:=cell_later HB.out k0
   have r1:=cell_later HB.out k1
   by_cases hlt:j<m.b.length
   · obtain ⟨b,off,bx,bz,rfl,hbl,hc,hI⟩:=(HL1.out.below HB.out).at hlt
     have HI:=Lib.hid hI
     have HBJ:Hid (bidB (m.r.length:Int) m.b[j]=true):=Lib.hid ((mktB_bd HQ.out).2.2.2.2 _ (List.getElem_mem hlt))
     have HTK:=Lib.hid (gnL_take m.r m.b j hlt)
     generalize m.b[j]=bid at HI hc HBJ HTK
     clear hI
     go_wp2_with fail
     obtain ⟨V,rfl⟩:∃ V,V=wr:=⟨_,rfl⟩
     obtain ⟨K,hK⟩:∃ K,K=m.r.length:=⟨_,rfl⟩
     have HK:=Lib.hid hK
     clear hK
     go_loopw [6,7] (fun l k wq => ∃ (q:Nat) (la:Option Addr) (lc:Nat),q≤m.r.length∧k=.int .i64 (q:Int)∧l=.slice la q lc∧Hid (wq.ownsRow V.heap.size 3 1 (.slice la q lc) q (icells ((gnR m.r bid).take q)))∧Hid (Below V.heap.size V wq)) (fun _ k _=>K - (intOf k).toNat)
     case atStart=>exact ⟨0,none,0,Nat.zero_le _,rfl,rfl,Lib.hid (World.ownsRow_nil _ _ _ _),Lib.hid (Below.refl _ _)⟩
     case round =>
       obtain ⟨q,la,lc,hq,rfl,rfl,HO,HV⟩:=hrel
       have s0:=cell_later HV.out r0
       have s1:=cell_later HV.out r1
       have hVs:=HV.out.size
       by_cases hlq:q<m.r.length
       · have HTQ:=Lib.hid (gnR_take m.r bid q hlq)
         have hcV:=(HV.out.cell (p:=⟨b,off+j,none⟩) hbl).trans hc
         have hown:=HO.out
         obtain ⟨b5,o5,rfl,hb5,c5⟩:=(HR1.out.below (HB.out.trans (HV.out.mono HB.out.size))).at q hlq
         by_cases hbe:bid=[]
         · have hlen:bid.length=0:=by rw [hbe];rfl
           have hy:=HI.out.1
           rw [hlen] at hy
           rw [if_pos hbe] at HTQ
           rw [hlen] at hcV
           clear hbe hlen hy
           go_wp2_with (at_builtin
                        refine wpList_append_any rowInt rfl (.tmp 32) (.tmp 33) rfl V.heap.size _ q (icells ((gnR m.r bid).take q)) rfl (hown.alloc _) (some ⟨wr.heap.size,0,none⟩) 1 1 [.int .i64 (-1)] rfl rfl (At.one wr _ _) (one_cell _ rfl) (by unfold maxLen;omega) (by omega) (by simp;omega) ?_
                        intro b7 c7 w7 ho7 hg7 _
                        have HB7:=Lib.hid ((HV.out.alloc HV.out.size _).grown hg7 (by simp;omega) (fun k hk=>owns_base hown k hk))
                        have HO7:Hid (w7.ownsRow V.heap.size 3 1 (.slice b7 (q+1) c7) (q+1) (icells ((gnR m.r bid).take (q+1)))):=Lib.hid (by rw [HTQ.out,icells_append];exact ho7)
                        clear ho7 hg7)
           go_roundw
           case rel=>exact ⟨q+1,b7,c7,by omega,by go_num,rfl,HO7,HB7⟩
           case measure=>have:=HK.out;simp [intOf];omega
         · have hbl2:bid.length=m.r.length:=by
             obtain ⟨_,q2,_⟩:=bidB_bd HBJ.out
             exact (okB_bd (q2 (fun e=>hbe (List.eq_nil_of_length_eq_zero e)))).2.2.1
           have hkb:q<bid.length:=by omega
           have hbb:=(bidB_bd HBJ.out).2.2 _ (List.getElem_mem hkb)
           have hrb:=HMO.out.hr q hlq
           rw [getD_get hlq] at hrb
           obtain ⟨b6,o6,rfl,hb6,c6⟩:=(HI.out.below HV.out).at q hkb
           rw [if_neg hbe,getD_get hkb,getD_get hlq] at HTQ
           rw [hbl2] at hcV
           have de:((m.r.length:Int) == 0)=false:=by rw [beq_eq_false_iff_ne];omega
           generalize bid[q]=bq at c6 HTQ hbb
           generalize m.r[q]=rq at c5 HTQ hrb
           have hsub:wrap64 (bq - rq)=bq - rq:=by unfold wrap64;omega
           have hsub2:IntKind.i64.wrap (bq - rq)=bq - rq:=IntWalk.i64_in _ (by omega)
           clear hbe hbl2 hkb
           go_wp2_with fail
           go_region_law (first
             | (refine step_append_any rowInt rfl (.tmp 35) (.tmp 50) (by rfl) V.heap.size (.slice la q lc) q (icells ((gnR m.r bid).take q)) (by simp [Act.eval,Act.put]) (by first | exact (owns_below hown (Below.refl _ _).drew).alloc _ | exact owns_below (hown.alloc _) (Below.refl _ _).drew) (some ⟨wr.heap.size,0,none⟩) 1 1 [.int .i64 (bq - rq)] (by simp [Act.eval,Act.put]) rfl (by first | exact At.one _ _ _ | exact At.one_drew _ _ _) (one_cell _ rfl) (by unfold maxLen;omega) (by omega) (by simp;omega) ?_
                intro b7 c7 w7 ho7 hg7 _
                have HB7:Hid (Below V.heap.size V w7):=Lib.hid (by first | exact ((HV.out.drew).alloc (by simp;omega) _).grown hg7 (by simp;omega) (fun k hk=>owns_base hown k hk) | exact ((HV.out.alloc HV.out.size _).drew).grown hg7 (by simp;omega) (fun k hk=>owns_base hown k hk))
                have HO7:Hid (w7.ownsRow V.heap.size 3 1 (.slice b7 (q+1) c7) (q+1) (icells ((gnR m.r bid).take (q+1)))):=Lib.hid (by rw [HTQ.out,icells_append];exact ho7)
                clear ho7 hg7)
             | fail)
           all_goals
             go_wp2_with fail
             go_roundw
             case rel=>exact ⟨q+1,b7,c7,by omega,by go_num,rfl,HO7,HB7⟩
             case measure=>have:=HK.out;simp [intOf];omega
       · have hqq:q=m.r.length:=by omega
         have hown:=HO.out
         rw [List.take_of_length_le (by rw [gnR_length];omega)] at hown
         have HT:Hid (IsT wr la m.r.length lc (gnR m.r bid)):=Lib.hid (by
           have:=isT_of_owns (l:=gnR m.r bid) hown (by rw [gnR_length];exact hqq)
           rwa [hqq] at this)
         subst hqq
         obtain ⟨vs,hg⟩:=HG.out
         have hgr:Gr w1.heap.size wr a j c vs ((gnL m.r m.b).take j):=hg.below HV.out
         have HGR:=Lib.hid hgr
         have hgo:=hgr.1.alloc (.cells #[.slice la m.r.length lc] 22 (0,0))
         have HBO:Hid (Below w1.heap.size w1 wr):=Lib.hid (HB.out.trans (HV.out.mono HB.out.size))
         have hbs:=HBO.out.size
         clear hown hg hgr
         go_wp2_with (at_builtin
                      refine wpList_append_any rowII rfl (.tmp 52) (.tmp 54) rfl w1.heap.size (.slice a j c) j vs rfl hgo (some ⟨wr.heap.size,0,none⟩) 1 1 [.slice la m.r.length lc] rfl rfl (At.one wr _ _) (one_cell _ rfl) (by unfold maxLen;omega) (by omega) (by simp;omega) ?_
                      intro b7 c7 w7 ho7 hg7 _
                      have HB7:=Lib.hid (HGR.out.pushB HBO.out hbs hg7)
                      have HG7:Hid (∃ vs,Gr w1.heap.size w7 b7 (j+1) c7 vs ((gnL m.r m.b).take (j+1))):=Lib.hid ⟨_,by rw [HTK.out];exact HGR.out.push HT.out hg7 ho7⟩
                      clear ho7 hg7)
         go_roundw
         case rel=>exact ⟨j+1,b7,c7,by omega,by go_num,rfl,HG7,HB7⟩
         case measure=>have:=HN.out;simp [intOf];omega
   · have hjj:j=m.b.length:=by omega
     subst hjj
     have HIL:Hid (IsIL wr a m.b.length c (gnL m.r m.b)):=Lib.hid (by
       obtain ⟨vs,hg⟩:=HG.out
       rw [List.take_of_length_le (by rw [gnL_length];exact Nat.le_refl _)] at hg
       exact hg.isIL (gnL_length _ _).symm)
     go_wp2_with fail
     go_ret2
     exact ⟨a,c,rfl,HB1.out.trans (HB.out.mono HB1.out.size),HIL.out⟩
end
section
open Go.RowKit Go.Shelf
attribute [local go_sem] Oper.semAt_some
structure WpJ (B T:Nat) (w1:World) (a1 a2 a3:Option Addr) (d1 d2 d3 j:Nat) (r o:List Int) (vs:List Value) (L:List (List Int)) (W:World):Prop where
 bel:Below B w1 W
 t:W.heap[T]?=some (.cells #[.slice a1 r.length d1,.slice a2 j d2,.slice a3 o.length d3] 25 (0,0))
 g:Gr B W a2 j d2 vs L
 r:IsT W a1 r.length d1 r
 o:IsT W a3 o.length d3 o
theorem WpJ.below {B T:Nat} {w1:World} {a1 a2 a3:Option Addr} {d1 d2 d3 j:Nat} {r o:List Int} {vs:List Value} {L:List (List Int)} {W W':World} (h:WpJ B T w1 a1 a2 a3 d1 d2 d3 j r o vs L W) (hB:B≤W.heap.size) (hb:Below W.heap.size W W'):WpJ B T w1 a1 a2 a3 d1 d2 d3 j r o vs L W' :=
 ⟨h.bel.trans (hb.mono hB),below_heap hb h.t (lt_of_heap h.t),h.g.below hb,h.r.below hb,h.o.below hb⟩
theorem Gr.isIIp {B:Nat} {w:World} {a:Option Addr} {k c:Nat} {vs:List Value} {L:List (List Int)} (h:Gr B w a k c vs L) (hk:k=L.length):IsIIp w (fun _=>True) a L.length c vs L:=by
 obtain ⟨h1,h2,h3⟩:=h
 have h0:=h1
 refine ⟨rfl,?_,?_,⟨h2,fun i hi=>by obtain ⟨x,y,z,e,hI⟩:=h3 i hi;exact ⟨x,y,z,e,hI.1,fun _ _ _ _=>trivial⟩⟩,?_⟩
 · have:=owns_caps h1;omega
 · exact (owns_caps h1).2.1
 · rcases h1.2 with ⟨hv,hx⟩ | ⟨g,cap,cur,hv,hb,hg,hnc,hcm,hcs,htk⟩
   · obtain ⟨e1,e2,e3⟩:=Value.slice.inj hv
     exact .inl (List.eq_nil_of_length_eq_zero (by omega))
   · obtain ⟨e1,e2,e3⟩:=Value.slice.inj hv
     subst e1
     exact .inr ⟨g,0,rfl,trivial,lt_of_heap hg,fun i hi=>by rw [Nat.zero_add];exact cells_of_owns h0 _ _ (List.getElem?_eq_getElem hi)⟩
theorem wp_fin {w1 W:World} {T:Nat} {a1 a3:Option Addr} {d1 d3:Nat} {r o:List Int} (hb:Bel w1 W) (hT:W.heap[T]?=some Z3) (hT1:w1.heap.size≤T) (h1:IsT W a1 r.length d1 r) (h3:IsT W a3 o.length d3 o) :
   w1.heap.size≤T∧WpJ w1.heap.size T w1 a1 none a3 d1 0 d3 0 r o [] [] (((W.setCell ⟨T,0,none⟩ (.slice a1 r.length d1)).setCell ⟨T,1,none⟩ (.slice none 0 0)).setCell ⟨T,2,none⟩ (.slice a3 o.length d3)):=by
 have t3:Touch (fun k=>k=T) W (((W.setCell ⟨T,0,none⟩ (.slice a1 r.length d1)).setCell ⟨T,1,none⟩ (.slice none 0 0)).setCell ⟨T,2,none⟩ (.slice a3 o.length d3)):=(((Touch.refl (fun k=>k=T) W).setCell _ _ (.inl rfl)).setCell _ _ (.inl rfl)).setCell _ _ (.inl rfl)
 have g1:=heap_setCell_same W T 0 _ _ (.slice a1 r.length d1) hT
 have g2:=heap_setCell_same _ T 1 _ _ (.slice none 0 0) g1
 have g3:=heap_setCell_same _ T 2 _ _ (.slice a3 o.length d3) g2
 have hk:∀ b C,b<W.heap.size→W.heap[b]?=some (.cells C 3 (0,0))→(((W.setCell ⟨T,0,none⟩ (.slice a1 r.length d1)).setCell ⟨T,1,none⟩ (.slice none 0 0)).setCell ⟨T,2,none⟩ (.slice a3 o.length d3)).heap[b]?=some (.cells C 3 (0,0)):=fun b C _ hC=>t3.heap hC (fun e=>by
   rw [e,hT] at hC
   have:=(Obj.cells.inj (Option.some.inj hC)).2.1
   revert this;decide)
 exact ⟨hT1,hb.out.trans (t3.below hb.out.size (fun k hk e=>by omega)),g3,Gr.nil _ _,h1.keep t3.size hk,h3.keep t3.size hk⟩
theorem wp_fin2 {w1 W:World} {T:Nat} {a1 a3:Option Addr} {d1 d3:Nat} {r o:List Int} (hb:Bel w1 W) (hT:T=W.heap.size) (h1:IsT W a1 r.length d1 r) (h3:IsT W a3 o.length d3 o) :
   w1.heap.size≤T∧WpJ w1.heap.size T w1 a1 none a3 d1 0 d3 0 r o [] [] (W.alloc (.cells #[.slice a1 r.length d1,.slice none 0 0,.slice a3 o.length d3] 25 (0,0))):=by
 subst hT
 have hba:Below W.heap.size W (W.alloc (.cells #[.slice a1 r.length d1,.slice none 0 0,.slice a3 o.length d3] 25 (0,0))):=(Below.refl _ _).alloc (Nat.le_refl _) _
 exact ⟨hb.out.size,hb.out.trans (hba.mono hb.out.size),heap_new W _,Gr.nil _ _,h1.below hba,h3.below hba⟩
theorem WpJ.push {B T:Nat} {w1:World} {a1 a2 a3:Option Addr} {d1 d2 d3 j:Nat} {r o:List Int} {vs:List Value} {L:List (List Int)} {W W7:World} (h:WpJ B T w1 a1 a2 a3 d1 d2 d3 j r o vs L W) (hB:B≤W.heap.size) (hT:B≤T) {x:Option Addr} {y z:Nat} {l:List Int} (hl:IsT W x y z l) {b7:Option Addr} {c7:Nat}
   (hg:(W.alloc (.cells #[.slice x y z] 22 (0,0))).grownBy W7 (Value.slice a2 j d2).ownBlock) (ho:W7.ownsRow B 22 1 (.slice b7 (j+1) c7) (j+1) (vs ++ [.slice x y z])) :
   W7.heap[T]?=some (.cells #[.slice a1 r.length d1,.slice a2 j d2,.slice a3 o.length d3] 25 (0,0))∧WpJ B T w1 a1 b7 a3 d1 c7 d3 (j+1) r o (vs ++ [.slice x y z]) (L ++ [l]) (W7.setCell ⟨T,1,none⟩ (.slice b7 (j+1) c7)):=by
 have hA:Below W.heap.size W (W.alloc (.cells #[.slice x y z] 22 (0,0))):=(Below.refl _ _).alloc (Nat.le_refl _) _
 have hk7:∀ {ty:TypeId} {b:Nat} {C:Array Value},ty≠22→W.heap[b]?=some (.cells C ty (0,0))→W7.heap[b]?=some (.cells C ty (0,0)):=fun {ty b C} hty hC=>by
   have h1:=below_heap hA hC (lt_of_heap hC)
   refine (hg.block b (lt_of_heap h1) (fun e => ?_)).trans h1
   obtain ⟨cur,hcu⟩:=owns_block h.g.1 e.symm
   rw [hC] at hcu
   exact hty (Obj.cells.inj (Option.some.inj hcu)).2.1
 have hs7:W.heap.size≤W7.heap.size:=Nat.le_trans hA.size hg.size
 have t7:=hk7 (by decide) h.t
 have g7:=h.g.push hl hg ho
 have hb7:Below B w1 W7:=h.g.pushB h.bel hB hg
 have ht:Touch (fun k=>k=T) W7 (W7.setCell ⟨T,1,none⟩ (.slice b7 (j+1) c7)):=(Touch.refl _ _).setCell _ _ (.inl rfl)
 have hk8:∀ {ty:TypeId} {b:Nat} {C:Array Value},ty≠25→W7.heap[b]?=some (.cells C ty (0,0))→(W7.setCell ⟨T,1,none⟩ (.slice b7 (j+1) c7)).heap[b]?=some (.cells C ty (0,0)):=fun {ty b C} hty hC=>ht.heap hC (fun e=>by
   rw [e,t7] at hC
   exact hty (Obj.cells.inj (Option.some.inj hC)).2.1.symm)
 refine ⟨t7,hb7.setCell (p:=⟨T,1,none⟩) hT _,?_,⟨owns_touch g7.1 ht (fun k hk e => ?_),g7.2.keep ht.size (fun b C _ hC=>hk8 (by decide) hC)⟩,h.r.keep (Nat.le_trans hs7 ht.size) (fun b C _ hC=>hk8 (by decide) (hk7 (by decide) hC)),h.o.keep (Nat.le_trans hs7 ht.size) (fun b C _ hC=>hk8 (by decide) (hk7 (by decide) hC))⟩
 · rw [heap_setCell_same W7 T 1 _ _ _ t7];rfl
 · obtain ⟨cur,hcu⟩:=owns_block g7.1 hk
   rw [e,t7] at hcu
   have:=(Obj.cells.inj (Option.some.inj hcu)).2.1
   revert this;decide
set_option maxRecDepth 100000 in
set_option maxHeartbeats 8000000 in
theorem r05without_any (x:MkA) (m:MkC) (i:Nat) (w:World) (h:MkT w x m) (hi:i<m.b.length) :
   Calls Tryz.prog 40 #[.agg x.cells.toArray,.int .i64 (i:Int)] w fun e W => ∃ y:MkA,e=.returned (.tuple #[.agg y.cells.toArray,.int .i64 0])∧Below w.heap.size w W∧MkT W y ⟨m.r,m.b.set i [],m.o⟩:=by
 obtain ⟨ra,rn,rc,ba,bn,bc,bv,oa,on,oc⟩:=x
 have hr:=h.v.r.1
 have hbb:=h.v.b
 have ho:=h.v.o.1
 unfold MkA.cells
 dsimp only at hr hbb ho ⊢
 obtain rfl:=hr.1
 obtain rfl:=hbb.1
 obtain rfl:=ho.1
 have hmo:=mktB_ok h.ok
 have hk8:=hmo.hk.2
 have hn8:=hmo.hn.2
 have hol:=(ord_bd (mktB_bd h.ok).2.2.2.1).1
 have HOK:=Lib.hid h.ok
 have HOL:=Lib.hid hol
 have dd1:decide ((i:Int)<0)=false:=decide_eq_false (by omega)
 have dd2:decide ((m.b.length:Int)≤(i:Int))=false:=decide_eq_false (by omega)
 obtain ⟨hb0,m0,m1⟩:=alloc2_facts w (.cells #[.slice ra m.r.length rc,.slice ba m.b.length bc,.slice oa m.o.length oc] 25 (0,0)) (.cells #[.slice none 0 0,.slice none 0 0,.slice none 0 0] 25 (0,0))
 have HM:=Lib.hid (h.below hb0)
 clear h hr hbb ho hmo hol
 go_enter Tryz.func40,Tryz.ntmps40
 go_wp2_with fail
 generalize ((w.alloc (.cells #[.slice ra m.r.length rc,.slice ba m.b.length bc,.slice oa m.o.length oc] 25)).alloc (.cells #[.slice none 0 0,.slice none 0 0,.slice none 0 0] 25))=W at hb0 m0 m1 HM ⊢
 have c0:W.cell? ⟨w.heap.size,0,none⟩=some (.slice ra m.r.length rc):=by rw [cell_of_block m0];rfl
 have c1:W.cell? ⟨w.heap.size,1,none⟩=some (.slice ba m.b.length bc):=by rw [cell_of_block m0];rfl
 have c2:W.cell? ⟨w.heap.size,2,none⟩=some (.slice oa m.o.length oc):=by rw [cell_of_block m0];rfl
 have HB0:=Lib.hid hb0
 have H1:=Lib.hid m1
 clear hb0 m0 m1
 refine (r05check_any ⟨ra,m.r.length,rc,ba,m.b.length,bc,bv,oa,m.o.length,oc⟩ m W HM.out.v (by omega)).mono ?_;rintro e w1 ⟨rfl,hb1⟩
 rw [HOK.out]
 have HB1:=Lib.hid (HB0.out.trans (hb1.mono HB0.out.size))
 have HM1:=Lib.hid (HM.out.below hb1)
 have H11:=Lib.hid (below_heap hb1 H1.out (lt_of_heap H1.out))
 have k0:=cell_later hb1 c0
 have k1:=cell_later hb1 c1
 have k2:=cell_later hb1 c2
 have dd3:decide (m.b.length≤i)=false:=decide_eq_false (by omega)
 have hli:¬ m.b.length≤i:=by omega
 have HR1:Hid (IsI w1 ra m.r.length rc m.r):=Lib.hid HM1.out.v.r.1
 have HQ1:Hid (IsI w1 oa m.o.length oc m.o):=Lib.hid HM1.out.v.o.1
 clear hb1 c0 c1 c2 HM H1 HB0
 go_upto_region 3 with fail
 go_cut [6] (fun s6 wx => ∃ T a1 d1 a3 d3,s6=.pointer (some ⟨T,0,none⟩)∧Hid (w1.heap.size≤T∧WpJ w1.heap.size T w1 a1 none a3 d1 0 d3 0 m.r m.o [] [] wx))
 case first =>
   have hk1:m.r.length≤8:=hk8
   have ho8:m.o.length≤8:=by have:=HOL.out;omega
   go_region_held3 (fun w' => w'.cell? ⟨w.heap.size,0,none⟩=some (.slice ra m.r.length rc)∧w'.cell? ⟨w.heap.size,1,none⟩=some (.slice ba m.b.length bc)∧w'.cell? ⟨w.heap.size,2,none⟩=some (.slice oa m.o.length oc)) (first
       | with_reducible exact ⟨cell_later (Bel.out (w:=w1)) k0,cell_later (Bel.out (w:=w1)) k1,cell_later (Bel.out (w:=w1)) k2⟩
       | exact ⟨cell_later (keepS (w1:=w1) inferInstance (by omega)) k0,cell_later (keepS (w1:=w1) inferInstance (by omega)) k1,cell_later (keepS (w1:=w1) inferInstance (by omega)) k2⟩
       | fail) (first
     | (refine step_append_any rowInt rfl (.const (.slice none 0 0)) (.tmp 24) (by rfl) w1.heap.size (.slice none 0 0) 0 [] (by rfl) (World.ownsRow_nil _ _ _ _) ra m.r.length rc (icells m.r) (by simp [Act.eval,Act.put]) (by rw [icells_length,Nat.mul_one]) (HR1.out.below (Bel.out (w:=w1))).at' (icells_one _) (by unfold maxLen;omega) (by omega) (Bel.out (w:=w1)).size ?_;intro a1 d1 wa hoa hga _;have hba:=Below.grown (Bel.out (w:=w1)) hga (Bel.out (w:=w1)).size (fun k hk=>by cases hk);haveI ia:Bel w1 wa:=⟨hba⟩;have sa:=hba.size;(try simp only [World.size_alloc,World.size_drew] at sa);have hia:IsT wa a1 m.r.length d1 m.r:=(by have:=isT_of_owns (l:=m.r) hoa (by simp);simpa only [Nat.zero_add] using this);haveI na:=fun (T:Nat) (o:Obj) [h:NewBlk w1 _ T o]=>h.later (Below.grown (Below.refl _ _) hga (Nat.le_refl _) (fun k hk=>by cases hk)))
     | (refine step_append_any rowInt rfl (.const (.slice none 0 0)) (.tmp 27) (by rfl) w1.heap.size (.slice none 0 0) 0 [] (by rfl) (World.ownsRow_nil _ _ _ _) oa m.o.length oc (icells m.o) (by simp [Act.eval,Act.put]) (by rw [icells_length,Nat.mul_one]) (HQ1.out.below (Bel.out (w:=w1))).at' (icells_one _) (by unfold maxLen;omega) (by omega) (Bel.out (w:=w1)).size ?_;intro a3 d3 wb hob hgb _;have hbb:=Below.grown (Bel.out (w:=w1)) hgb (Bel.out (w:=w1)).size (fun k hk=>by cases hk);haveI ib:Bel w1 wb:=⟨hbb⟩;have sb:=hbb.size;(try simp only [World.size_alloc,World.size_drew] at sb);haveI iab:Bel wa wb:=⟨Below.grown (Bel.out (w:=wa)) hgb (Bel.out (w:=wa)).size (fun k hk=>by cases hk)⟩;have hib:IsT wb a3 m.o.length d3 m.o:=(by have:=isT_of_owns (l:=m.o) hob (by simp);simpa only [Nat.zero_add] using this);haveI nb:=fun (T:Nat) (o:Obj) [h:NewBlk w1 _ T o]=>h.later (Below.grown (Below.refl _ _) hgb (Nat.le_refl _) (fun k hk=>by cases hk));(try (have t1:=blk3 (NewBlk.at_ (w:=w1) (W:=wb) (T:=w1.heap.size));(try simp only [World.size_alloc,World.size_drew] at t1);obtain ⟨⟨t10,t11,t12⟩,t13,t14,t15⟩:=t1));(try (have t3:=blk3 (NewBlk.at_ (w:=w1) (W:=wb) (T:=wa.heap.size));(try simp only [World.size_alloc,World.size_drew] at t3);obtain ⟨⟨t30,t31,t32⟩,t33,t34,t35⟩:=t3)))
     | fail)
   all_goals
     go_wp2_with fail
     go_meet
     first
       | exact ⟨_,a1,d1,a3,d3,rfl,Lib.hid (wp_fin2 (w1:=w1) inferInstance rfl (hia.below (Bel.out (w:=wa))) hib)⟩
       | exact ⟨_,a1,d1,a3,d3,rfl,Lib.hid (wp_fin (w1:=w1) inferInstance (NewBlk.at_ (w:=w1)) (by omega) (hia.below (Bel.out (w:=wa))) hib)⟩
       | exact ⟨_,a1,d1,a3,d3,rfl,Lib.hid (wp_fin (w1:=w1) inferInstance (blk_at (w1:=w1) (T':=wa.heap.size) (by simp only [World.size_alloc,World.size_drew])) (by omega) (hia.below (Bel.out (w:=wa))) hib)⟩
       | exact ⟨_,a1,d1,a3,d3,rfl,Lib.hid (wp_fin (w1:=w1) inferInstance (blk_at (w1:=w1) (T':=w1.drew.heap.size) (by simp only [World.size_alloc,World.size_drew])) (by omega) (hia.below (Bel.out (w:=wa))) hib)⟩
       | exact ⟨_,a1,d1,a3,d3,rfl,Lib.hid (wp_fin (w1:=w1) inferInstance (blk_at (w1:=w1) (T':=w1.heap.size) (by simp only [World.size_alloc,World.size_drew])) (by omega) (hia.below (Bel.out (w:=wa))) hib)⟩
 case rest =>
   obtain ⟨T,a1,d1,a3,d3,rfl,HC⟩:=hcut
   obtain ⟨w3,rfl⟩:∃ w3:World,w3=wc:=⟨_,rfl⟩
   obtain ⟨hT1,hJ⟩:=HC.out
   have HTB:Hid (w1.heap.size≤T):=Lib.hid hT1
   have HJ0:=Lib.hid hJ
   have hlw:w.heap.size<w1.heap.size:=(addr_of_cell k1).2
   have l1:=cell_later hJ.bel k1
   have HK1:=Lib.hid k1
   clear hT1 hJ HC k0 k1 k2
   go_wp2_with fail
   clear l1
   go_loopw [7] (fun q wr => ∃ (j:Nat) (a2:Option Addr) (d2:Nat),j≤m.b.length∧q=.int .i64 (j:Int)∧Hid (∃ vs,WpJ w1.heap.size T w1 a1 a2 a3 d1 d2 d3 j m.r m.o vs ((m.b.set i []).take j) wr)) (fun q _=>m.b.length - (intOf q).toNat)
   case atStart=>exact ⟨0,none,0,Nat.zero_le _,rfl,Lib.hid ⟨[],HJ0.out⟩⟩
   case round =>
     obtain ⟨j,a2,d2,hj,rfl,HJX⟩:=hrel
     obtain ⟨vs,hJ⟩:=HJX.out
     have HJ:=Lib.hid hJ
     clear hJ HJX
     by_cases hlt:j<m.b.length
     · obtain ⟨b4,o4,x4,z4,e4,hb4,hc4,hI4⟩:=HM1.out.v.b.isIL.at hlt
       dsimp only at e4
       subst e4
       have kb:wr.cell? ⟨b4,o4+j,none⟩=some (.slice x4 m.b[j].length z4):=(HJ.out.bel.cell (p:=⟨b4,o4+j,none⟩) hb4).trans hc4
       have HBI:=Lib.hid (hI4.below HJ.out.bel)
       have HTK:Hid ((m.b.set i []).take (j+1)=(m.b.set i []).take j ++ [if j=i then [] else m.b[j]]):=Lib.hid (by
         rw [List.take_succ_eq_append_getElem (by simpa using hlt),List.getElem_set]
         by_cases e:i=j
         · rw [if_pos e,if_pos e.symm]
         · rw [if_neg e,if_neg (fun h=>e h.symm)])
       have hbl8:m.b[j].length≤8:=by
         have h9:=(mktB_bd HOK.out).2.2.2.2 _ (List.getElem_mem hlt)
         by_cases e:m.b[j].length=0
         · omega
         · have:=(okB_bd ((bidB_bd h9).2.1 e)).2;omega
       have kT:wr.cell? ⟨T,1,none⟩=some (.slice a2 j d2):=by rw [cell_of_block HJ.out.t];rfl
       have zT:wr.frozen? ⟨T,1,none⟩=false:=blk_free HJ.out.t
       have hws:w1.heap.size≤wr.heap.size:=HJ.out.bel.size
       have l1:=cell_later HJ.out.bel HK1.out
       have hgo:=HJ.out.g.1
       generalize m.b[j]=bid at HBI HTK hbl8 kb
       clear hc4 hI4
       go_upto_block 1 with fail
       go_cut [7] (fun s wx=>s=.int .i64 (j:Int)∧Hid (∃ b c vs,WpJ w1.heap.size T w1 a1 b a3 d1 c d3 (j+1) m.r m.o vs ((m.b.set i []).take (j+1)) wx))
       case first =>
         by_cases hji:j=i
         · have dj:((j:Int) == (i:Int))=true:=by rw [hji];exact beq_self_eq_true _
           rw [if_pos hji] at HTK
           clear hji
           go_wp2_with (at_builtin
                        refine wpList_append_any rowII rfl (.tmp 41) (.tmp 42) rfl w1.heap.size (.slice a2 j d2) j vs rfl (hgo.alloc _) (some ⟨wr.heap.size,0,none⟩) 1 1 [.slice none 0 0] rfl rfl (At.one wr _ _) (one_cell _ rfl) (by unfold maxLen;omega) (by omega) (by simp;omega) ?_
                        intro b7 c7 w7 ho7 hg7 _
                        have hpp:=HJ.out.push hws HTB.out (IsT.nil wr) hg7 ho7
                        have c7T:w7.cell? ⟨T,1,none⟩=some (.slice a2 j d2):=(by rw [cell_of_block hpp.1];rfl)
                        have z7T:w7.frozen? ⟨T,1,none⟩=false:=blk_free hpp.1
                        have HP7:=Lib.hid hpp.2
                        clear ho7 hg7 hpp)
           go_meet
           exact ⟨rfl,Lib.hid ⟨_,_,_,by rw [HTK.out];exact HP7.out⟩⟩
         · have dj:((j:Int) == (i:Int))=false:=by rw [beq_eq_false_iff_ne];omega
           rw [if_neg hji] at HTK
           clear hji
           go_wp2_with fail
           go_region_law (first
             | (refine step_append_any rowInt rfl (.const (.slice none 0 0)) (.tmp 51) (by rfl) w1.heap.size (.slice none 0 0) 0 [] (by rfl) (World.ownsRow_nil _ _ _ _) x4 bid.length z4 (icells bid) (by simp [Act.eval,Act.put]) (by rw [icells_length,Nat.mul_one]) (HBI.out.below (Bel.out (w:=wr))).at' (icells_one _) (by unfold maxLen;omega) (by omega) (Nat.le_trans hws (Bel.out (w:=wr)).size) ?_
                intro a5 d5 wa hoa hga _
                have hba:=Below.grown (Bel.out (w:=wr)) hga (Bel.out (w:=wr)).size (fun k hk=>by cases hk)
                have hia:IsT wa a5 bid.length d5 bid:=(by have:=isT_of_owns (l:=bid) hoa (by simp);simpa only [Nat.zero_add] using this)
                have kTa:=cell_later hba kT
                have hJa:=HJ.out.below hws hba
                have hgoa:=hJa.g.1
                have hwa:w1.heap.size≤wa.heap.size:=Nat.le_trans hws hba.size
                have kTb:(wa.alloc (.cells #[.slice a5 bid.length d5] 22 (0,0))).cell? ⟨T,1,none⟩=some (.slice a2 j d2):=cell_alloc kTa _
                (try simp only [Nat.zero_add]))
             | (refine step_append_any rowII rfl (.tmp 46) (.tmp 53) (by rfl) w1.heap.size (.slice a2 j d2) j vs (by simp [Act.eval,Act.put]) (hgoa.alloc _) (some ⟨wa.heap.size,0,none⟩) 1 1 [.slice a5 bid.length d5] (by simp [Act.eval,Act.put]) rfl (At.one wa _ _) (one_cell _ rfl) (by unfold maxLen;omega) (by omega) (by simp;omega) ?_
                intro b7 c7 w7 ho7 hg7 _
                have hpp:=hJa.push hwa HTB.out hia hg7 ho7
                have c7T:w7.cell? ⟨T,1,none⟩=some (.slice a2 j d2):=(by rw [cell_of_block hpp.1];rfl)
                have z7T:w7.frozen? ⟨T,1,none⟩=false:=blk_free hpp.1
                have HP7:=Lib.hid hpp.2
                clear ho7 hg7 hpp)
             | fail)
           all_goals
             go_wp2_with fail
             go_meet
             exact ⟨rfl,Lib.hid ⟨_,_,_,by rw [HTK.out];exact HP7.out⟩⟩
       case rest =>
         obtain ⟨rfl,HJ2⟩:=hcut
         clear kb kT zT l1
         go_wp2_with fail
         go_roundw
         case rel=>exact ⟨j+1,HJ2.out.choose,HJ2.out.choose_spec.choose,by omega,by go_num,Lib.hid HJ2.out.choose_spec.choose_spec⟩
         case measure=>simp [intOf];omega
     · have hjj:j=m.b.length:=by omega
       subst hjj
       have HR1:=Lib.hid (below_heap HJ.out.bel H11.out (lt_of_heap H11.out))
       have HTT:=Lib.hid HJ.out.t
       have l1:=cell_later HJ.out.bel HK1.out
       go_wp2_with (first
         | (refine wpList_load_mid rfl 25 (.tmp 6) rfl T 0 rfl [.slice a1 m.r.length d1,.slice a2 m.b.length d2,.slice a3 m.o.length d3] _ (rangeAt_row HTT.out) Tryz.underlying25 rfl info_mkt ?_)
         | (refine wpList_store_whole rfl 25 (.tmp 4) (.tmp 56) rfl (w.heap.size+1) [.slice a1 m.r.length d1,.slice a2 m.b.length d2,.slice a3 m.o.length d3] _ _ HR1.out rfl rfl rfl info_mkt (mkt_one _ _ _ _ _ _ _ _ _) ?_;intro w4 ht4 hg4)
         | fail)
       refine bodyPost_ret (results_cell_tmp rfl _ _ (w.heap.size+1) 0 rfl [.slice a1 m.r.length d1,.slice a2 m.b.length d2,.slice a3 m.o.length d3] _ (rangeAt_row hg4) Tryz.underlying25 rfl info_mkt) rfl ?_
       have hk:∀ b C,b<wr.heap.size→wr.heap[b]?=some (.cells C 3 (0,0))→w4.heap[b]?=some (.cells C 3 (0,0)):=fun b C _ hC=>ht4.heap hC (fun e=>by
         rw [e,HR1.out] at hC
         have:=(Obj.cells.inj (Option.some.inj hC)).2.1
         revert this;decide)
       have hg:=HJ.out.g
       rw [List.take_of_length_le (by simp)] at hg
       have ho4:w4.ownsRow w1.heap.size 22 1 (.slice a2 m.b.length d2) m.b.length vs:=owns_touch hg.1 ht4 (fun k hk e=>by
         have:=owns_base hg.1 k hk
         have:=lt_of_heap H11.out
         omega)
       have hg4':Gr w1.heap.size w4 a2 m.b.length d2 vs (m.b.set i []):=⟨ho4,hg.2.keep ht4.size hk⟩
       have hp:IsIIp w4 (fun _=>True) a2 (m.b.set i []).length d2 vs (m.b.set i []):=hg4'.isIIp (by simp)
       rw [List.length_set] at hp
       refine ⟨⟨a1,m.r.length,d1,a2,m.b.length,d2,vs,a3,m.o.length,d3⟩,rfl,HB1.out.trans ((HJ.out.bel.mono HB1.out.size).trans (ht4.below (Nat.le_trans HB1.out.size HJ.out.bel.size) (fun k hk e=>by omega))),⟨⟨(HJ.out.r.keep ht4.size hk).1,fun _ _ _ _=>trivial⟩,hp,⟨(HJ.out.o.keep ht4.size hk).1,fun _ _ _ _=>trivial⟩⟩,mktB_set HOK.out i⟩
end
end Go.Proofs.YtmmmjohoihpbeaaGreat
