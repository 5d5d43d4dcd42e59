/- The package outcomes: Even;conditions: those typed. -/
import Derived.Test.YtmmmjohoihpbeaaGreatTJmiJwOfJwVwJwEv
namespace Go.Proofs.YtmmmjohoihpbeaaGreat
section
open Go.RowKit Go.Shelf
set_option linter.unusedVariables false
set_option linter.unusedSimpArgs false
attribute [local go_sem] Oper.semAt_some
theorem wpList_load_w2 {P:Program} {ops:Array Oper} {rest:List Oper} {op:Oper} {a:Act} {w:World} {Q:Exit→Act→World→Prop} (hw:Region.wanted op (yielded ops a.tmps)=true) (ty:TypeId) (x:Operand) (ho:op.op=.load ty x)
   (b o:Nat) (hx:a.eval x=.pointer (some ⟨b,o,none⟩)) (cs:List Value) (d:TypeDesc) (hc:w.rangeAt b o cs)
   (hu:P.underlying ty=some d) (hd:d.isRow=true) (hi:(P.info? ty).map (·.size)=some cs.length)
   (h:wpList P ops Q rest (a.put op.dst (.agg cs.toArray)) w):wpList P ops Q (op :: rest) a w :=
 wpList_step fun K hK=>by
   simp only [hw,if_true]
   exact wp_load_mid ty x ho b o hx cs d hc hu hd hi (hK _ _ h)
def EvnQ (m:MkC) (has P:List Int) (w:World) (e:Ending) (W:World):Prop:=∃ v:Bool,e=.returned (.bool v)∧(v=true↔mktB m=true∧JM.EvenP m.r m.b has P)∧Below w.heap.size w W
def EvE (b:List (List Int)) (has P:List Int) (E:Bool) (c:Nat→Int):Prop:=(E=true∧(∀ i (h:i<has.length),rowOk (b.getD i []) P has[i])∧c=cntF has has.length)∨(E=false∧∃ i,∃ h:i<has.length,¬ rowOk (b.getD i []) P has[i])
structure EvJ (w1:World) (O F:Nat) (c f:Nat→Int) (W:World):Prop where
 bel:Below w1.heap.size w1 W
 o:W.heap[O]?=some (.cells (fnA 8 c) 80 (0,0))
 f:W.heap[F]?=some (.cells (fnA 8 f) 80 (0,0))
theorem EvJ.drewN {w1:World} {O F:Nat} {c f:Nat→Int} {W:World} (h:EvJ w1 O F c f W) (n:Nat):EvJ w1 O F c f (W.drewN n) :=
 ⟨h.bel.trans ((below_drewN (Below.refl _ _) n).mono h.bel.size),below_heap (below_drewN (Below.refl _ _) n) h.o (lt_of_heap h.o),below_heap (below_drewN (Below.refl _ _) n) h.f (lt_of_heap h.f)⟩
theorem EvJ.setO {w1:World} {O F:Nat} {c f:Nat→Int} {W:World} (h:EvJ w1 O F c f W) (hO:w1.heap.size≤O) (hne:F≠O) {z:Nat} (hz:z<8) (v:Int):EvJ w1 O F (updF c z v) f (W.setCell ⟨O,z,none⟩ (.int .i64 v)) :=
 ⟨h.bel.setCell (p:=⟨O,z,none⟩) hO _,by have:=heap_setCell_same W O z _ _ (.int .i64 v) h.o;rwa [fnA_set _ hz] at this,(Below.heap_setCell W ⟨O,z,none⟩ _ F hne).trans h.f⟩
theorem EvJ.setF {w1:World} {O F:Nat} {c f:Nat→Int} {W:World} (h:EvJ w1 O F c f W) (hF:w1.heap.size≤F) (hne:F≠O) {z:Nat} (hz:z<8) (v:Int):EvJ w1 O F c (updF f z v) (W.setCell ⟨F,z,none⟩ (.int .i64 v)) :=
 ⟨h.bel.setCell (p:=⟨F,z,none⟩) hF _,(Below.heap_setCell W ⟨F,z,none⟩ _ O (fun e=>hne e.symm)).trans h.o,by have:=heap_setCell_same W F z _ _ (.int .i64 v) h.f;rwa [fnA_set _ hz] at this⟩
set_option maxRecDepth 100000 in
set_option maxHeartbeats 8000000 in
theorem even_any (x:MkA) (m:MkC) (ha pa:Option Addr) (hn hc pn pc:Nat) (has P:List Int) (w:World) (h:IsMk w (fun _=>True) x m) (hrm:m.r.length≤17592186044416) (hh:IsI w ha hn hc has) (hp:IsI w pa pn pc P) :
   Calls Tryz.prog 34 #[.agg x.cells.toArray,.agg #[.slice ha hn hc,.slice pa pn pc]] w (EvnQ m has P w):=by
 obtain ⟨ra,rn,rc,ba,bn,bc,bv,oa,on,oc⟩:=x
 have hr:=h.r.1
 have hbb:=h.b
 have ho:=h.o.1
 unfold MkA.cells
 dsimp only at hr hbb ho ⊢
 obtain rfl:=hr.1
 obtain rfl:=hbb.1
 obtain rfl:=ho.1
 obtain rfl:=hh.1
 obtain rfl:=hp.1
 have hm1:=hh.len
 have hm2:=hp.len
 obtain ⟨hb0,m0,m1⟩:=alloc2_facts w (.cells #[.slice ra m.r.length rc,.slice ba m.b.length bc,.slice oa m.o.length oc] 25 (0,0)) (.cells #[.slice ha has.length hc,.slice pa P.length pc] 27 (0,0))
 have HM:=Lib.hid h
 have HH:=Lib.hid hh
 have HP:=Lib.hid hp
 have HRM:=Lib.hid hrm
 clear h hr hbb ho hh hp hrm
 go_enter Tryz.func34,Tryz.ntmps34
 go_wp2_with fail
 generalize ((w.alloc (.cells #[.slice ra m.r.length rc,.slice ba m.b.length bc,.slice oa m.o.length oc] 25)).alloc (.cells #[.slice ha has.length hc,.slice pa P.length pc] 27))=W at hb0 m0 m1 ⊢
 have c0:W.cell? ⟨w.heap.size,0,none⟩=some (.slice ra m.r.length rc):=by rw [cell_of_block m0];rfl
 have c1:W.cell? ⟨w.heap.size,1,none⟩=some (.slice ba m.b.length bc):=by rw [cell_of_block m0];rfl
 have c2:W.cell? ⟨w.heap.size,2,none⟩=some (.slice oa m.o.length oc):=by rw [cell_of_block m0];rfl
 have c3:W.cell? ⟨w.heap.size+1,0,none⟩=some (.slice ha has.length hc):=by rw [cell_of_block m1];rfl
 have c4:W.cell? ⟨w.heap.size+1,1,none⟩=some (.slice pa P.length pc):=by rw [cell_of_block m1];rfl
 have HB0:=Lib.hid hb0
 clear hb0 m0 m1
 go_step3
 go_wp2_with fail
 refine (mcheck_any _ ⟨ra,m.r.length,rc,ba,m.b.length,bc,bv,oa,m.o.length,oc⟩ m W (HM.out.below HB0.out) (by have:=HRM.out;omega)).mono ?_;rintro e w1 ⟨rfl,hb1⟩
 have HB1:=Lib.hid (HB0.out.trans (hb1.mono HB0.out.size))
 have k0:=cell_later hb1 c0
 have k1:=cell_later hb1 c1
 have k3:=cell_later hb1 c3
 have k4:=cell_later hb1 c4
 clear hb1 c0 c1 c2 c3 c4 HB0
 cases hq:mktB m with
 | false =>
   go_wp2_with fail
   go_ret
   exact ⟨false,rfl,⟨(fun e=>by cases e),(fun e=>by rw [hq] at e;cases e.1)⟩,HB1.out⟩
 | true =>
 by_cases hl:has.length=m.b.length
 case neg =>
   have d1:((has.length:Int) != (m.b.length:Int))=true:=by rw [bne_iff_ne];omega
   have HL:=Lib.hid hl
   clear hl
   go_wp2_with fail
   go_ret
   exact ⟨false,rfl,⟨(fun e=>by cases e),fun e=>absurd e.2.hl HL.out⟩,HB1.out⟩
 case pos =>
 by_cases pl:P.length=m.r.length
 case neg =>
   have d1:((has.length:Int) != (m.b.length:Int))=false:=by rw [bne_eq_false_iff_eq];omega
   have d2:((P.length:Int) != (m.r.length:Int))=true:=by rw [bne_iff_ne];omega
   have HPL:=Lib.hid pl
   clear pl hl
   go_wp2_with fail
   go_ret
   exact ⟨false,rfl,⟨(fun e=>by cases e),fun e=>absurd e.2.pl HPL.out⟩,HB1.out⟩
 case pos =>
 have d1:((has.length:Int) != (m.b.length:Int))=false:=by rw [bne_eq_false_iff_eq];omega
 have d2:((P.length:Int) != (m.r.length:Int))=false:=by rw [bne_eq_false_iff_eq];omega
 have hmo:=mktB_ok hq
 have hk8:=hmo.hk
 have hn8:=hmo.hn
 have hP8:P.length≤8:=by omega
 have hH8:has.length≤8:=by omega
 have hP1:1≤P.length:=by omega
 have HL:=Lib.hid hl
 have HPL:=Lib.hid pl
 have HMO:=Lib.hid hmo
 have HQ:=Lib.hid hq
 have HMT:Hid (MkT w ⟨ra,m.r.length,rc,ba,m.b.length,bc,bv,oa,m.o.length,oc⟩ m):=Lib.hid ⟨HM.out,hq⟩
 clear hl pl hmo hq hk8 hn8
 obtain ⟨b0,n0,n1⟩:=alloc2_facts w1 (.cells #[.int .i64 0,.int .i64 0,.int .i64 0,.int .i64 0,.int .i64 0,.int .i64 0,.int .i64 0,.int .i64 0] 80 (0,0)) (.cells #[.int .i64 0,.int .i64 0,.int .i64 0,.int .i64 0,.int .i64 0,.int .i64 0,.int .i64 0,.int .i64 0] 80 (0,0))
 have HJ0:Hid (EvJ w1 w1.heap.size (w1.heap.size+1) (fun _=>0) (fun _=>0) ((w1.alloc (.cells #[.int .i64 0,.int .i64 0,.int .i64 0,.int .i64 0,.int .i64 0,.int .i64 0,.int .i64 0,.int .i64 0] 80)).alloc (.cells #[.int .i64 0,.int .i64 0,.int .i64 0,.int .i64 0,.int .i64 0,.int .i64 0,.int .i64 0,.int .i64 0] 80))):=Lib.hid ⟨b0,n0,n1⟩
 have l0:=cell_later b0 k0
 have l1:=cell_later b0 k1
 have l3:=cell_later b0 k3
 have l4:=cell_later b0 k4
 have HK:=Lib.hid (And.intro k0 (And.intro k1 (And.intro k3 k4)))
 clear b0 n0 n1
 go_upto_block 0 with fail
 clear k0 k1 k3 k4
 go_step3
 obtain ⟨O,hO⟩:∃ O,w1.heap.size=O:=⟨_,rfl⟩
 obtain ⟨F,hF⟩:∃ F,w1.heap.size+1=F:=⟨_,rfl⟩
 have HOF:Hid (w1.heap.size≤O∧w1.heap.size≤F∧F≠O):=Lib.hid ⟨by omega,by omega,by omega⟩
 rw [hF,hO] at HJ0 ⊢
 clear hF hO
 generalize ((w1.alloc (.cells #[.int .i64 0,.int .i64 0,.int .i64 0,.int .i64 0,.int .i64 0,.int .i64 0,.int .i64 0,.int .i64 0] 80)).alloc (.cells #[.int .i64 0,.int .i64 0,.int .i64 0,.int .i64 0,.int .i64 0,.int .i64 0,.int .i64 0,.int .i64 0] 80))=W2 at HJ0 l0 l1 l3 l4 ⊢
 go_upto_block 0 with fail
 go_cut [7] (fun s wx => ∃ E:Bool,s=.bool E∧Hid (∃ c:Nat→Int,EvJ w1 O F c (fun _=>0) wx∧(∀ k,0≤c k∧c k≤8)∧EvE m.b has P E c))
 case first =>
   obtain ⟨N,hN⟩:∃ N,N=has.length:=⟨_,rfl⟩
   have HN:=Lib.hid hN
   clear hN
   have HQ0:Hid (EvJ w1 O F (cntF has 0) (fun _=>0) W2∧∀ i (h:i<has.length),i<0→rowOk (m.b.getD i []) P has[i]):=Lib.hid ⟨by rw [cntF_zero];exact HJ0.out,fun i h h0=>by omega⟩
   go_wp2_with fail
   go_loopw [7,40] (fun ev i wr => ∃ j:Nat,j≤has.length∧ev=.bool true∧i=.int .i64 (j:Int)∧Hid (EvJ w1 O F (cntF has j) (fun _=>0) wr∧∀ i (h:i<has.length),i<j→rowOk (m.b.getD i []) P has[i])) (fun _ i _=>N - (intOf i).toNat)
   case atStart=>exact ⟨0,Nat.zero_le _,rfl,rfl,HQ0⟩
   case round =>
     obtain ⟨j,hj,rfl,rfl,HJ⟩:=hrel
     have HC9:Hid (∀ k,0≤cntF has j k∧cntF has j k≤8):=Lib.hid (fun k=>by have:=cntF_bd has j k;omega)
     by_cases hlt:j<has.length
     · have hbw:Below w.heap.size w wr:=HB1.out.trans (HJ.out.1.bel.mono HB1.out.size)
       obtain ⟨b3,o3,e3,hb3,hc3⟩:=HH.out.at j hlt
       subst e3
       have kz:wr.cell? ⟨b3,o3+j,none⟩=some (.int .i64 has[j]):=(hbw.cell (p:=⟨b3,o3+j,none⟩) hb3).trans hc3
       have kh:wr.cell? ⟨w.heap.size+1,0,none⟩=some (.slice (some ⟨b3,o3,none⟩) has.length hc):=cell_later HJ.out.1.bel HK.out.2.2.1
       have kp:wr.cell? ⟨w.heap.size+1,1,none⟩=some (.slice pa P.length pc):=cell_later HJ.out.1.bel HK.out.2.2.2
       have HZ:Hid (∀ z,has[j]=z→∃ h:j<has.length,has[j]=z):=Lib.hid (fun z e=>⟨hlt,e⟩)
       have HBAD:Hid (∀ c,EvJ w1 O F c (fun _=>0) wr→True):=Lib.hid (fun _ _=>trivial)
       obtain ⟨z,hz⟩:∃ z,has[j]=z:=⟨_,rfl⟩
       rw [hz] at kz
       have HZZ:Hid (∃ h:j<has.length,has[j]=z):=Lib.hid ⟨hlt,hz⟩
       have HNO:Hid (¬ rowOk (m.b.getD j []) P z→EvE m.b has P false (cntF has j)):=Lib.hid (fun h=>.inr ⟨rfl,j,hlt,by rw [hz];exact h⟩)
       clear hc3 hz HZ HBAD hbw
       by_cases z1:z < -1
       case pos =>
         have dz:decide (z < -1)=true:=decide_eq_true z1
         have HNO2:Hid (EvE m.b has P false (cntF has j)):=Lib.hid (HNO.out (fun h=>by have:=h.1;omega))
         clear z1
         go_wp2_with fail
         go_meet
         exact ⟨false,rfl,Lib.hid ⟨_,HJ.out.1,HC9.out,HNO2.out⟩⟩
       case neg =>
       have dz:decide (z < -1)=false:=decide_eq_false z1
       by_cases z2:(P.length:Int)≤z
       case pos =>
         have dz2:decide ((P.length:Int)≤z)=true:=decide_eq_true z2
         have HNO2:Hid (EvE m.b has P false (cntF has j)):=Lib.hid (HNO.out (fun h=>by have:=h.2.1;omega))
         clear z1 z2
         go_wp2_with fail
         go_meet
         exact ⟨false,rfl,Lib.hid ⟨_,HJ.out.1,HC9.out,HNO2.out⟩⟩
       case neg =>
       have dz2:decide ((P.length:Int)≤z)=false:=decide_eq_false z2
       have HZB:Hid (-1≤z∧z<P.length):=Lib.hid ⟨by omega,by omega⟩
       clear z1 z2
       go_upto_if 55 with fail
       go_cut [40] (fun s wx=>s=.int .i64 (j:Int)∧Hid (EvJ w1 O F (cntF has (j+1)) (fun _=>0) wx))
       case first =>
         by_cases z3:z = -1
         · have dz3:(z != -1)=false:=by rw [bne_eq_false_iff_eq];exact z3
           have HE:Hid (cntF has (j+1)=cntF has j):=Lib.hid (by obtain ⟨h,e⟩:=HZZ.out;exact cntF_none h (by rw [e];exact z3))
           clear z3
           rw [dz3]
           go_wp2_with fail
           go_meet
           exact ⟨rfl,by rw [HE.out];exact Lib.hid HJ.out.1⟩
         · have dz3:(z != -1)=true:=by rw [bne_iff_ne];exact z3
           obtain ⟨q,rfl⟩:=Int.eq_ofNat_of_zero_le (show 0≤z by have:=HZB.out;omega)
           have hq8:q<8:=by have:=HZB.out;omega
           have HE:Hid (cntF has (j+1)=updF (cntF has j) q (cntF has j q+1)):=Lib.hid (by obtain ⟨h,e⟩:=HZZ.out;exact cntF_some h e)
           have cO:wr.cell? ⟨O,q,none⟩=some (.int .i64 (cntF has j q)):=by rw [cell_of_block HJ.out.1.o,fnA_get _ hq8]
           have zO:wr.frozen? ⟨O,q,none⟩=false:=blk_free HJ.out.1.o
           have hcb:=HC9.out q
           have HJ2:Hid (EvJ w1 O F (cntF has (j+1)) (fun _=>0) (wr.setCell ⟨O,q,none⟩ (.int .i64 (cntF has j q+1)))):=Lib.hid (by rw [HE.out];exact HJ.out.1.setO HOF.out.1 HOF.out.2.2 hq8 _)
           generalize cntF has j q=cq at cO hcb HJ2
           rw [dz3]
           clear z3
           go_wp2_with fail
           go_meet
           exact ⟨rfl,HJ2⟩
       case rest =>
         obtain ⟨rfl,HJ2⟩:=hcut
         obtain ⟨wk,rfl⟩:∃ wk:World,wk=wc:=⟨_,rfl⟩
         have HC10:Hid (∀ k,0≤cntF has (j+1) k∧cntF has (j+1) k≤8):=Lib.hid (fun k=>by have:=cntF_bd has (j+1) k;omega)
         have HNO3:Hid (¬ rowOk (m.b.getD j []) P z→EvE m.b has P false (cntF has (j+1))):=Lib.hid (fun h=>by
           rcases HNO.out h with h | h
           · cases h.1
           · exact .inr h)
         have HYES:Hid (rowOk (m.b.getD j []) P z→∀ i (h:i<has.length),i<j+1→rowOk (m.b.getD i []) P has[i]):=Lib.hid (fun hr i h hi=>by
           by_cases e:i=j
           · subst e;obtain ⟨h2,e2⟩:=HZZ.out;rw [e2];exact hr
           · exact HJ.out.2 i h (by omega))
         have hjb:j<m.b.length:=by rw [← HL.out];exact hlt
         obtain ⟨b4,o4,x4,y4,z4,e4,hb4,hc4,hI4⟩:=HMT.out.b.at j hjb
         dsimp only at e4
         subst e4
         have hbw2:Below w.heap.size w wk:=HB1.out.trans (HJ2.out.bel.mono HB1.out.size)
         have kb:wk.cell? ⟨b4,o4+j,none⟩=some (.slice x4 y4 z4):=(hbw2.cell (p:=⟨b4,o4+j,none⟩) hb4).trans hc4
         have k1:wk.cell? ⟨w.heap.size,1,none⟩=some (.slice (some ⟨b4,o4,none⟩) m.b.length bc):=cell_later HJ2.out.bel HK.out.2.1
         have kp2:wk.cell? ⟨w.heap.size+1,1,none⟩=some (.slice pa P.length pc):=cell_later HJ2.out.bel HK.out.2.2.2
         have HBI:=Lib.hid hI4
         have HBG:Hid (m.b.getD j []=m.b[j]):=Lib.hid (getD_get hjb)
         rw [HBG.out] at HNO3 HYES
         have HBB:Hid (bidB (m.r.length:Int) m.b[j]=true):=Lib.hid ((mktB_bd HQ.out).2.2.2.2 _ (List.getElem_mem hjb))
         generalize m.b[j]=bid at HBI HNO3 HYES HBB
         clear hc4 hI4 hbw2 kz kh kp HBG
         by_cases hbe:bid=[]
         case pos =>
           have hy:y4=0:=by rw [HBI.out.1,hbe];rfl
           subst hy
           by_cases z3:z = -1
           · have HR:Hid (rowOk bid P z):=Lib.hid ⟨HZB.out.1,HZB.out.2,fun _=>z3,fun h=>absurd hbe h⟩
             have dz3:(z != -1)=false:=by rw [bne_eq_false_iff_eq];exact z3
             clear z3 hbe
             go_wp2_with fail
             go_roundw
             case rel=>exact ⟨j+1,by omega,rfl,by go_num,Lib.hid ⟨HJ2.out,HYES.out HR.out⟩⟩
             case measure=>have:=HN.out;simp [intOf];omega
           · have HR:Hid (¬ rowOk bid P z):=Lib.hid (fun h=>z3 (h.2.2.1 hbe))
             have dz3:(z != -1)=true:=by rw [bne_iff_ne];exact z3
             clear z3 hbe
             go_wp2_with fail
             go_meet
             exact ⟨false,rfl,Lib.hid ⟨_,HJ2.out,HC10.out,HNO3.out HR.out⟩⟩
         case neg =>
         have hbl:bid.length=P.length:=by
           obtain ⟨_,q2,_⟩:=bidB_bd HBB.out
           have:=(okB_bd (q2 (fun e=>hbe (List.eq_nil_of_length_eq_zero e)))).2.2.1
           have:=HPL.out
           omega
         have hy:y4=P.length:=by rw [HBI.out.1,hbl]
         subst hy
         have HBE:=Lib.hid hbe
         have HBL:=Lib.hid hbl
         have dl:((P.length:Int) == 0)=false:=by rw [beq_eq_false_iff_ne];omega
         have HIW:Hid (∀ w',Below w.heap.size w w'→IsI w' x4 P.length z4 bid∧IsI w' pa P.length pc P):=Lib.hid (fun w' hw' => ⟨HBI.out.below hw',HP.out.below hw'⟩)
         have HBW2:Hid (Below w.heap.size w wk):=Lib.hid (HB1.out.trans (HJ2.out.bel.mono HB1.out.size))
         clear hbe hbl
         go_wp2_with fail
         refine (ohas_any x4 pa P.length z4 P.length pc bid P z wk (HIW.out wk HBW2.out).1 (HIW.out wk HBW2.out).2 (by have:=HZB.out;have:=HBL.out;by_cases e:z = -1;exact .inl e;exact .inr ⟨by omega,by omega,by omega⟩)).mono ?_
         rintro e w5 ⟨rfl,nj,rfl⟩
         obtain ⟨now,hnow⟩:∃ now,hasF bid P z=now:=⟨_,rfl⟩
         have HNOW:=Lib.hid hnow
         rw [hnow]
         clear hnow kb k1 kp2
         have HJ3:=Lib.hid (HJ2.out.drewN nj)
         have kp3:(wk.drewN nj).cell? ⟨w.heap.size+1,1,none⟩=some (.slice pa P.length pc):=cell_later HJ3.out.bel HK.out.2.2.2
         generalize wk.drewN nj=w6 at HJ3 kp3 ⊢
         go_wp2_with fail
         clear kp3
         go_loopw [7,79] (fun ev q wq => ∃ k:Nat,k≤P.length∧ev=.bool true∧q=.int .i64 (k:Int)∧Hid (EvJ w1 O F (cntF has (j+1)) (fun _=>0) wq∧∀ k':Nat,k'<k→0≤now∧hasF bid P k'≤now)) (fun _ q _=>P.length - (intOf q).toNat)
         case atStart=>exact ⟨0,Nat.zero_le _,rfl,rfl,Lib.hid ⟨HJ3.out,fun k' h=>by omega⟩⟩
         case round =>
           obtain ⟨k,hk,rfl,rfl,HL2⟩:=hrel
           by_cases hkl:k<P.length
           · have kp4:wr.cell? ⟨w.heap.size+1,1,none⟩=some (.slice pa P.length pc):=cell_later HL2.out.1.bel HK.out.2.2.2
             by_cases hn0:now<0
             · have dn:decide (now<0)=true:=decide_eq_true hn0
               have HR:Hid (¬ rowOk bid P z):=Lib.hid (fun h=>by have:=(h.2.2.2 HBE.out).1;rw [HNOW.out] at this;omega)
               clear hn0
               go_wp2_with fail
               go_meet
               exact ⟨false,rfl,Lib.hid ⟨_,HL2.out.1,HC10.out,HNO3.out HR.out⟩⟩
             · have dn:decide (now<0)=false:=decide_eq_false hn0
               have HN0:Hid (0≤now):=Lib.hid (by omega)
               have HBW3:Hid (Below w.heap.size w wr):=Lib.hid (HB1.out.trans (HL2.out.1.bel.mono HB1.out.size))
               clear hn0
               go_wp2_with fail
               refine (ohas_any x4 pa P.length z4 P.length pc bid P (k:Int) wr (HIW.out wr HBW3.out).1 (HIW.out wr HBW3.out).2 (.inr ⟨by omega,by have:=HBL.out;omega,by omega⟩)).mono ?_
               rintro e w7 ⟨rfl,n7,rfl⟩
               have HL3:=Lib.hid (HL2.out.1.drewN n7)
               obtain ⟨hv,hhv⟩:∃ hv,hasF bid P (k:Int)=hv:=⟨_,rfl⟩
               have HHV:=Lib.hid hhv
               rw [hhv]
               clear hhv kp4
               generalize wr.drewN n7=w8 at HL3 ⊢
               by_cases hgt:now<hv
               · have dg:decide (now<hv)=true:=decide_eq_true hgt
                 have HR:Hid (¬ rowOk bid P z):=Lib.hid (fun h=>by have:=(h.2.2.2 HBE.out).2 k hkl;rw [HNOW.out,HHV.out] at this;omega)
                 clear hgt
                 go_wp2_with fail
                 go_meet
                 exact ⟨false,rfl,Lib.hid ⟨_,HL3.out,HC10.out,HNO3.out HR.out⟩⟩
               · have dg:decide (now<hv)=false:=decide_eq_false hgt
                 have HL4:Hid (∀ k':Nat,k'<k+1→0≤now∧hasF bid P k'≤now):=Lib.hid (fun k' h=>by
                   by_cases e:k'=k
                   · subst e;rw [HHV.out];have:=HN0.out;omega
                   · exact HL2.out.2 k' (by omega))
                 clear hgt
                 go_wp2_with fail
                 go_roundw
                 case rel=>exact ⟨k+1,by omega,rfl,by go_num,Lib.hid ⟨HL3.out,HL4.out⟩⟩
                 case measure=>simp [intOf];omega
           · have hkk:k=P.length:=by omega
             have HR:Hid (rowOk bid P z):=Lib.hid ⟨HZB.out.1,HZB.out.2,fun e=>absurd e HBE.out,fun _=>by
               rw [HNOW.out]
               exact ⟨(HL2.out.2 0 (by omega)).1,fun k' h=>(HL2.out.2 k' (by omega)).2⟩⟩
             go_wp2_with fail
             go_roundw
             case rel=>exact ⟨j+1,by omega,rfl,by go_num,Lib.hid ⟨HL2.out.1,HYES.out HR.out⟩⟩
             case measure=>have:=HN.out;simp [intOf];omega
     · have hjj:j=has.length:=by omega
       have HE:Hid (EvE m.b has P true (cntF has j)):=Lib.hid (.inl ⟨rfl,fun i h=>HJ.out.2 i h (by omega),by rw [hjj]⟩)
       go_wp2_with fail
       go_meet
       exact ⟨true,rfl,Lib.hid ⟨_,HJ.out.1,HC9.out,HE.out⟩⟩
 case rest =>
   obtain ⟨E,rfl,HC⟩:=hcut
   obtain ⟨wk,rfl⟩:∃ wk:World,wk=wc:=⟨_,rfl⟩
   obtain ⟨c,hJ,hcb,hE⟩:=HC.out
   have HJ:=Lib.hid hJ
   have HCB:=Lib.hid hcb
   have HE:=Lib.hid hE
   have k4:wk.cell? ⟨w.heap.size+1,1,none⟩=some (.slice pa P.length pc):=cell_later hJ.bel HK.out.2.2.2
   clear HC hJ hcb hE l0 l1 l3 l4 HJ0
   have HQ0:Hid (EvJ w1 O F c (freF c 0) wk∧(E=true↔E=true∧∀ k,k<0→prOk m.r P c k)):=Lib.hid ⟨by rw [freF_zero];exact HJ.out,⟨fun h=>⟨h,fun k h0=>by omega⟩,fun h=>h.1⟩⟩
   go_wp2_with fail
   clear k4
   go_loopw [7,98] (fun ev i wr => ∃ (j:Nat) (E2:Bool),j≤P.length∧ev=.bool E2∧i=.int .i64 (j:Int)∧Hid (EvJ w1 O F c (freF c j) wr∧(E2=true↔E=true∧∀ k,k<j→prOk m.r P c k))) (fun _ i _=>P.length - (intOf i).toNat)
   case atStart=>exact ⟨0,E,Nat.zero_le _,rfl,rfl,HQ0⟩
   case round =>
     obtain ⟨j,E2,hj,rfl,rfl,HJ2⟩:=hrel
     by_cases hlt:j<P.length
     · have hbw:Below w.heap.size w wr:=HB1.out.trans (HJ2.out.1.bel.mono HB1.out.size)
       obtain ⟨b3,o3,e3,hb3,hc3⟩:=HP.out.at j hlt
       subst e3
       have kz:wr.cell? ⟨b3,o3+j,none⟩=some (.int .i64 P[j]):=(hbw.cell (p:=⟨b3,o3+j,none⟩) hb3).trans hc3
       have hjr:j<m.r.length:=by have:=HPL.out;omega
       obtain ⟨b4,o4,e4,hb4,hc4⟩:=HM.out.r.1.at j hjr
       dsimp only at e4
       subst e4
       have hj8:j<8:=by omega
       have cO:wr.cell? ⟨O,j,none⟩=some (.int .i64 (c j)):=by rw [cell_of_block HJ2.out.1.o,fnA_get _ hj8]
       have cF:wr.cell? ⟨F,j,none⟩=some (.int .i64 (freF c j j)):=by rw [cell_of_block HJ2.out.1.f,fnA_get _ hj8]
       have zF:wr.frozen? ⟨F,j,none⟩=false:=blk_free HJ2.out.1.f
       have hcj:=HCB.out j
       have hJ3:=HJ2.out.1.setF (c:=c) (f:=freF c j) HOF.out.2.1 HOF.out.2.2 hj8 (max 0 (c j - 1))
       rw [← freF_succ] at hJ3
       have hbw3:Below w.heap.size w (wr.setCell ⟨F,j,none⟩ (.int .i64 (max 0 (c j - 1)))):=HB1.out.trans (hJ3.bel.mono HB1.out.size)
       have kr3:(wr.setCell ⟨F,j,none⟩ (.int .i64 (max 0 (c j - 1)))).cell? ⟨b4,o4+j,none⟩=some (.int .i64 m.r[j]):=(hbw3.cell (p:=⟨b4,o4+j,none⟩) hb4).trans hc4
       have k03:(wr.setCell ⟨F,j,none⟩ (.int .i64 (max 0 (c j - 1)))).cell? ⟨w.heap.size,0,none⟩=some (.slice (some ⟨b4,o4,none⟩) m.r.length rc):=cell_later hJ3.bel HK.out.1
       have cO3:(wr.setCell ⟨F,j,none⟩ (.int .i64 (max 0 (c j - 1)))).cell? ⟨O,j,none⟩=some (.int .i64 (c j)):=by rw [cell_of_block hJ3.o,fnA_get _ hj8]
       have HJ3:=Lib.hid hJ3
       have HPR:Hid (∀ B:Bool,(B=true↔E2=true∧(m.r[j]≤P[j]∧P[j]≤2000000∧(0<c j∨P[j]=m.r[j])))→(B=true↔E=true∧∀ k,k<j+1→prOk m.r P c k)):=Lib.hid (fun B hB=>by
         rw [hB,HJ2.out.2]
         constructor
         · rintro ⟨⟨h1,h2⟩,h3⟩
           refine ⟨h1,fun k hk => ?_⟩
           by_cases e:k=j
           · subst e;unfold prOk;rw [getD_get hlt,getD_get hjr];exact h3
           · exact h2 k (by omega)
         · rintro ⟨h1,h2⟩
           refine ⟨⟨h1,fun k hk=>h2 k (by omega)⟩,?_⟩
           have:=h2 j (by omega)
           unfold prOk at this;rw [getD_get hlt,getD_get hjr] at this;exact this)
       generalize P[j]=p at kz HPR
       generalize m.r[j]=r at kr3 HPR
       generalize freF c j j=old at cF
       generalize c j=cj at cO hcj hJ3 hbw3 kr3 k03 cO3 HJ3 HPR
       clear hc3 hc4 hbw hJ3 hbw3
       go_upto_block 5 with fail
       go_cut [7,98] (fun ev s wx => ∃ B:Bool,ev=.bool B∧s=.int .i64 (j:Int)∧Hid (EvJ w1 O F c (freF c (j+1)) wx∧(B=true↔E=true∧∀ k,k<j+1→prOk m.r P c k)))
       case first =>
         cases hE2:E2 with
         | false =>
           have HF:Hid (false=true↔E=true∧∀ k,k<j+1→prOk m.r P c k):=Lib.hid (HPR.out false ⟨(fun e=>by cases e),(fun e=>by rw [hE2] at e;cases e.1)⟩)
           clear hE2
           go_wp2_with fail
           go_meet
           exact ⟨false,rfl,rfl,Lib.hid ⟨HJ3.out,HF.out⟩⟩
         | true =>
         by_cases g1:r≤p
         case neg =>
           have d1:decide (r≤p)=false:=decide_eq_false g1
           have HF:Hid (false=true↔E=true∧∀ k,k<j+1→prOk m.r P c k):=Lib.hid (HPR.out false ⟨(fun e=>by cases e),(fun e=>absurd e.2.1 g1)⟩)
           clear hE2 g1
           go_wp2_with fail
           go_meet
           exact ⟨false,rfl,rfl,Lib.hid ⟨HJ3.out,HF.out⟩⟩
         case pos =>
         have d1:decide (r≤p)=true:=decide_eq_true g1
         by_cases g2:p≤2000000
         case neg =>
           have d2:decide (p≤2000000)=false:=decide_eq_false g2
           have HF:Hid (false=true↔E=true∧∀ k,k<j+1→prOk m.r P c k):=Lib.hid (HPR.out false ⟨(fun e=>by cases e),(fun e=>absurd e.2.2.1 g2)⟩)
           clear hE2 g1 g2
           go_wp2_with fail
           go_meet
           exact ⟨false,rfl,rfl,Lib.hid ⟨HJ3.out,HF.out⟩⟩
         case pos =>
         have d2:decide (p≤2000000)=true:=decide_eq_true g2
         by_cases g3:0<cj
         case pos =>
           have d3:decide (0<cj)=true:=decide_eq_true g3
           have HF:Hid (E=true∧∀ k,k<j+1→prOk m.r P c k):=Lib.hid ((HPR.out true ⟨(fun _=>⟨hE2,g1,g2,.inl g3⟩),(fun _=>rfl)⟩).1 rfl)
           clear hE2 g1 g2 g3
           go_wp2_with fail
           go_meet
           exact ⟨true,rfl,rfl,Lib.hid ⟨HJ3.out,⟨fun _=>HF.out,fun _=>rfl⟩⟩⟩
         case neg =>
         have d3:decide (0<cj)=false:=decide_eq_false g3
         by_cases g4:p=r
         case pos =>
           have d4:(p == r)=true:=by rw [beq_iff_eq];exact g4
           have HF:Hid (E=true∧∀ k,k<j+1→prOk m.r P c k):=Lib.hid ((HPR.out true ⟨(fun _=>⟨hE2,g1,g2,.inr g4⟩),(fun _=>rfl)⟩).1 rfl)
           clear hE2 g1 g2 g3 g4
           go_wp2_with fail
           go_meet
           exact ⟨true,rfl,rfl,Lib.hid ⟨HJ3.out,⟨fun _=>HF.out,fun _=>rfl⟩⟩⟩
         case neg =>
           have d4:(p == r)=false:=by rw [beq_eq_false_iff_ne];exact g4
           have HF:Hid (false=true↔E=true∧∀ k,k<j+1→prOk m.r P c k):=Lib.hid (HPR.out false ⟨(fun e=>by cases e),(fun e=>by rcases e.2.2.2 with h | h;exact absurd h g3;exact absurd h g4)⟩)
           clear hE2 g1 g2 g3 g4
           go_wp2_with fail
           go_meet
           exact ⟨false,rfl,rfl,Lib.hid ⟨HJ3.out,HF.out⟩⟩
       case rest =>
         obtain ⟨B3,rfl,rfl,HF⟩:=hcut
         obtain ⟨wl,rfl⟩:∃ wl:World,wl=wc:=⟨_,rfl⟩
         clear kz cO cF zF kr3 k03 cO3
         go_wp2_with fail
         go_roundw
         case rel=>exact ⟨j+1,B3,by omega,rfl,by go_num,HF⟩
         case measure=>simp [intOf];omega
     · have hjj:j=P.length:=by omega
       subst hjj
       have hE3:=HJ2.out.2
       have HEV:Hid ((E2=true∧∀ k,k<P.length→c k≤1)↔JM.EvenP m.r m.b has P):=Lib.hid (by
         rw [← even_iff HMO.out HL.out HPL.out E c HE.out,hE3]
         exact and_assoc)
       have HBW:=Lib.hid (HB1.out.trans (HJ2.out.1.bel.mono HB1.out.size))
       cases hq2:E2 with
       | false =>
         have HFN:Hid (false=true↔mktB m=true∧JM.EvenP m.r m.b has P):=Lib.hid ⟨(fun e=>by cases e),(fun e=>by have:=HEV.out.2 e.2;rw [hq2] at this;cases this.1)⟩
         clear hq2 hE3
         go_wp2_with fail
         go_ret
         exact ⟨false,rfl,HFN.out,HBW.out⟩
       | true =>
         have HFN:Hid (∀ B:Bool,(B=true↔∀ k,k<8→freF c P.length k=0)→(B=true↔mktB m=true∧JM.EvenP m.r m.b has P)):=Lib.hid (fun B hB=>by
           rw [hB,← HEV.out,hq2]
           constructor
           · intro h
             refine ⟨HQ.out,rfl,fun k hk => ?_⟩
             have:=h k (by omega)
             unfold freF at this
             rw [if_pos hk] at this
             omega
           · rintro ⟨_,_,h⟩ k hk
             unfold freF
             split
             · rename_i h2
               have:=h k h2
               omega
             · rfl)
         have r1:=rangeAt_row HJ2.out.1.f
         clear hq2 hE3
         obtain ⟨i0,hi0,_,_,_⟩:=info_parts infoInt
         have hqq:=fun W=>(run_equalIn_array (P:=Tryz.prog) W 9999 (fnL 8 (freF c P.length)).toArray #[.int .i64 0,.int .i64 0,.int .i64 0,.int .i64 0,.int .i64 0,.int .i64 0,.int .i64 0,.int .i64 0] Tryz.underlying80 hi0).trans (run_eqItems_ints 9998 (by kernel_rfl) (by kernel_rfl) Tryz.underlying3 (freF c P.length) (fun _=>0) (fnL 8 (freF c P.length)).toArray #[.int .i64 0,.int .i64 0,.int .i64 0,.int .i64 0,.int .i64 0,.int .i64 0,.int .i64 0,.int .i64 0] W (List.range 8) (fun i hi=>⟨fnA_get _ (List.mem_range.1 hi),fnA_get (fun _=>0) (List.mem_range.1 hi)⟩))
         have HALL:Hid (((List.range 8).all fun i=>(freF c P.length i == 0))=true↔∀ k,k<8→freF c P.length k=0):=Lib.hid (by
           rw [List.all_eq_true]
           exact ⟨fun h k hk=>eq_of_beq (h k (List.mem_range.2 hk)),fun h k hk=>by rw [beq_iff_eq];exact h k (List.mem_range.1 hk)⟩)
         obtain ⟨BB,hBB⟩:∃ BB,BB=((List.range 8).all fun i=>(freF c P.length i == 0)):=⟨_,rfl⟩
         have HBB:=Lib.hid (HFN.out BB (by rw [hBB];exact HALL.out))
         rw [← hBB] at hqq
         clear hBB
         have l0:(fnL 8 (freF c P.length)).length=8:=fnL_length _ _
         go_wp2_with (first
           | (refine wpList_load_w2 rfl 80 (.tmp 6) rfl F 0 rfl (fnL 8 (freF c P.length)) _ r1 Tryz.underlying80 rfl (by rw [l0];exact info_8) ?_)
           | fail)
         go_ret
         exact ⟨BB,rfl,HBB.out,HBW.out⟩
end
end Go.Proofs.YtmmmjohoihpbeaaGreat
