/- The package outcomes: Even;conditions: those typed. -/
import Derived.Test.YtmmmjohoihpbeaaGreatQOJmiJwOfJwEvJwVw
import Derived.Test.YtmmmjohoihpbeaaGreatQOJrBJrCJrW
import Derived.Test.YtmmmjohoihpbeaaGreatQOJwMbJmhJwMcJmjJrHJmk
namespace Go.Proofs.YtmmmjohoihpbeaaGreat
section
open Go.RowKit Go.Shelf
set_option linter.unusedVariables false
set_option linter.unusedSimpArgs false
attribute [local go_sem] Oper.semAt_some
theorem wpList_load_w2 {P:Program} {ops:Array Oper} {rest:List Oper} {op:Oper} {a:Act} {w:World} {Q:Exit→Act→World→Prop} (hw:Region.wanted op (yielded ops a.tmps)=true) (ty:TypeId) (x:Operand) (ho:op.op=.load ty x)
   (b o:Nat) (hx:a.eval x=.pointer (some ⟨b,o,none⟩)) (cs:List Value) (d:TypeDesc) (hc:w.rangeAt b o cs)
   (hu:P.underlying ty=some d) (hd:d.isRow=true) (hi:(P.info? ty).map (·.size)=some cs.length)
   (h:wpList P ops Q rest (a.put op.dst (.agg cs.toArray)) w):wpList P ops Q (op :: rest) a w :=
 wpList_step fun K hK=>by
   simp only [hw,if_true]
   exact wp_load_mid ty x ho b o hx cs d hc hu hd hi (hK _ _ h)
def EvnQ (m:MkC) (has P:List Int) (w:World) (e:Ending) (W:World):Prop:=∃ v:Bool,e=.returned (.bool v)∧(v=true↔mktB m=true∧JM.EvenP m.r m.b has P)∧Below w.heap.size w W
def EvE (b:List (List Int)) (has P:List Int) (E:Bool) (c:Nat→Int):Prop:=(E=true∧(∀ i (h:i<has.length),rowOk (b.getD i []) P has[i])∧c=cntF has has.length)∨(E=false∧∃ i,∃ h:i<has.length,¬ rowOk (b.getD i []) P has[i])
structure EvJ (w1:World) (O F:Nat) (c f:Nat→Int) (W:World):Prop where
 bel:Below w1.heap.size w1 W
 o:W.heap[O]?=some (.cells (fnA 8 c) 80 (0,0))
 f:W.heap[F]?=some (.cells (fnA 8 f) 80 (0,0))
theorem EvJ.drewN {w1:World} {O F:Nat} {c f:Nat→Int} {W:World} (h:EvJ w1 O F c f W) (n:Nat):EvJ w1 O F c f (W.drewN n) :=
 ⟨h.bel.trans ((below_drewN (Below.refl _ _) n).mono h.bel.size),below_heap (below_drewN (Below.refl _ _) n) h.o (lt_of_heap h.o),below_heap (below_drewN (Below.refl _ _) n) h.f (lt_of_heap h.f)⟩
theorem EvJ.setO {w1:World} {O F:Nat} {c f:Nat→Int} {W:World} (h:EvJ w1 O F c f W) (hO:w1.heap.size≤O) (hne:F≠O) {z:Nat} (hz:z<8) (v:Int):EvJ w1 O F (updF c z v) f (W.setCell ⟨O,z,none⟩ (.int .i64 v)) :=
 ⟨h.bel.setCell (p:=⟨O,z,none⟩) hO _,by have:=heap_setCell_same W O z _ _ (.int .i64 v) h.o;rwa [fnA_set _ hz] at this,(Below.heap_setCell W ⟨O,z,none⟩ _ F hne).trans h.f⟩
theorem EvJ.setF {w1:World} {O F:Nat} {c f:Nat→Int} {W:World} (h:EvJ w1 O F c f W) (hF:w1.heap.size≤F) (hne:F≠O) {z:Nat} (hz:z<8) (v:Int):EvJ w1 O F c (updF f z v) (W.setCell ⟨F,z,none⟩ (.int .i64 v)) :=
 ⟨h.bel.setCell (p:=⟨F,z,none⟩) hF _,(Below.heap_setCell W ⟨F,z,none⟩ _ O (fun e=>hne e.symm)).trans h.o,by have:=heap_setCell_same W F z _ _ (.int .i64 v) h.f;rwa [fnA_set _ hz] at this⟩
set_option maxRecDepth 100000 in
set_option maxHeartbeats 8000000 in
theorem even_any (x:MkA) (m:MkC) (ha pa:Option Addr) (hn hc pn pc:Nat) (has P:List Int) (w:World) (h:IsMk w (fun _=>True) x m) (hrm:m.r.length≤17592186044416) (hh:IsI w ha hn hc has) (hp:IsI w pa pn pc P) :
   Calls Tryz.prog 34 #[.agg x.cells.toArray,.agg #[.slice ha hn hc,.slice pa pn pc]] w (EvnQ m has P w):=by
 obtain ⟨ra,rn,rc,ba,bn,bc,bv,oa,on,oc⟩:=x
 have hr:=h.r.1
 have hbb:=h.b
 have ho:=h.o.1
 unfold MkA.cells
 dsimp only at hr hbb ho ⊢
 obtain rfl:=hr.1
 obtain rfl:=hbb.1
 obtain rfl:=ho.1
 obtain rfl:=hh.1
 obtain rfl:=hp.1
 have hm1:=hh.len
 have hm2:=hp.len
 obtain ⟨hb0,m0,m1⟩:=alloc2_facts w (.cells #[.slice ra m.r.length rc,.slice ba m.b.length bc,.slice oa m.o.length oc] 25 (0,0)) (.cells #[.slice ha has.length hc,.slice pa P.length pc] 27 (0,0))
 have HM:=Lib.hid h
 have HH:=Lib.hid hh
 have HP:=Lib.hid hp
 have HRM:=Lib.hid hrm
 clear h hr hbb ho hh hp hrm
 go_enter Tryz.func34,Tryz.ntmps34
 go_wp2_with fail
 generalize ((w.alloc (.cells #[.slice ra m.r.length rc,.slice ba m.b.length bc,.slice oa m.o.length oc] 25)).alloc (.cells #[.slice ha has.length hc,.slice pa P.length pc] 27))=W at hb0 m0 m1 ⊢
 have c0:W.cell? ⟨w.heap.size,0,none⟩=some (.slice ra m.r.length rc):=by rw [cell_of_block m0];rfl
 have c1:W.cell? ⟨w.heap.size,1,none⟩=some (.slice ba m.b.length bc):=by rw [cell_of_block m0];rfl
 have c2:W.cell? ⟨w.heap.size,2,none⟩=some (.slice oa m.o.length oc):=by rw [cell_of_block m0];rfl
 have c3:W.cell? ⟨w.heap.size+1,0,none⟩=some (.slice ha has.length hc):=by rw [cell_of_block m1];rfl
 have c4:W.cell? ⟨w.heap.size+1,1,none⟩=some (.slice pa P.length pc):=by rw [cell_of_block m1];rfl
 have HB0:=Lib.hid hb0
 clear hb0 m0 m1
 go_step3
 go_wp2_with fail
 refine (mcheck_any _ ⟨ra,m.r.length,rc,ba,m.b.length,bc,bv,oa,m.o.length,oc⟩ m W (HM.out.below HB0.out) (by have:=HRM.out;omega)).mono ?_;rintro e w1 ⟨rfl,hb1⟩
 have HB1:=Lib.hid (HB0.out.trans (hb1.mono HB0.out.size))
 have k0:=cell_later hb1 c0
 have k1:=cell_later hb1 c1
 have k3:=cell_later hb1 c3
 have k4:=cell_later hb1 c4
 clear hb1 c0 c1 c2 c3 c4 HB0
 cases hq:mktB m with
 | false =>
   go_wp2_with fail
   go_ret
   exact ⟨false,rfl,⟨(fun e=>by cases e),(fun e=>by rw [hq] at e;cases e.1)⟩,HB1.out⟩
 | true =>
 by_cases hl:has.length=m.b.length
 case neg =>
   have d1:((has.length:Int) != (m.b.length:Int))=true:=by rw [bne_iff_ne];omega
   have HL:=Lib.hid hl
   clear hl
   go_wp2_with fail
   go_ret
   exact ⟨false,rfl,⟨(fun e=>by cases e),fun e=>absurd e.2.hl HL.out⟩,HB1.out⟩
 case pos =>
 by_cases pl:P.length=m.r.length
 case neg =>
   have d1:((has.length:Int) != (m.b.length:Int))=false:=by rw [bne_eq_false_iff_eq];omega
   have d2:((P.length:Int) != (m.r.length:Int))=true:=by rw [bne_iff_ne];omega
   have HPL:=Lib.hid pl
   clear pl hl
   go_wp2_with fail
   go_ret
   exact ⟨false,rfl,⟨(fun e=>by cases e),fun e=>absurd e.2.pl HPL.out⟩,HB1.out⟩
 case pos =>
 have d1:((has.length:Int) != (m.b.length:Int))=false:=by rw [bne_eq_false_iff_eq];omega
 have d2:((P.length:Int) != (m.r.length:Int))=false:=by rw [bne_eq_false_iff_eq];omega
 have hmo:=mktB_ok hq
 have hk8:=hmo.hk
 have hn8:=hmo.hn
 have hP8:P.length≤8:=by omega
 have hH8:has.length≤8:=by omega
 have hP1:1≤P.length:=by omega
 have HL:=Lib.hid hl
 have HPL:=Lib.hid pl
 have HMO:=Lib.hid hmo
 have HQ:=Lib.hid hq
 have HMT:Hid (MkT w ⟨ra,m.r.length,rc,ba,m.b.length,bc,bv,oa,m.o.length,oc⟩ m):=Lib.hid ⟨HM.out,hq⟩
 clear hl pl hmo hq hk8 hn8
 obtain ⟨b0,n0,n1⟩:=alloc2_facts w1 (.cells #[.int .i64 0,.int .i64 0,.int .i64 0,.int .i64 0,.int .i64 0,.int .i64 0,.int .i64 0,.int .i64 0] 80 (0,0)) (.cells #[.int .i64 0,.int .i64 0,.int .i64 0,.int .i64 0,.int .i64 0,.int .i64 0,.int .i64 0,.int .i64 0] 80 (0,0))
 have HJ0:Hid (EvJ w1 w1.heap.size (w1.heap.size+1) (fun _=>0) (fun _=>0) ((w1.alloc (.cells #[.int .i64 0,.int .i64 0,.int .i64 0,.int .i64 0,.int .i64 0,.int .i64 0,.int .i64 0,.int .i64 0] 80)).alloc (.cells #[.int .i64 0,.int .i64 0,.int .i64 0,.int .i64 0,.int .i64 0,.int .i64 0,.int .i64 0,.int .i64 0] 80))):=Lib.hid ⟨b0,n0,n1⟩
 have l0:=cell_later b0 k0
 have l1:=cell_later b0 k1
 have l3:=cell_later b0 k3
 have l4:=cell_later b0 k4
 have HK:=Lib.hid (And.intro k0 (And.intro k1 (And.intro k3 k4)))
 clear b0 n0 n1
 go_upto_block 0 with fail
 clear k0 k1 k3 k4
 go_step3
 obtain ⟨O,hO⟩:∃ O,w1.heap.size=O:=⟨_,rfl⟩
 obtain ⟨F,hF⟩:∃ F,w1.heap.size+1=F:=⟨_,rfl⟩
 have HOF:Hid (w1.heap.size≤O∧w1.heap.size≤F∧F≠O):=Lib.hid ⟨by omega,by omega,by omega⟩
 rw [hF,hO] at HJ0 ⊢
 clear hF hO
 generalize ((w1.alloc (.cells #[.int .i64 0,.int .i64 0,.int .i64 0,.int .i64 0,.int .i64 0,.int .i64 0,.int .i64 0,.int .i64 0] 80)).alloc (.cells #[.int .i64 0,.int .i64 0,.int .i64 0,.int .i64 0,.int .i64 0,.int .i64 0,.int .i64 0,.int .i64 0] 80))=W2 at HJ0 l0 l1 l3 l4 ⊢
 go_upto_block 0 with fail
 go_cut [7] (fun s wx => ∃ E:Bool,s=.bool E∧Hid (∃ c:Nat→Int,EvJ w1 O F c (fun _=>0) wx∧(∀ k,0≤c k∧c k≤8)∧EvE m.b has P E c))
 case first =>
   obtain ⟨N,hN⟩:∃ N,N=has.length:=⟨_,rfl⟩
   have HN:=Lib.hid hN
   clear hN
   have HQ0:Hid (EvJ w1 O F (cntF has 0) (fun _=>0) W2∧∀ i (h:i<has.length),i<0→rowOk (m.b.getD i []) P has[i]):=Lib.hid ⟨by rw [cntF_zero];exact HJ0.out,fun i h h0=>by omega⟩
   go_wp2_with fail
   go_loopw [7,40] (fun ev i wr => ∃ j:Nat,j≤has.length∧ev=.bool true∧i=.int .i64 (j:Int)∧Hid (EvJ w1 O F (cntF has j) (fun _=>0) wr∧∀ i (h:i<has.length),i<j→rowOk (m.b.getD i []) P has[i])) (fun _ i _=>N - (intOf i).toNat)
   case atStart=>exact ⟨0,Nat.zero_le _,rfl,rfl,HQ0⟩
   case round =>
     obtain ⟨j,hj,rfl,rfl,HJ⟩:=hrel
     have HC9:Hid (∀ k,0≤cntF has j k∧cntF has j k≤8):=Lib.hid (fun k=>by have:=cntF_bd has j k;omega)
     by_cases hlt:j<has.length
     · have hbw:Below w.heap.size w wr:=HB1.out.trans (HJ.out.1.bel.mono HB1.out.size)
       obtain ⟨b3,o3,e3,hb3,hc3⟩:=HH.out.at j hlt
       subst e3
       have kz:wr.cell? ⟨b3,o3+j,none⟩=some (.int .i64 has[j]):=(hbw.cell (p:=⟨b3,o3+j,none⟩) hb3).trans hc3
       have kh:wr.cell? ⟨w.heap.size+1,0,none⟩=some (.slice (some ⟨b3,o3,none⟩) has.length hc):=cell_later HJ.out.1.bel HK.out.2.2.1
       have kp:wr.cell? ⟨w.heap.size+1,1,none⟩=some (.slice pa P.length pc):=cell_later HJ.out.1.bel HK.out.2.2.2
       have HZ:Hid (∀ z,has[j]=z→∃ h:j<has.length,has[j]=z):=Lib.hid (fun z e=>⟨hlt,e⟩)
       have HBAD:Hid (∀ c,EvJ w1 O F c (fun _=>0) wr→True):=Lib.hid (fun _ _=>trivial)
       obtain ⟨z,hz⟩:∃ z,has[j]=z:=⟨_,rfl⟩
       rw [hz] at kz
       have HZZ:Hid (∃ h:j<has.length,has[j]=z):=Lib.hid ⟨hlt,hz⟩
       have HNO:Hid (¬ rowOk (m.b.getD j []) P z→EvE m.b has P false (cntF has j)):=Lib.hid (fun h=>.inr ⟨rfl,j,hlt,by rw [hz];exact h⟩)
       clear hc3 hz HZ HBAD hbw
       by_cases z1:z < -1
       case pos =>
         have dz:decide (z < -1)=true:=decide_eq_true z1
         have HNO2:Hid (EvE m.b has P false (cntF has j)):=Lib.hid (HNO.out (fun h=>by have:=h.1;omega))
         clear z1
         go_wp2_with fail
         go_meet
         exact ⟨false,rfl,Lib.hid ⟨_,HJ.out.1,HC9.out,HNO2.out⟩⟩
       case neg =>
       have dz:decide (z < -1)=false:=decide_eq_false z1
       by_cases z2:(P.length:Int)≤z
       case pos =>
         have dz2:decide ((P.length:Int)≤z)=true:=decide_eq_true z2
         have HNO2:Hid (EvE m.b has P false (cntF has j)):=Lib.hid (HNO.out (fun h=>by have:=h.2.1;omega))
         clear z1 z2
         go_wp2_with fail
         go_meet
         exact ⟨false,rfl,Lib.hid ⟨_,HJ.out.1,HC9.out,HNO2.out⟩⟩
       case neg =>
       have dz2:decide ((P.length:Int)≤z)=false:=decide_eq_false z2
       have HZB:Hid (-1≤z∧z<P.length):=Lib.hid ⟨by omega,by omega⟩
       clear z1 z2
       go_upto_if 55 with fail
       go_cut [40] (fun s wx=>s=.int .i64 (j:Int)∧Hid (EvJ w1 O F (cntF has (j+1)) (fun _=>0) wx))
       case first =>
         by_cases z3:z = -1
         · have dz3:(z != -1)=false:=by rw [bne_eq_false_iff_eq];exact z3
           have HE:Hid (cntF has (j+1)=cntF has j):=Lib.hid (by obtain ⟨h,e⟩:=HZZ.out;exact cntF_none h (by rw [e];exact z3))
           clear z3
           rw [dz3]
           go_wp2_with fail
           go_meet
           exact ⟨rfl,by rw [HE.out];exact Lib.hid HJ.out.1⟩
         · have dz3:(z != -1)=true:=by rw [bne_iff_ne];exact z3
           obtain ⟨q,rfl⟩:=Int.eq_ofNat_of_zero_le (show 0≤z by have:=HZB.out;omega)
           have hq8:q<8:=by have:=HZB.out;omega
           have HE:Hid (cntF has (j+1)=updF (cntF has j) q (cntF has j q+1)):=Lib.hid (by obtain ⟨h,e⟩:=HZZ.out;exact cntF_some h e)
           have cO:wr.cell? ⟨O,q,none⟩=some (.int .i64 (cntF has j q)):=by rw [cell_of_block HJ.out.1.o,fnA_get _ hq8]
           have zO:wr.frozen? ⟨O,q,none⟩=false:=blk_free HJ.out.1.o
           have hcb:=HC9.out q
           have HJ2:Hid (EvJ w1 O F (cntF has (j+1)) (fun _=>0) (wr.setCell ⟨O,q,none⟩ (.int .i64 (cntF has j q+1)))):=Lib.hid (by rw [HE.out];exact HJ.out.1.setO HOF.out.1 HOF.out.2.2 hq8 _)
           generalize cntF has j q=cq at cO hcb HJ2
           rw [dz3]
           clear z3
           go_wp2_with fail
           go_meet
           exact ⟨rfl,HJ2⟩
       case rest =>
         obtain ⟨rfl,HJ2⟩:=hcut
         obtain ⟨wk,rfl⟩:∃ wk:World,wk=wc:=⟨_,rfl⟩
         have HC10:Hid (∀ k,0≤cntF has (j+1) k∧cntF has (j+1) k≤8):=Lib.hid (fun k=>by have:=cntF_bd has (j+1) k;omega)
         have HNO3:Hid (¬ rowOk (m.b.getD j []) P z→EvE m.b has P false (cntF has (j+1))):=Lib.hid (fun h=>by
           rcases HNO.out h with h | h
           · cases h.1
           · exact .inr h)
         have HYES:Hid (rowOk (m.b.getD j []) P z→∀ i (h:i<has.length),i<j+1→rowOk (m.b.getD i []) P has[i]):=Lib.hid (fun hr i h hi=>by
           by_cases e:i=j
           · subst e;obtain ⟨h2,e2⟩:=HZZ.out;rw [e2];exact hr
           · exact HJ.out.2 i h (by omega))
         have hjb:j<m.b.length:=by rw [← HL.out];exact hlt
         obtain ⟨b4,o4,x4,y4,z4,e4,hb4,hc4,hI4⟩:=HMT.out.b.at j hjb
         dsimp only at e4
         subst e4
         have hbw2:Below w.heap.size w wk:=HB1.out.trans (HJ2.out.bel.mono HB1.out.size)
         have kb:wk.cell? ⟨b4,o4+j,none⟩=some (.slice x4 y4 z4):=(hbw2.cell (p:=⟨b4,o4+j,none⟩) hb4).trans hc4
         have k1:wk.cell? ⟨w.heap.size,1,none⟩=some (.slice (some ⟨b4,o4,none⟩) m.b.length bc):=cell_later HJ2.out.bel HK.out.2.1
         have kp2:wk.cell? ⟨w.heap.size+1,1,none⟩=some (.slice pa P.length pc):=cell_later HJ2.out.bel HK.out.2.2.2
         have HBI:=Lib.hid hI4
         have HBG:Hid (m.b.getD j []=m.b[j]):=Lib.hid (getD_get hjb)
         rw [HBG.out] at HNO3 HYES
         have HBB:Hid (bidB (m.r.length:Int) m.b[j]=true):=Lib.hid ((mktB_bd HQ.out).2.2.2.2 _ (List.getElem_mem hjb))
         generalize m.b[j]=bid at HBI HNO3 HYES HBB
         clear hc4 hI4 hbw2 kz kh kp HBG
         by_cases hbe:bid=[]
         case pos =>
           have hy:y4=0:=by rw [HBI.out.1,hbe];rfl
           subst hy
           by_cases z3:z = -1
           · have HR:Hid (rowOk bid P z):=Lib.hid ⟨HZB.out.1,HZB.out.2,fun _=>z3,fun h=>absurd hbe h⟩
             have dz3:(z != -1)=false:=by rw [bne_eq_false_iff_eq];exact z3
             clear z3 hbe
             go_wp2_with fail
             go_roundw
             case rel=>exact ⟨j+1,by omega,rfl,by go_num,Lib.hid ⟨HJ2.out,HYES.out HR.out⟩⟩
             case measure=>have:=HN.out;simp [intOf];omega
           · have HR:Hid (¬ rowOk bid P z):=Lib.hid (fun h=>z3 (h.2.2.1 hbe))
             have dz3:(z != -1)=true:=by rw [bne_iff_ne];exact z3
             clear z3 hbe
             go_wp2_with fail
             go_meet
             exact ⟨false,rfl,Lib.hid ⟨_,HJ2.out,HC10.out,HNO3.out HR.out⟩⟩
         case neg =>
         have hbl:bid.length=P.length:=by
           obtain ⟨_,q2,_⟩:=bidB_bd HBB.out
           have:=(okB_bd (q2 (fun e=>hbe (List.eq_nil_of_length_eq_zero e)))).2.2.1
           have:=HPL.out
           omega
         have hy:y4=P.length:=by rw [HBI.out.1,hbl]
         subst hy
         have HBE:=Lib.hid hbe
         have HBL:=Lib.hid hbl
         have dl:((P.length:Int) == 0)=false:=by rw [beq_eq_false_iff_ne];omega
         have HIW:Hid (∀ w',Below w.heap.size w w'→IsI w' x4 P.length z4 bid∧IsI w' pa P.length pc P):=Lib.hid (fun w' hw' => ⟨HBI.out.below hw',HP.out.below hw'⟩)
         have HBW2:Hid (Below w.heap.size w wk):=Lib.hid (HB1.out.trans (HJ2.out.bel.mono HB1.out.size))
         clear hbe hbl
         go_wp2_with fail
         refine (ohas_any x4 pa P.length z4 P.length pc bid P z wk (HIW.out wk HBW2.out).1 (HIW.out wk HBW2.out).2 (by have:=HZB.out;have:=HBL.out;by_cases e:z = -1;exact .inl e;exact .inr ⟨by omega,by omega,by omega⟩)).mono ?_
         rintro e w5 ⟨rfl,nj,rfl⟩
         obtain ⟨now,hnow⟩:∃ now,hasF bid P z=now:=⟨_,rfl⟩
         have HNOW:=Lib.hid hnow
         rw [hnow]
         clear hnow kb k1 kp2
         have HJ3:=Lib.hid (HJ2.out.drewN nj)
         have kp3:(wk.drewN nj).cell? ⟨w.heap.size+1,1,none⟩=some (.slice pa P.length pc):=cell_later HJ3.out.bel HK.out.2.2.2
         generalize wk.drewN nj=w6 at HJ3 kp3 ⊢
         go_wp2_with fail
         clear kp3
         go_loopw [7,79] (fun ev q wq => ∃ k:Nat,k≤P.length∧ev=.bool true∧q=.int .i64 (k:Int)∧Hid (EvJ w1 O F (cntF has (j+1)) (fun _=>0) wq∧∀ k':Nat,k'<k→0≤now∧hasF bid P k'≤now)) (fun _ q _=>P.length - (intOf q).toNat)
         case atStart=>exact ⟨0,Nat.zero_le _,rfl,rfl,Lib.hid ⟨HJ3.out,fun k' h=>by omega⟩⟩
         case round =>
           obtain ⟨k,hk,rfl,rfl,HL2⟩:=hrel
           by_cases hkl:k<P.length
           · have kp4:wr.cell? ⟨w.heap.size+1,1,none⟩=some (.slice pa P.length pc):=cell_later HL2.out.1.bel HK.out.2.2.2
             by_cases hn0:now<0
             · have dn:decide (now<0)=true:=decide_eq_true hn0
               have HR:Hid (¬ rowOk bid P z):=Lib.hid (fun h=>by have:=(h.2.2.2 HBE.out).1;rw [HNOW.out] at this;omega)
               clear hn0
               go_wp2_with fail
               go_meet
               exact ⟨false,rfl,Lib.hid ⟨_,HL2.out.1,HC10.out,HNO3.out HR.out⟩⟩
             · have dn:decide (now<0)=false:=decide_eq_false hn0
               have HN0:Hid (0≤now):=Lib.hid (by omega)
               have HBW3:Hid (Below w.heap.size w wr):=Lib.hid (HB1.out.trans (HL2.out.1.bel.mono HB1.out.size))
               clear hn0
               go_wp2_with fail
               refine (ohas_any x4 pa P.length z4 P.length pc bid P (k:Int) wr (HIW.out wr HBW3.out).1 (HIW.out wr HBW3.out).2 (.inr ⟨by omega,by have:=HBL.out;omega,by omega⟩)).mono ?_
               rintro e w7 ⟨rfl,n7,rfl⟩
               have HL3:=Lib.hid (HL2.out.1.drewN n7)
               obtain ⟨hv,hhv⟩:∃ hv,hasF bid P (k:Int)=hv:=⟨_,rfl⟩
               have HHV:=Lib.hid hhv
               rw [hhv]
               clear hhv kp4
               generalize wr.drewN n7=w8 at HL3 ⊢
               by_cases hgt:now<hv
               · have dg:decide (now<hv)=true:=decide_eq_true hgt
                 have HR:Hid (¬ rowOk bid P z):=Lib.hid (fun h=>by have:=(h.2.2.2 HBE.out).2 k hkl;rw [HNOW.out,HHV.out] at this;omega)
                 clear hgt
                 go_wp2_with fail
                 go_meet
                 exact ⟨false,rfl,Lib.hid ⟨_,HL3.out,HC10.out,HNO3.out HR.out⟩⟩
               · have dg:decide (now<hv)=false:=decide_eq_false hgt
                 have HL4:Hid (∀ k':Nat,k'<k+1→0≤now∧hasF bid P k'≤now):=Lib.hid (fun k' h=>by
                   by_cases e:k'=k
                   · subst e;rw [HHV.out];have:=HN0.out;omega
                   · exact HL2.out.2 k' (by omega))
                 clear hgt
                 go_wp2_with fail
                 go_roundw
                 case rel=>exact ⟨k+1,by omega,rfl,by go_num,Lib.hid ⟨HL3.out,HL4.out⟩⟩
                 case measure=>simp [intOf];omega
           · have hkk:k=P.length:=by omega
             have HR:Hid (rowOk bid P z):=Lib.hid ⟨HZB.out.1,HZB.out.2,fun e=>absurd e HBE.out,fun _=>by
               rw [HNOW.out]
               exact ⟨(HL2.out.2 0 (by omega)).1,fun k' h=>(HL2.out.2 k' (by omega)).2⟩⟩
             go_wp2_with fail
             go_roundw
             case rel=>exact ⟨j+1,by omega,rfl,by go_num,Lib.hid ⟨HL2.out.1,HYES.out HR.out⟩⟩
             case measure=>have:=HN.out;simp [intOf];omega
     · have hjj:j=has.length:=by omega
       have HE:Hid (EvE m.b has P true (cntF has j)):=Lib.hid (.inl ⟨rfl,fun i h=>HJ.out.2 i h (by omega),by rw [hjj]⟩)
       go_wp2_with fail
       go_meet
       exact ⟨true,rfl,Lib.hid ⟨_,HJ.out.1,HC9.out,HE.out⟩⟩
 case rest =>
   obtain ⟨E,rfl,HC⟩:=hcut
   obtain ⟨wk,rfl⟩:∃ wk:World,wk=wc:=⟨_,rfl⟩
   obtain ⟨c,hJ,hcb,hE⟩:=HC.out
   have HJ:=Lib.hid hJ
   have HCB:=Lib.hid hcb
   have HE:=Lib.hid hE
   have k4:wk.cell? ⟨w.heap.size+1,1,none⟩=some (.slice pa P.length pc):=cell_later hJ.bel HK.out.2.2.2
   clear HC hJ hcb hE l0 l1 l3 l4 HJ0
   have HQ0:Hid (EvJ w1 O F c (freF c 0) wk∧(E=true↔E=true∧∀ k,k<0→prOk m.r P c k)):=Lib.hid ⟨by rw [freF_zero];exact HJ.out,⟨fun h=>⟨h,fun k h0=>by omega⟩,fun h=>h.1⟩⟩
   go_wp2_with fail
   clear k4
   go_loopw [7,98] (fun ev i wr => ∃ (j:Nat) (E2:Bool),j≤P.length∧ev=.bool E2∧i=.int .i64 (j:Int)∧Hid (EvJ w1 O F c (freF c j) wr∧(E2=true↔E=true∧∀ k,k<j→prOk m.r P c k))) (fun _ i _=>P.length - (intOf i).toNat)
   case atStart=>exact ⟨0,E,Nat.zero_le _,rfl,rfl,HQ0⟩
   case round =>
     obtain ⟨j,E2,hj,rfl,rfl,HJ2⟩:=hrel
     by_cases hlt:j<P.length
     · have hbw:Below w.heap.size w wr:=HB1.out.trans (HJ2.out.1.bel.mono HB1.out.size)
       obtain ⟨b3,o3,e3,hb3,hc3⟩:=HP.out.at j hlt
       subst e3
       have kz:wr.cell? ⟨b3,o3+j,none⟩=some (.int .i64 P[j]):=(hbw.cell (p:=⟨b3,o3+j,none⟩) hb3).trans hc3
       have hjr:j<m.r.length:=by have:=HPL.out;omega
       obtain ⟨b4,o4,e4,hb4,hc4⟩:=HM.out.r.1.at j hjr
       dsimp only at e4
       subst e4
       have hj8:j<8:=by omega
       have cO:wr.cell? ⟨O,j,none⟩=some (.int .i64 (c j)):=by rw [cell_of_block HJ2.out.1.o,fnA_get _ hj8]
       have cF:wr.cell? ⟨F,j,none⟩=some (.int .i64 (freF c j j)):=by rw [cell_of_block HJ2.out.1.f,fnA_get _ hj8]
       have zF:wr.frozen? ⟨F,j,none⟩=false:=blk_free HJ2.out.1.f
       have hcj:=HCB.out j
       have hJ3:=HJ2.out.1.setF (c:=c) (f:=freF c j) HOF.out.2.1 HOF.out.2.2 hj8 (max 0 (c j - 1))
       rw [← freF_succ] at hJ3
       have hbw3:Below w.heap.size w (wr.setCell ⟨F,j,none⟩ (.int .i64 (max 0 (c j - 1)))):=HB1.out.trans (hJ3.bel.mono HB1.out.size)
       have kr3:(wr.setCell ⟨F,j,none⟩ (.int .i64 (max 0 (c j - 1)))).cell? ⟨b4,o4+j,none⟩=some (.int .i64 m.r[j]):=(hbw3.cell (p:=⟨b4,o4+j,none⟩) hb4).trans hc4
       have k03:(wr.setCell ⟨F,j,none⟩ (.int .i64 (max 0 (c j - 1)))).cell? ⟨w.heap.size,0,none⟩=some (.slice (some ⟨b4,o4,none⟩) m.r.length rc):=cell_later hJ3.bel HK.out.1
       have cO3:(wr.setCell ⟨F,j,none⟩ (.int .i64 (max 0 (c j - 1)))).cell? ⟨O,j,none⟩=some (.int .i64 (c j)):=by rw [cell_of_block hJ3.o,fnA_get _ hj8]
       have HJ3:=Lib.hid hJ3
       have HPR:Hid (∀ B:Bool,(B=true↔E2=true∧(m.r[j]≤P[j]∧P[j]≤2000000∧(0<c j∨P[j]=m.r[j])))→(B=true↔E=true∧∀ k,k<j+1→prOk m.r P c k)):=Lib.hid (fun B hB=>by
         rw [hB,HJ2.out.2]
         constructor
         · rintro ⟨⟨h1,h2⟩,h3⟩
           refine ⟨h1,fun k hk => ?_⟩
           by_cases e:k=j
           · subst e;unfold prOk;rw [getD_get hlt,getD_get hjr];exact h3
           · exact h2 k (by omega)
         · rintro ⟨h1,h2⟩
           refine ⟨⟨h1,fun k hk=>h2 k (by omega)⟩,?_⟩
           have:=h2 j (by omega)
           unfold prOk at this;rw [getD_get hlt,getD_get hjr] at this;exact this)
       generalize P[j]=p at kz HPR
       generalize m.r[j]=r at kr3 HPR
       generalize freF c j j=old at cF
       generalize c j=cj at cO hcj hJ3 hbw3 kr3 k03 cO3 HJ3 HPR
       clear hc3 hc4 hbw hJ3 hbw3
       go_upto_block 5 with fail
       go_cut [7,98] (fun ev s wx => ∃ B:Bool,ev=.bool B∧s=.int .i64 (j:Int)∧Hid (EvJ w1 O F c (freF c (j+1)) wx∧(B=true↔E=true∧∀ k,k<j+1→prOk m.r P c k)))
       case first =>
         cases hE2:E2 with
         | false =>
           have HF:Hid (false=true↔E=true∧∀ k,k<j+1→prOk m.r P c k):=Lib.hid (HPR.out false ⟨(fun e=>by cases e),(fun e=>by rw [hE2] at e;cases e.1)⟩)
           clear hE2
           go_wp2_with fail
           go_meet
           exact ⟨false,rfl,rfl,Lib.hid ⟨HJ3.out,HF.out⟩⟩
         | true =>
         by_cases g1:r≤p
         case neg =>
           have d1:decide (r≤p)=false:=decide_eq_false g1
           have HF:Hid (false=true↔E=true∧∀ k,k<j+1→prOk m.r P c k):=Lib.hid (HPR.out false ⟨(fun e=>by cases e),(fun e=>absurd e.2.1 g1)⟩)
           clear hE2 g1
           go_wp2_with fail
           go_meet
           exact ⟨false,rfl,rfl,Lib.hid ⟨HJ3.out,HF.out⟩⟩
         case pos =>
         have d1:decide (r≤p)=true:=decide_eq_true g1
         by_cases g2:p≤2000000
         case neg =>
           have d2:decide (p≤2000000)=false:=decide_eq_false g2
           have HF:Hid (false=true↔E=true∧∀ k,k<j+1→prOk m.r P c k):=Lib.hid (HPR.out false ⟨(fun e=>by cases e),(fun e=>absurd e.2.2.1 g2)⟩)
           clear hE2 g1 g2
           go_wp2_with fail
           go_meet
           exact ⟨false,rfl,rfl,Lib.hid ⟨HJ3.out,HF.out⟩⟩
         case pos =>
         have d2:decide (p≤2000000)=true:=decide_eq_true g2
         by_cases g3:0<cj
         case pos =>
           have d3:decide (0<cj)=true:=decide_eq_true g3
           have HF:Hid (E=true∧∀ k,k<j+1→prOk m.r P c k):=Lib.hid ((HPR.out true ⟨(fun _=>⟨hE2,g1,g2,.inl g3⟩),(fun _=>rfl)⟩).1 rfl)
           clear hE2 g1 g2 g3
           go_wp2_with fail
           go_meet
           exact ⟨true,rfl,rfl,Lib.hid ⟨HJ3.out,⟨fun _=>HF.out,fun _=>rfl⟩⟩⟩
         case neg =>
         have d3:decide (0<cj)=false:=decide_eq_false g3
         by_cases g4:p=r
         case pos =>
           have d4:(p == r)=true:=by rw [beq_iff_eq];exact g4
           have HF:Hid (E=true∧∀ k,k<j+1→prOk m.r P c k):=Lib.hid ((HPR.out true ⟨(fun _=>⟨hE2,g1,g2,.inr g4⟩),(fun _=>rfl)⟩).1 rfl)
           clear hE2 g1 g2 g3 g4
           go_wp2_with fail
           go_meet
           exact ⟨true,rfl,rfl,Lib.hid ⟨HJ3.out,⟨fun _=>HF.out,fun _=>rfl⟩⟩⟩
         case neg =>
           have d4:(p == r)=false:=by rw [beq_eq_false_iff_ne];exact g4
           have HF:Hid (false=true↔E=true∧∀ k,k<j+1→prOk m.r P c k):=Lib.hid (HPR.out false ⟨(fun e=>by cases e),(fun e=>by rcases e.2.2.2 with h | h;exact absurd h g3;exact absurd h g4)⟩)
           clear hE2 g1 g2 g3 g4
           go_wp2_with fail
           go_meet
           exact ⟨false,rfl,rfl,Lib.hid ⟨HJ3.out,HF.out⟩⟩
       case rest =>
         obtain ⟨B3,rfl,rfl,HF⟩:=hcut
         obtain ⟨wl,rfl⟩:∃ wl:World,wl=wc:=⟨_,rfl⟩
         clear kz cO cF zF kr3 k03 cO3
         go_wp2_with fail
         go_roundw
         case rel=>exact ⟨j+1,B3,by omega,rfl,by go_num,HF⟩
         case measure=>simp [intOf];omega
     · have hjj:j=P.length:=by omega
       subst hjj
       have hE3:=HJ2.out.2
       have HEV:Hid ((E2=true∧∀ k,k<P.length→c k≤1)↔JM.EvenP m.r m.b has P):=Lib.hid (by
         rw [← even_iff HMO.out HL.out HPL.out E c HE.out,hE3]
         exact and_assoc)
       have HBW:=Lib.hid (HB1.out.trans (HJ2.out.1.bel.mono HB1.out.size))
       cases hq2:E2 with
       | false =>
         have HFN:Hid (false=true↔mktB m=true∧JM.EvenP m.r m.b has P):=Lib.hid ⟨(fun e=>by cases e),(fun e=>by have:=HEV.out.2 e.2;rw [hq2] at this;cases this.1)⟩
         clear hq2 hE3
         go_wp2_with fail
         go_ret
         exact ⟨false,rfl,HFN.out,HBW.out⟩
       | true =>
         have HFN:Hid (∀ B:Bool,(B=true↔∀ k,k<8→freF c P.length k=0)→(B=true↔mktB m=true∧JM.EvenP m.r m.b has P)):=Lib.hid (fun B hB=>by
           rw [hB,← HEV.out,hq2]
           constructor
           · intro h
             refine ⟨HQ.out,rfl,fun k hk => ?_⟩
             have:=h k (by omega)
             unfold freF at this
             rw [if_pos hk] at this
             omega
           · rintro ⟨_,_,h⟩ k hk
             unfold freF
             split
             · rename_i h2
               have:=h k h2
               omega
             · rfl)
         have r1:=rangeAt_row HJ2.out.1.f
         clear hq2 hE3
         obtain ⟨i0,hi0,_,_,_⟩:=info_parts infoInt
         have hqq:=fun W=>(run_equalIn_array (P:=Tryz.prog) W 9999 (fnL 8 (freF c P.length)).toArray #[.int .i64 0,.int .i64 0,.int .i64 0,.int .i64 0,.int .i64 0,.int .i64 0,.int .i64 0,.int .i64 0] Tryz.underlying80 hi0).trans (run_eqItems_ints 9998 (by kernel_rfl) (by kernel_rfl) Tryz.underlying3 (freF c P.length) (fun _=>0) (fnL 8 (freF c P.length)).toArray #[.int .i64 0,.int .i64 0,.int .i64 0,.int .i64 0,.int .i64 0,.int .i64 0,.int .i64 0,.int .i64 0] W (List.range 8) (fun i hi=>⟨fnA_get _ (List.mem_range.1 hi),fnA_get (fun _=>0) (List.mem_range.1 hi)⟩))
         have HALL:Hid (((List.range 8).all fun i=>(freF c P.length i == 0))=true↔∀ k,k<8→freF c P.length k=0):=Lib.hid (by
           rw [List.all_eq_true]
           exact ⟨fun h k hk=>eq_of_beq (h k (List.mem_range.2 hk)),fun h k hk=>by rw [beq_iff_eq];exact h k (List.mem_range.1 hk)⟩)
         obtain ⟨BB,hBB⟩:∃ BB,BB=((List.range 8).all fun i=>(freF c P.length i == 0)):=⟨_,rfl⟩
         have HBB:=Lib.hid (HFN.out BB (by rw [hBB];exact HALL.out))
         rw [← hBB] at hqq
         clear hBB
         have l0:(fnL 8 (freF c P.length)).length=8:=fnL_length _ _
         go_wp2_with (first
           | (refine wpList_load_w2 rfl 80 (.tmp 6) rfl F 0 rfl (fnL 8 (freF c P.length)) _ r1 Tryz.underlying80 rfl (by rw [l0];exact info_8) ?_)
           | fail)
         go_ret
         exact ⟨BB,rfl,HBB.out,HBW.out⟩
end
section
open Go.RowKit Go.Shelf
set_option linter.unusedVariables false
set_option linter.unusedSimpArgs false
attribute [local go_sem] Oper.semAt_some
set_option maxHeartbeats 1000000 in
theorem r15has_any (ba pa:Option Addr) (bn bc pn pc:Nat) (bid P:List Int) (z:Int) (w:World) (hb:IsI w ba bn bc bid) (hp:IsI w pa pn pc P) (hz:z = -1∨(0≤z∧z<bid.length∧z<P.length)) :
   Calls Tryz.prog 60 #[.slice ba bn bc,.slice pa pn pc,.int .i64 z] w fun e w' => e=.returned (.int .i64 (hasF bid P z))∧∃ j,w'=w.drewN j:=by
 obtain rfl:=hb.1
 obtain rfl:=hp.1
 by_cases h1:z = -1
 · subst h1
   have HV:Hid (hasF bid P (-1)=0):=Lib.hid (if_pos rfl)
   clear hz hb hp
   go_enter Tryz.func60,Tryz.ntmps60
   go_wp2_with fail
   go_ret
   exact ⟨by rw [HV.out];rfl,0,rfl⟩
 · obtain ⟨h2,h3,h4⟩:0≤z∧z<bid.length∧z<P.length:=by rcases hz with h | h;exact absurd h h1;exact h
   obtain ⟨k,rfl⟩:=Int.eq_ofNat_of_zero_le h2
   have hk1:k<bid.length:=by omega
   have hk2:k<P.length:=by omega
   have hm1:=hb.len
   have hm2:=hp.len
   obtain ⟨b1,o1,rfl,_,c1⟩:=hb.at k hk1
   obtain ⟨b2,o2,rfl,_,c2⟩:=hp.at k hk2
   have HV:Hid (hasF bid P (k:Int)=wrap64 (bid[k] - P[k])):=Lib.hid (by
     unfold hasF
     rw [if_neg h1,Int.toNat_natCast,getD_get hk1,getD_get hk2])
   have d1:decide ((k:Int)<0)=false:=decide_eq_false (by omega)
   generalize bid[k]=x at c1 HV
   generalize P[k]=y at c2 HV
   clear hz hb hp h1 h2 h3 h4
   go_enter Tryz.func60,Tryz.ntmps60
   go_wp2_with fail
   go_quiet (fail)
   go_wp2_with fail
   go_ret
   exact ⟨by rw [HV.out];rfl,nq,rfl⟩
section
variable {r:List Int} {b:List (List Int)} {has P:List Int}
theorem even_no_row (hm:JM.MkOk r b) (hl:has.length=b.length) (pl:P.length=r.length) {i:Nat} (h:i<has.length) (hn:¬ rowOk (b.getD i []) P has[i]):¬ JM.EvenP r b has P:=fun he=>by
 have:=(even_iff hm hl pl false (fun _=>0) (.inr ⟨rfl,i,h,hn⟩)).2 he
 cases this.1
theorem even_no_pr (hm:JM.MkOk r b) (hl:has.length=b.length) (pl:P.length=r.length) {k:Nat} (hk:k<P.length) (hn:¬ (prOk r P (cntF has has.length) k∧cntF has has.length k≤1)):¬ JM.EvenP r b has P:=fun he=>by
 by_cases hr:∀ i (h:i<has.length),rowOk (b.getD i []) P has[i]
 · have:=(even_iff hm hl pl true _ (.inl ⟨rfl,hr,rfl⟩)).2 he
   exact hn ⟨this.2.1 k hk,this.2.2 k hk⟩
 · have:∃ i,∃ h:i<has.length,¬ rowOk (b.getD i []) P has[i]:=Classical.byContradiction fun hx=>hr (fun i h=>Classical.byContradiction fun hy=>hx ⟨i,h,hy⟩)
   obtain ⟨i,h,hy⟩:=this
   exact even_no_row hm hl pl h hy he
theorem even_yes (hm:JM.MkOk r b) (hl:has.length=b.length) (pl:P.length=r.length) (hr:∀ i (h:i<has.length),rowOk (b.getD i []) P has[i]) (hp:∀ k,k<P.length→prOk r P (cntF has has.length) k∧cntF has has.length k≤1):JM.EvenP r b has P :=
 (even_iff hm hl pl true _ (.inl ⟨rfl,hr,rfl⟩)).1 ⟨rfl,fun k hk=>(hp k hk).1,fun k hk=>(hp k hk).2⟩
end
set_option maxRecDepth 100000 in
set_option maxHeartbeats 16000000 in
theorem r15even_any (x:MkA) (m:MkC) (ha pa:Option Addr) (hn hc pn pc:Nat) (has P:List Int) (w:World) (h:IsMk w (fun _=>True) x m) (hrm:m.r.length≤17592186044416) (hh:IsI w ha hn hc has) (hp:IsI w pa pn pc P) :
   Calls Tryz.prog 37 #[.agg x.cells.toArray,.agg #[.slice ha hn hc,.slice pa pn pc]] w (EvnQ m has P w):=by
 obtain ⟨ra,rn,rc,ba,bn,bc,bv,oa,on,oc⟩:=x
 have hr:=h.r.1
 have hbb:=h.b
 have ho:=h.o.1
 unfold MkA.cells
 dsimp only at hr hbb ho ⊢
 obtain rfl:=hr.1
 obtain rfl:=hbb.1
 obtain rfl:=ho.1
 obtain rfl:=hh.1
 obtain rfl:=hp.1
 have hm1:=hh.len
 have hm2:=hp.len
 obtain ⟨hb0,m0,m1⟩:=alloc2_facts w (.cells #[.slice ra m.r.length rc,.slice ba m.b.length bc,.slice oa m.o.length oc] 25 (0,0)) (.cells #[.slice ha has.length hc,.slice pa P.length pc] 27 (0,0))
 have HM:=Lib.hid (h.below hb0)
 have HH:=Lib.hid (hh.below hb0)
 have HP:=Lib.hid (hp.below hb0)
 have HRM:=Lib.hid hrm
 clear h hr hbb ho hh hp hrm
 go_enter Tryz.func37,Tryz.ntmps37
 go_wp2_with fail
 generalize ((w.alloc (.cells #[.slice ra m.r.length rc,.slice ba m.b.length bc,.slice oa m.o.length oc] 25)).alloc (.cells #[.slice ha has.length hc,.slice pa P.length pc] 27))=W at hb0 m0 m1 HM HH HP ⊢
 have HC:Hid (∀ W',Below W.heap.size W W'→W'.cell? ⟨w.heap.size,0,none⟩=some (.slice ra m.r.length rc)∧W'.cell? ⟨w.heap.size,1,none⟩=some (.slice ba m.b.length bc)∧W'.cell? ⟨w.heap.size,2,none⟩=some (.slice oa m.o.length oc)∧W'.cell? ⟨w.heap.size+1,0,none⟩=some (.slice ha has.length hc)∧W'.cell? ⟨w.heap.size+1,1,none⟩=some (.slice pa P.length pc)):=Lib.hid (fun W' hW=>by
   have h0:=below_heap hW m0 (lt_of_heap m0)
   have h1:=below_heap hW m1 (lt_of_heap m1)
   refine ⟨?_,?_,?_,?_,?_⟩ <;> first | (rw [cell_of_block h0];rfl) | (rw [cell_of_block h1];rfl))
 have HB0:=Lib.hid hb0
 obtain ⟨c0,c1,c2,c3,c4⟩:=HC.out W (Below.refl _ _)
 clear hb0 m0 m1
 go_wp2_with fail
 refine (r05check_any ⟨ra,m.r.length,rc,ba,m.b.length,bc,bv,oa,m.o.length,oc⟩ m W HM.out HRM.out).mono ?_
 rintro e w1 ⟨rfl,hb1⟩
 have HB1:=Lib.hid (HB0.out.trans (hb1.mono HB0.out.size))
 have HC1:Hid (∀ W',Below w1.heap.size w1 W'→W'.cell? ⟨w.heap.size,0,none⟩=some (.slice ra m.r.length rc)∧W'.cell? ⟨w.heap.size,1,none⟩=some (.slice ba m.b.length bc)∧W'.cell? ⟨w.heap.size,2,none⟩=some (.slice oa m.o.length oc)∧W'.cell? ⟨w.heap.size+1,0,none⟩=some (.slice ha has.length hc)∧W'.cell? ⟨w.heap.size+1,1,none⟩=some (.slice pa P.length pc)):=Lib.hid (fun W' hW=>HC.out W' (hb1.trans (hW.mono hb1.size)))
 have HM1:=Lib.hid (HM.out.below hb1)
 have HH1:=Lib.hid (HH.out.below hb1)
 have HP1:=Lib.hid (HP.out.below hb1)
 obtain ⟨k0,k1,k2,k3,k4⟩:=HC1.out w1 (Below.refl _ _)
 clear hb1 c0 c1 c2 c3 c4 HC HM HH HP HB0
 cases hq:mktB m with
 | false =>
   go_wp2_with fail
   go_ret
   exact ⟨false,rfl,⟨(fun e=>by cases e),(fun e=>by rw [hq] at e;cases e.1)⟩,HB1.out⟩
 | true =>
 by_cases hl:has.length=m.b.length
 case neg =>
   have d1:((has.length:Int) != (m.b.length:Int))=true:=by rw [bne_iff_ne];omega
   have HL:=Lib.hid hl
   clear hl
   go_wp2_with fail
   go_ret
   exact ⟨false,rfl,⟨(fun e=>by cases e),fun e=>absurd e.2.hl HL.out⟩,HB1.out⟩
 case pos =>
 by_cases pl:P.length=m.r.length
 case neg =>
   have d1:((has.length:Int) != (m.b.length:Int))=false:=by rw [bne_eq_false_iff_eq];omega
   have d2:((P.length:Int) != (m.r.length:Int))=true:=by rw [bne_iff_ne];omega
   have HPL:=Lib.hid pl
   clear pl hl
   go_wp2_with fail
   go_ret
   exact ⟨false,rfl,⟨(fun e=>by cases e),fun e=>absurd e.2.pl HPL.out⟩,HB1.out⟩
 case pos =>
 have d1:((has.length:Int) != (m.b.length:Int))=false:=by rw [bne_eq_false_iff_eq];omega
 have d2:((P.length:Int) != (m.r.length:Int))=false:=by rw [bne_eq_false_iff_eq];omega
 have hmo:=mktB_ok hq
 have hk8:=hmo.hk
 have hn8:=hmo.hn
 have hP8:P.length≤8:=by omega
 have hH8:has.length≤8:=by omega
 have hP1:1≤P.length:=by omega
 have HL:=Lib.hid hl
 have HPL:=Lib.hid pl
 have HMO:=Lib.hid hmo
 have HQ:=Lib.hid hq
 have HNR:Hid (∀ i (h:i<has.length),¬ rowOk (m.b.getD i []) P has[i]→(false=true↔mktB m=true∧JM.EvenP m.r m.b has P)):=Lib.hid (fun i h hn=>⟨(fun e=>by cases e),fun e=>absurd e.2 (even_no_row hmo hl pl h hn)⟩)
 have HNP:Hid (∀ k,k<P.length→¬ (prOk m.r P (cntF has has.length) k∧cntF has has.length k≤1)→(false=true↔mktB m=true∧JM.EvenP m.r m.b has P)):=Lib.hid (fun k h hn=>⟨(fun e=>by cases e),fun e=>absurd e.2 (even_no_pr hmo hl pl h hn)⟩)
 have HMB:Hid (∀ i,i<m.b.length→bidB (m.r.length:Int) (m.b.getD i [])=true):=Lib.hid (fun i hi=>(mktB_bd hq).2.2.2.2 _ (getD_mem hi))
 have hmi:=make_ints P.length (by omega)
 obtain ⟨N,hN⟩:∃ N,N=has.length:=⟨_,rfl⟩
 have HN:=Lib.hid hN
 obtain ⟨NP,hNP⟩:∃ NP,NP=P.length:=⟨_,rfl⟩
 have HNPL:=Lib.hid hNP
 clear hl pl hmo hk8 hn8 hN hNP
 clear hq
 go_wp2_with fail
 have hbA:Below w1.heap.size w1 (w1.alloc (.cells (fnA P.length (fun _=>0)) 3 (0,0))):=(Below.refl _ _).alloc (Nat.le_refl _) _
 have hvA:=heap_new w1 (.cells (fnA P.length (fun _=>0)) 3 (0,0))
 generalize (w1.alloc (.cells (fnA P.length (fun _=>0)) 3 (0,0)))=w2 at hbA hvA ⊢
 have HA:Hid (Below w1.heap.size w1 w2∧w2.heap[w1.heap.size]?=some (.cells (fnA P.length (cntF has 0)) 3 (0,0))):=Lib.hid ⟨hbA,by rw [hvA,cntF_zero]⟩
 obtain ⟨O,hO⟩:∃ O,w1.heap.size=O:=⟨_,rfl⟩
 have HO1:Hid (w1.heap.size≤O):=Lib.hid (by omega)
 rw [hO] at HA ⊢
 rw [← hO] at HA
 have HA2:Hid (Below w1.heap.size w1 w2∧w2.heap[O]?=some (.cells (fnA P.length (cntF has 0)) 3 (0,0))):=Lib.hid ⟨HA.out.1,by rw [← hO];exact HA.out.2⟩
 clear hbA hvA hmi HA hO k0 k1 k2 k3 k4
 go_loopw [6] (fun i wr => ∃ j:Nat,j≤has.length∧i=.int .i64 (j:Int)∧Hid (Below w1.heap.size w1 wr∧wr.heap[O]?=some (.cells (fnA P.length (cntF has j)) 3 (0,0)))∧Hid (∀ q (h:q<has.length),q<j→-1≤has[q]∧has[q]<P.length)) (fun i _=>N - (intOf i).toNat)
 case atStart=>exact ⟨0,Nat.zero_le _,rfl,HA2,Lib.hid (fun q h h0=>by omega)⟩
 case round =>
   obtain ⟨j,hj,rfl,HJ,HZS⟩:=hrel
   obtain ⟨k0,k1,k2,k3,k4⟩:=HC1.out wr HJ.out.1
   by_cases hlt:j<has.length
   · obtain ⟨b3,o3,rfl,hb3,c3⟩:=(HH1.out.below HJ.out.1).at j hlt
     have HNZ:=Lib.hid (HNR.out j hlt)
     have HZA:Hid (∀ z,has[j]=z→-1≤z∧z<P.length→∀ q (h:q<has.length),q<j+1→-1≤has[q]∧has[q]<P.length):=Lib.hid (fun z e hz q h hq=>by
       by_cases e2:q=j
       · subst e2;rw [e];exact hz
       · exact HZS.out q h (by omega))
     have HCN:Hid (has[j] = -1→cntF has (j+1)=cntF has j):=Lib.hid (fun e=>cntF_none hlt e)
     have HCS:Hid (∀ q:Nat,has[j]=(q:Int)→cntF has (j+1)=updF (cntF has j) q (cntF has j q+1)):=Lib.hid (fun q e=>cntF_some hlt e)
     generalize has[j]=z at c3 HNZ HZA HCN HCS
     by_cases z1:z < -1
     case pos =>
       have dz:decide (z < -1)=true:=decide_eq_true z1
       have HE:=Lib.hid (HNZ.out (fun h=>by have:=h.1;omega))
       have HBE:Hid (Below w.heap.size w wr):=Lib.hid (HB1.out.trans (HJ.out.1.mono HB1.out.size))
       clear z1
       go_wp2_with fail
       go_quiet (fail)
       go_wp2_with fail
       go_ret
       exact ⟨false,rfl,HE.out,below_drewN HBE.out nq⟩
     case neg =>
     have dz:decide (z < -1)=false:=decide_eq_false z1
     by_cases z2:(P.length:Int)≤z
     case pos =>
       have dz2:decide ((P.length:Int)≤z)=true:=decide_eq_true z2
       have HE:=Lib.hid (HNZ.out (fun h=>by have:=h.2.1;omega))
       have HBE:Hid (Below w.heap.size w wr):=Lib.hid (HB1.out.trans (HJ.out.1.mono HB1.out.size))
       clear z1 z2
       go_wp2_with fail
       go_quiet (fail)
       go_wp2_with fail
       go_ret
       exact ⟨false,rfl,HE.out,below_drewN HBE.out nq⟩
     case neg =>
     have dz2:decide ((P.length:Int)≤z)=false:=decide_eq_false z2
     have HZ2:=Lib.hid (HZA.out z rfl ⟨by omega,by omega⟩)
     by_cases z3:z = -1
     · have dz3:decide (0≤z)=false:=decide_eq_false (by omega)
       have HJ2:Hid (Below w1.heap.size w1 wr∧wr.heap[O]?=some (.cells (fnA P.length (cntF has (j+1))) 3 (0,0))):=Lib.hid ⟨HJ.out.1,by rw [HCN.out z3];exact HJ.out.2⟩
       clear z1 z2 z3
       go_wp2_with fail
       go_quiet (fail)
       go_wp2_with fail
       go_roundw
       case rel=>exact ⟨j+1,by omega,by go_num,Lib.hid ⟨below_drewN HJ2.out.1 nq,below_heap (below_drewN (Below.refl _ _) nq) HJ2.out.2 (lt_of_heap HJ2.out.2)⟩,HZ2⟩
       case measure=>have:=HN.out;simp [intOf];omega
     · obtain ⟨q,rfl⟩:=Int.eq_ofNat_of_zero_le (show 0≤z by omega)
       have hqP:q<P.length:=by omega
       have dz3:decide (0≤(q:Int))=true:=decide_eq_true (by omega)
       have hcb:=cntF_bd has j q
       have HJ0:=HJ
       have HCQ:Hid (∀ W',Below w1.heap.size w1 W'→W'.heap[O]?=some (.cells (fnA P.length (cntF has j)) 3 (0,0))→Hid (Below w1.heap.size w1 (W'.setCell ⟨O,q,none⟩ (.int .i64 (cntF has j q+1)))∧(W'.setCell ⟨O,q,none⟩ (.int .i64 (cntF has j q+1))).heap[O]?=some (.cells (fnA P.length (cntF has (j+1))) 3 (0,0)))∧W'.cell? ⟨O,q,none⟩=some (.int .i64 (cntF has j q))∧W'.frozen? ⟨O,q,none⟩=false):=Lib.hid (fun W' h1 h2=>⟨Lib.hid ⟨h1.setCell (p:=⟨O,q,none⟩) HO1.out _,by
         rw [heap_setCell_same W' O q _ _ _ h2,fnA_set _ hqP,HCS.out q rfl]⟩,by rw [cell_of_block h2,fnA_get _ hqP],blk_free h2⟩)
       clear z1 z2 z3
       go_wp2_with fail
       go_quiet (fail)
       have hbd:=below_drewN (Below.refl wr.heap.size wr) nq
       have c3':=cell_later hbd c3
       have k3':=cell_later hbd k3
       obtain ⟨HJ2,cO,zO⟩:=HCQ.out (wr.drewN nq) (below_drewN HJ.out.1 nq) (below_heap hbd HJ.out.2 (lt_of_heap HJ.out.2))
       generalize cntF has j q=cq at cO hcb HJ2
       have hwq:wrap64 (cq+1)=cq+1:=by unfold wrap64;omega
       generalize wr.drewN nq=w5 at c3' k3' cO zO HJ2 ⊢
       clear hbd c3 k0 k1 k2 k3 k4 HCQ
       go_wp2_with fail
       go_roundw
       case rel=>exact ⟨j+1,by omega,by go_num,HJ2,HZ2⟩
       case measure=>have:=HN.out;simp [intOf];omega
   · have hjj:has.length=j:=by omega
     rw [← hjj] at HJ HZS ⊢
     clear hjj hj hlt
     go_wp2_with fail
     have HCB:Hid (∀ k,0≤cntF has has.length k∧cntF has has.length k≤has.length):=Lib.hid (fun k=>cntF_bd has has.length k)
     clear k0 k1 k2 k3 k4
     obtain ⟨V,rfl⟩:∃ V,V=wr:=⟨_,rfl⟩
     go_loopw [7] (fun i wr => ∃ k:Nat,k≤P.length∧i=.int .i64 (k:Int)∧Hid (Below w1.heap.size w1 wr∧wr.heap[O]?=some (.cells (fnA P.length (cntF has has.length)) 3 (0,0)))∧Hid (∀ q,q<k→prOk m.r P (cntF has has.length) q∧cntF has has.length q≤1)) (fun i _=>NP - (intOf i).toNat)
     case atStart=>exact ⟨0,Nat.zero_le _,rfl,HJ,Lib.hid (fun q h=>by omega)⟩
     case round =>
       obtain ⟨k,hk,rfl,HK,HPS⟩:=hrel
       obtain ⟨k0,k1,k2,k3,k4⟩:=HC1.out wr HK.out.1
       by_cases hlk:k<P.length
       · have hkr:k<m.r.length:=by have:=HPL.out;omega
         obtain ⟨b4,o4,rfl,hb4,c4⟩:=(HP1.out.below HK.out.1).at k hlk
         obtain ⟨b5,o5,rfl,hb5,c5⟩:=(HM1.out.below HK.out.1).r.1.at k hkr
         have cO:wr.cell? ⟨O,k,none⟩=some (.int .i64 (cntF has has.length k)):=by rw [cell_of_block HK.out.2,fnA_get _ hlk]
         have HNK:=Lib.hid (HNP.out k hlk)
         have HPK:Hid (prOk m.r P (cntF has has.length) k↔m.r[k]≤P[k]∧P[k]≤2000000∧(0<cntF has has.length k∨P[k]=m.r[k])):=Lib.hid (by unfold prOk;rw [getD_get hkr,getD_get hlk])
         have HPA:Hid (prOk m.r P (cntF has has.length) k∧cntF has has.length k≤1→∀ q,q<k+1→prOk m.r P (cntF has has.length) q∧cntF has has.length q≤1):=Lib.hid (fun h9 q hq=>by
           by_cases e:q=k
           · subst e;exact h9
           · exact HPS.out q (by omega))
         have hcb:=HCB.out k
         have HK2:Hid (∀ n,Below w1.heap.size w1 (wr.drewN n)∧(wr.drewN n).heap[O]?=some (.cells (fnA P.length (cntF has has.length)) 3 (0,0))):=Lib.hid (fun n=>⟨below_drewN HK.out.1 n,below_heap (below_drewN (Below.refl _ _) n) HK.out.2 (lt_of_heap HK.out.2)⟩)
         have HBE:Hid (Below w.heap.size w wr):=Lib.hid (HB1.out.trans (HK.out.1.mono HB1.out.size))
         generalize P[k]=y at c4 HPK
         generalize m.r[k]=z at c5 HPK
         generalize cntF has has.length k=cq at cO hcb HPK HNK HPA
         by_cases n1:1<cq
         case pos =>
           have e1:decide (1<cq)=true:=decide_eq_true n1
           have HE:=Lib.hid (HNK.out (fun h=>by have:=h.2;omega))
           clear n1
           go_wp2_with fail
           go_quiet (fail)
           go_wp2_with fail
           go_ret
           exact ⟨false,rfl,HE.out,below_drewN HBE.out nq⟩
         case neg =>
         have e1:decide (1<cq)=false:=decide_eq_false n1
         by_cases n2:y<z
         case pos =>
           have e2:decide (y<z)=true:=decide_eq_true n2
           have HE:=Lib.hid (HNK.out (fun h=>by have:=HPK.out.1 h.1;omega))
           clear n1 n2
           go_wp2_with fail
           go_quiet (fail)
           go_wp2_with fail
           go_ret
           exact ⟨false,rfl,HE.out,below_drewN HBE.out nq⟩
         case neg =>
         have e2:decide (y<z)=false:=decide_eq_false n2
         by_cases n3:2000000<y
         case pos =>
           have e3:decide (2000000<y)=true:=decide_eq_true n3
           have HE:=Lib.hid (HNK.out (fun h=>by have:=HPK.out.1 h.1;omega))
           clear n1 n2 n3
           go_wp2_with fail
           go_quiet (fail)
           go_wp2_with fail
           go_ret
           exact ⟨false,rfl,HE.out,below_drewN HBE.out nq⟩
         case neg =>
         have e3:decide (2000000<y)=false:=decide_eq_false n3
         by_cases n4:cq=0
         case neg =>
           have e4:(cq == 0)=false:=by rw [beq_eq_false_iff_ne];exact n4
           have HE:=Lib.hid (HPA.out ⟨HPK.out.2 ⟨by omega,by omega,.inl (by omega)⟩,by omega⟩)
           clear n1 n2 n3 n4
           go_wp2_with fail
           go_quiet (fail)
           go_wp2_with fail
           go_roundw
           case rel=>exact ⟨k+1,by omega,by go_num,Lib.hid (HK2.out nq),HE⟩
           case measure=>have:=HNPL.out;simp [intOf];omega
         case pos =>
         have e4:(cq == 0)=true:=by rw [beq_iff_eq];exact n4
         by_cases n5:y=z
         case pos =>
           have e5:(y != z)=false:=by rw [bne_eq_false_iff_eq];exact n5
           have HE:=Lib.hid (HPA.out ⟨HPK.out.2 ⟨by omega,by omega,.inr n5⟩,by omega⟩)
           clear n1 n2 n3 n4 n5
           go_wp2_with fail
           go_quiet (fail)
           go_wp2_with fail
           go_roundw
           case rel=>exact ⟨k+1,by omega,by go_num,Lib.hid (HK2.out nq),HE⟩
           case measure=>have:=HNPL.out;simp [intOf];omega
         case neg =>
           have e5:(y != z)=true:=by rw [bne_iff_ne];exact n5
           have HE:=Lib.hid (HNK.out (fun h=>by
             rcases (HPK.out.1 h.1).2.2 with h9 | h9
             · omega
             · exact n5 h9))
           clear n1 n2 n3 n4 n5
           go_wp2_with fail
           go_quiet (fail)
           go_wp2_with fail
           go_ret
           exact ⟨false,rfl,HE.out,below_drewN HBE.out nq⟩
       · have hkk:P.length=k:=by omega
         rw [← hkk] at HPS ⊢
         clear hkk hk hlk
         go_wp2_with fail
         clear k0 k1 k2 k3 k4
         have HK1:Hid (Below w1.heap.size w1 wr):=Lib.hid HK.out.1
         clear HK HJ
         obtain ⟨V2,rfl⟩:∃ V2,V2=wr:=⟨_,rfl⟩
         go_loopw [8,9,10] (fun i s9 s10 wr => ∃ j:Nat,j≤has.length∧i=.int .i64 (j:Int)∧Hid (Below w1.heap.size w1 wr)∧Hid (∀ q (h:q<has.length),q<j→rowOk (m.b.getD q []) P has[q])) (fun i _ _ _=>N - (intOf i).toNat)
         case atStart=>exact ⟨0,Nat.zero_le _,rfl,HK1,Lib.hid (fun q h h0=>by omega)⟩
         case round =>
           obtain ⟨j,hj,rfl,HB,HRS⟩:=hrel
           obtain ⟨k0,k1,k2,k3,k4⟩:=HC1.out wr HB.out
           by_cases hlt:j<has.length
           · have hjb:j<m.b.length:=by have:=HL.out;omega
             obtain ⟨b3,o3,rfl,hb3,c3⟩:=(HH1.out.below HB.out).at j hlt
             obtain ⟨b4,o4,x4,z4,rfl,hb4,c4,hI4⟩:=(HM1.out.below HB.out).b.isIL.at hjb
             have HI4:=Lib.hid hI4
             have HNZ:=Lib.hid (HNR.out j hlt)
             have HZB:=Lib.hid (HZS.out j hlt hlt)
             have HRA:Hid (rowOk (m.b.getD j []) P has[j]→∀ q (h:q<has.length),q<j+1→rowOk (m.b.getD q []) P has[q]):=Lib.hid (fun h9 q h hq=>by
               by_cases e:q=j
               · subst e;exact h9
               · exact HRS.out q h (by omega))
             have HBO:=Lib.hid (HMB.out j hjb)
             rw [getD_get hjb] at HNZ HRA HBO
             generalize m.b[j]=bid at c4 HI4 HNZ HRA HBO
             generalize has[j]=z at c3 HNZ HZB HRA
             have HBE:Hid (Below w.heap.size w wr):=Lib.hid (HB1.out.trans (HB.out.mono HB1.out.size))
             clear hI4
             by_cases hbe:bid.length=0
             · have e1:((bid.length:Int) == 0)=true:=by rw [hbe];rfl
               have e1b:(bid.length == 0)=true:=by rw [hbe];rfl
               have HBN:Hid (bid=[]):=Lib.hid (List.eq_nil_of_length_eq_zero hbe)
               clear hbe
               by_cases n1:z = -1
               · have e2:(z != -1)=false:=by rw [bne_eq_false_iff_eq];exact n1
                 have HE:=Lib.hid (HRA.out ⟨HZB.out.1,HZB.out.2,fun _=>n1,fun h9=>absurd HBN.out h9⟩)
                 clear n1
                 go_wp2_with fail
                 go_roundw
                 case rel=>exact ⟨j+1,by omega,by go_num,HB,HE⟩
                 case measure=>have:=HN.out;simp [intOf];omega
               · have e2:(z != -1)=true:=by rw [bne_iff_ne];exact n1
                 have HE:=Lib.hid (HNZ.out (fun h=>n1 (h.2.2.1 HBN.out)))
                 clear n1
                 go_wp2_with fail
                 go_ret
                 exact ⟨false,rfl,HE.out,HBE.out⟩
             · have e1:((bid.length:Int) == 0)=false:=by rw [beq_eq_false_iff_ne];omega
               have e1b:(bid.length == 0)=false:=by rw [beq_eq_false_iff_ne];exact hbe
               have hbl:bid.length=P.length:=by
                 obtain ⟨_,q2,_⟩:=bidB_bd HBO.out
                 have:=(okB_bd (q2 hbe)).2.2.1
                 have:=HPL.out
                 omega
               have HBL:=Lib.hid hbl
               have HBN:Hid (bid≠[]):=Lib.hid (fun e=>hbe (by rw [e];rfl))
               have HZ:Hid (z = -1∨(0≤z∧z<bid.length∧z<P.length)):=Lib.hid (by
                 have:=HZB.out
                 by_cases e:z = -1
                 · exact .inl e
                 · exact .inr ⟨by omega,by omega,by omega⟩)
               have HIW:Hid (∀ W',Below wr.heap.size wr W'→IsI W' x4 bid.length z4 bid∧IsI W' pa P.length pc P):=Lib.hid (fun W' h2=>⟨HI4.out.below h2,HP1.out.below (HB.out.trans (h2.mono HB.out.size))⟩)
               have HCW:Hid (∀ W',Below wr.heap.size wr W'→(W'.cell? ⟨w.heap.size,1,none⟩=some (.slice (some ⟨b4,o4,none⟩) m.b.length bc)∧W'.cell? ⟨w.heap.size+1,1,none⟩=some (.slice pa P.length pc))∧W'.cell? ⟨b4,o4+j,none⟩=some (.slice x4 bid.length z4)∧Below w1.heap.size w1 W'∧Below w.heap.size w W'):=Lib.hid (fun W' h2=>by
                 have h1:=HB.out.trans (h2.mono HB.out.size)
                 obtain ⟨_,q1,_,_,q4⟩:=HC1.out W' h1
                 exact ⟨⟨q1,q4⟩,cell_later h2 c4,h1,HB1.out.trans (h1.mono HB1.out.size)⟩)
               have HBW:Hid (Below wr.heap.size wr wr∧Below wr.heap.size wr wr.drew):=Lib.hid ⟨Below.refl _ _,(Below.refl _ _).drew⟩
               clear hbe hbl
               go_wp2_with fail
               go_quiet ((go_at_call 60;exact Calls.quiet_of (r15has_any x4 pa bid.length z4 P.length pc bid P z _ (HIW.out _ (below_drewN (Below.refl _ _) _)).1 (HIW.out _ (below_drewN (Below.refl _ _) _)).2 HZ.out)))
               all_goals
                 have HB5:Hid (Below wr.heap.size wr (wr.drewN nq)):=Lib.hid (below_drewN (Below.refl _ _) nq)
                 generalize wr.drewN nq=w5 at HB5 ⊢
                 clear k0 k1 k2 k3 k4 c3 c4 hb3 hb4 HBE
                 generalize hnv:hasF bid P z=nv
                 have HNV:=Lib.hid hnv
                 clear hnv
                 by_cases n1:nv<0
                 · have e2:decide (nv<0)=true:=decide_eq_true n1
                   have HE:=Lib.hid (HNZ.out (fun h=>by have:=(h.2.2.2 HBN.out).1;rw [HNV.out] at this;omega))
                   have HBE5:=Lib.hid (HCW.out w5 HB5.out).2.2.2
                   clear n1
                   go_wp2_with fail
                   go_ret
                   exact ⟨false,rfl,HE.out,HBE5.out⟩
                 · have e2:decide (nv<0)=false:=decide_eq_false n1
                   have HN0:Hid (0≤nv):=Lib.hid (by omega)
                   clear n1
                   go_wp2_with fail
                   clear e2
                   obtain ⟨V5,rfl⟩:∃ V5,V5=wr:=⟨_,rfl⟩
                   go_loopw [10] (fun jj wq => ∃ k:Nat,k≤P.length∧jj=.int .i64 (k:Int)∧Hid (Below V5.heap.size V5 wq)∧Hid (∀ q:Nat,q<k→hasF bid P q≤nv)) (fun jj _=>NP - (intOf jj).toNat)
                   case atStart=>exact ⟨0,Nat.zero_le _,rfl,HB5,Lib.hid (fun q h=>by omega)⟩
                   case round =>
                     obtain ⟨k,hk,rfl,HBQ,HLE⟩:=hrel
                     obtain ⟨⟨k1,k4⟩,c4,hq1,hq2⟩:=HCW.out _ HBQ.out
                     have HQ1:=Lib.hid hq1
                     have HQ2:=Lib.hid hq2
                     clear hq1 hq2
                     by_cases hlk:k<P.length
                     · have HK1:Hid ((k:Int) = -1∨(0≤(k:Int)∧(k:Int)<bid.length∧(k:Int)<P.length)):=Lib.hid (.inr ⟨by omega,by have:=HBL.out;omega,by omega⟩)
                       have HNK:Hid (nv<hasF bid P k→(false=true↔mktB m=true∧JM.EvenP m.r m.b has P)):=Lib.hid (fun h9=>HNZ.out (fun h=>by
                         have:=(h.2.2.2 HBN.out).2 k hlk
                         rw [HNV.out] at this
                         omega))
                       have HBD:Hid (Below V5.heap.size V5 wr.drew):=Lib.hid HBQ.out.drew
                       by_cases n2:nv<hasF bid P (k:Int)
                       · have dv:decide (nv<hasF bid P (k:Int))=true:=decide_eq_true n2
                         have HE:=Lib.hid (HNK.out n2)
                         clear n2
                         go_wp2_with fail
                         go_quiet ((go_at_call 60;exact Calls.quiet_of (r15has_any x4 pa bid.length z4 P.length pc bid P (k:Int) _ (HIW.out _ (below_drewN HBQ.out _)).1 (HIW.out _ (below_drewN HBQ.out _)).2 HK1.out)))
                         all_goals
                           have HB6:Hid (Below V5.heap.size V5 (wr.drewN nq)):=Lib.hid (below_drewN HBQ.out nq)
                           have HBE6:=Lib.hid (HCW.out _ HB6.out).2.2.2
                           go_wp2_with fail
                           go_ret
                           exact ⟨false,rfl,HE.out,by first | exact HBE6.out | exact HBE6.out.drew⟩
                       · have dv:decide (nv<hasF bid P (k:Int))=false:=decide_eq_false n2
                         have HLE2:Hid (∀ q:Nat,q<k+1→hasF bid P q≤nv):=Lib.hid (fun q hq=>by
                           by_cases e:q=k
                           · subst e;omega
                           · exact HLE.out q (by omega))
                         clear n2
                         go_wp2_with fail
                         go_quiet ((go_at_call 60;exact Calls.quiet_of (r15has_any x4 pa bid.length z4 P.length pc bid P (k:Int) _ (HIW.out _ (below_drewN HBQ.out _)).1 (HIW.out _ (below_drewN HBQ.out _)).2 HK1.out)))
                         all_goals
                           have HB6:Hid (Below V5.heap.size V5 (wr.drewN nq)):=Lib.hid (below_drewN HBQ.out nq)
                           go_wp2_with fail
                           go_roundw
                           case rel=>exact ⟨k+1,by omega,by go_num,by first | exact HB6 | exact Lib.hid HB6.out.drew,HLE2⟩
                           case measure=>have:=HNPL.out;simp [intOf];omega
                     · have hkk:P.length=k:=by omega
                       rw [← hkk] at HLE ⊢
                       have HE:=Lib.hid (HRA.out ⟨HZB.out.1,HZB.out.2,fun e=>absurd e HBN.out,fun _=>⟨by rw [HNV.out];exact HN0.out,fun q hq=>by rw [HNV.out];exact HLE.out q hq⟩⟩)
                       clear hkk hk hlk
                       go_wp2_with fail
                       go_roundw
                       case rel=>exact ⟨j+1,by omega,by go_num,HQ1,HE⟩
                       case measure=>have:=HN.out;simp [intOf];omega
           · have hjj:has.length=j:=by omega
             rw [← hjj] at HRS
             have HE:Hid (JM.EvenP m.r m.b has P):=Lib.hid (even_yes HMO.out HL.out HPL.out (fun i h=>HRS.out i h h) HPS.out)
             have HBE:Hid (Below w.heap.size w wr):=Lib.hid (HB1.out.trans (HB.out.mono HB1.out.size))
             subst hjj
             clear hlt HRS
             go_wp2_with fail
             go_ret
             exact ⟨true,rfl,⟨fun _=>⟨HQ.out,HE.out⟩,fun _=>rfl⟩,HBE.out⟩
end
end Go.Proofs.YtmmmjohoihpbeaaGreat
