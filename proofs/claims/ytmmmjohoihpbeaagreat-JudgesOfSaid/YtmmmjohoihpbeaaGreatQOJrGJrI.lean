/- The document's demands (12): Prices,Of,All;conditions: those typed. -/
import Derived.Test.YtmmmjohoihpbeaaGreatQOJrBJrCJrW
import Derived.Test.YtmmmjohoihpbeaaGreatQOJrDJrEJrF
import Derived.Test.YtmmmjohoihpbeaaGreatQOJmgJmlJmnJwL
import Derived.Handy
import Derived.Test.YtmmmjohoihpbeaaGreatQOJwMbJmhJwMcJmjJrHJmk
namespace Go.Proofs.YtmmmjohoihpbeaaGreat
section
open Go.RowKit Go.Shelf
set_option linter.unusedVariables false
set_option linter.unusedSimpArgs false
attribute [local go_sem] Oper.semAt_some
set_option maxRecDepth 100000 in
set_option maxHeartbeats 8000000 in
theorem r12prices_any (a:Option Addr) (n c:Nat) (p:List Int) (w:World) (h:IsI w a n c p) (hp:PrOk p) :
   Calls Tryz.prog 133 #[.slice a n c] w fun e w' => e=.returned (.bool true)∧w=w':=by
 obtain rfl:=h.1
 have h1:=hp.l1
 have h8:=hp.l8
 have d1:decide ((p.length:Int)<1)=false:=decide_eq_false (by omega)
 have d2:decide ((8:Int)<(p.length:Int))=false:=decide_eq_false (by omega)
 have HI:=Lib.hid h
 have HP:=Lib.hid hp
 obtain ⟨N,hN⟩:∃ N,N=p.length:=⟨_,rfl⟩
 have HN:=Lib.hid hN
 clear h hp hN
 go_enter Tryz.func133,Tryz.ntmps133
 go_wp2_with fail
 go_loop [3] (fun k => ∃ q:Nat,q≤p.length∧k=.int .i64 (q:Int)) (fun k=>N - (intOf k).toNat)
 case atStart=>exact ⟨0,Nat.zero_le _,rfl⟩
 case round =>
   obtain ⟨q,hq,rfl⟩:=hrel
   by_cases hlq:q<p.length
   · obtain ⟨b2,o2,rfl,hb2,c2⟩:=HI.out.at q hlq
     have hzb:=HP.out.b _ (List.getElem_mem hlq)
     have e1:decide (p[q]<0)=false:=decide_eq_false (by omega)
     have e2:decide ((2000000:Int)<p[q])=false:=decide_eq_false (by omega)
     generalize p[q]=y at c2 e1 e2 hzb
     go_wp2_with fail
     go_round
     case rel=>exact ⟨q+1,by omega,by go_num⟩
     case measure=>have:=HN.out;simp [intOf];omega
   · have hqq:p.length=q:=by omega
     subst hqq
     go_wp2_with fail
     go_ret
     exact ⟨rfl,rfl⟩
def wntU (bid p:List Int) (K k:Nat):List Int:=((List.range k).filter fun q=>gainI bid p q == JM.mx K (gainI bid p)).map Int.ofNat
theorem wntU_yes {bid p:List Int} {K k:Nat} (h:gainI bid p k=JM.mx K (gainI bid p)):wntU bid p K (k+1)=wntU bid p K k ++ [(k:Int)]:=by
 unfold wntU
 rw [List.range_succ,List.filter_append,List.map_append]
 simp [h]
theorem wntU_no {bid p:List Int} {K k:Nat} (h:gainI bid p k≠JM.mx K (gainI bid p)):wntU bid p K (k+1)=wntU bid p K k:=by
 unfold wntU
 rw [List.range_succ,List.filter_append,List.map_append]
 simp [h]
theorem wntU_len (bid p:List Int) (K k:Nat):(wntU bid p K k).length≤k:=by
 unfold wntU
 rw [List.length_map]
 exact Nat.le_trans (List.length_filter_le _ _) (by simp)
theorem infoBo:(Tryz.prog.info? 4).map (fun i=>(i.zero,i.size,i.bytes))=some (some (.bool false),1,1):=by kernel_rfl
theorem rowBo:RowTy Tryz.prog 132 4 1 1 (.bool false):=⟨Tryz.underlying132,infoBo,rfl,by decide⟩
set_option maxRecDepth 100000 in
set_option maxHeartbeats 8000000 in
theorem r12of_any (ba pa:Option Addr) (bn bc pn pc:Nat) (bid p:List Int) (w:World) (hb:IsI w ba bn bc bid) (hp:IsI w pa pn pc p) (hpo:PrOk p) (hbo:bidB (p.length:Int) bid=true) :
   Calls Tryz.prog 134 #[.slice ba bn bc,.slice pa pn pc] w fun e w' => ∃ a c,e=.returned (.tuple #[.slice a (dmF (gnK bid p bid.length)).1.length c,.bool ((dmF (gnK bid p bid.length)).2 == 0),.int .i64 (dmF (gnK bid p bid.length)).2,.int .i64 0])∧Below w.heap.size w w'∧IsT w' a (dmF (gnK bid p bid.length)).1.length c (dmF (gnK bid p bid.length)).1:=by
 obtain rfl:=hb.1
 obtain rfl:=hp.1
 obtain ⟨q1,q2,q3⟩:=bidB_bd hbo
 have hp8:=hpo.l8
 rw [JM.dmF_eq]
 dsimp only
 have HB:=Lib.hid hb
 have HP:=Lib.hid hp
 have HPO:=Lib.hid hpo
 have HGB:Hid (∀ k,k<bid.length→k<p.length∧gainI bid p k=bid.getD k 0 - p.getD k 0∧(0≤bid.getD k 0∧bid.getD k 0≤1000000)∧0≤p.getD k 0∧p.getD k 0≤2000000):=Lib.hid (fun k hk=>⟨by omega,rfl,q3 _ (getD_mem hk),hpo.b _ (getD_mem (by omega))⟩)
 have HMX:Hid (∀ k,k≤bid.length→0≤JM.mx k (gainI bid p)∧JM.mx k (gainI bid p)≤1000000):=Lib.hid (fun k hk=>⟨JM.mx_nonneg _ _,JM.mx_le (by decide) (fun q hq=>by
   obtain ⟨_,h2,h3,h4⟩:=HGB.out q (by omega)
   rw [h2];omega)⟩)
 have HOK:Hid (bid.length≠0→okB bid (p.length:Int)=true):=Lib.hid q2
 have hbl8:bid.length≤8:=by omega
 have hpl:(p.length:Int)≤4611686018427387904:=by omega
 obtain ⟨N,hN⟩:∃ N,N=bid.length:=⟨_,rfl⟩
 have HN:=Lib.hid hN
 clear hb hp hpo hbo q1 q2 q3 hN
 go_enter Tryz.func134,Tryz.ntmps134
 go_wp2_with fail
 refine (r12prices_any pa p.length pc p w HP.out HPO.out).mono ?_
 rintro e w1 ⟨rfl,rfl⟩
 rcases Nat.eq_zero_or_pos bid.length with he | he
 case' inl =>
   have de:decide ((0:Int)<(bid.length:Int))=false:=decide_eq_false (by omega)
   have de2:decide (0<bid.length)=false:=decide_eq_false (by omega)
   have HE:=Lib.hid he
   clear he
   go_wp2_with fail
   clear HE de de2
 case' inr =>
   have de:decide ((0:Int)<(bid.length:Int))=true:=decide_eq_true (by omega)
   have de2:decide (0<bid.length)=true:=decide_eq_true (by omega)
   have HE:=Lib.hid he
   clear he
   go_wp2_with fail
   refine (rcheck_any ba bid.length bc bid p.length w HB.out (by omega)).mono ?_
   rw [HOK.out (by have:=HE.out;omega)]
   rintro e w2 ⟨rfl,rfl⟩
   go_wp2_with fail
   clear HE de de2
 all_goals
   go_loopw [8,9] (fun g k wr => ∃ q:Nat,q≤bid.length∧g=.int .i64 (JM.mx q (gainI bid p))∧k=.int .i64 (q:Int)∧Hid (Below w.heap.size w wr)) (fun _ k _=>N - (intOf k).toNat)
   case atStart=>exact ⟨0,Nat.zero_le _,rfl,rfl,Lib.hid (Below.refl _ _)⟩
   case round =>
     obtain ⟨q,hq,rfl,rfl,HW⟩:=hrel
     by_cases hlq:q<bid.length
     · obtain ⟨hqp,h2,h3,h4⟩:=HGB.out q hlq
       obtain ⟨b1,o1,rfl,hb1,c1⟩:=(HB.out.below HW.out).at q hlq
       obtain ⟨b2,o2,rfl,hb2,c2⟩:=(HP.out.below HW.out).at q hqp
       have hm:=HMX.out q hq
       have hms:JM.mx (q+1) (gainI bid p)=max (JM.mx q (gainI bid p)) (gainI bid p q):=rfl
       rw [h2,getD_get hlq,getD_get hqp] at hms
       rw [getD_get hlq] at h3
       rw [getD_get hqp] at h4
       have HMS:=Lib.hid hms
       clear hms
       generalize bid[q]=x at c1 HMS h3
       generalize p[q]=y at c2 HMS h4
       generalize JM.mx q (gainI bid p)=gv at hm HMS
       have hw1:IntKind.i64.wrap (x - y)=x - y:=IntWalk.i64_in _ (by omega)
       have HW2:Hid (Below w.heap.size w wr.drew):=Lib.hid HW.out.drew
       clear h2 hb1 hb2
       go_wp2_with fail
       go_region
       go_wp2_with fail
       go_roundw
       case rel=>exact ⟨q+1,by omega,by rw [HMS.out],by go_num,HW2⟩
       case measure=>have:=HN.out;simp [intOf];omega
     · have hqq:q=bid.length:=by omega
       have hm:=HMX.out q hq
       rw [hqq] at hm ⊢
       have HGM:Hid (∀ k,k<bid.length→(gainI bid p k=JM.mx bid.length (gainI bid p))=(gainI bid p k=JM.mx bid.length (gainI bid p))):=Lib.hid (fun _ _=>rfl)
       clear hqq hq hlq HGM
       obtain ⟨gv,hgv⟩:∃ gv,gv=JM.mx bid.length (gainI bid p):=⟨_,rfl⟩
       have HGV:=Lib.hid hgv
       rw [← hgv] at hm ⊢
       clear hgv
       go_wp2_with fail
       obtain ⟨V,rfl⟩:∃ V,V=wr:=⟨_,rfl⟩
       go_loopw [10,11] (fun l k wr => ∃ (q:Nat) (a:Option Addr) (c:Nat),q≤bid.length∧l=.slice a (wntU bid p bid.length q).length c∧k=.int .i64 (q:Int)∧Hid (wr.ownsRow w.heap.size 3 1 (.slice a (wntU bid p bid.length q).length c) (wntU bid p bid.length q).length (icells (wntU bid p bid.length q))∧Below w.heap.size w wr)) (fun _ k _=>N - (intOf k).toNat)
       case atStart=>exact ⟨0,none,0,Nat.zero_le _,rfl,rfl,Lib.hid ⟨World.ownsRow_nil _ _ _ _,HW.out⟩⟩
       case round =>
         obtain ⟨q,a,c,hq,rfl,rfl,HQ⟩:=hrel
         by_cases hlq:q<bid.length
         · obtain ⟨hqp,h2,h3,h4⟩:=HGB.out q hlq
           obtain ⟨b1,o1,rfl,hb1,c1⟩:=(HB.out.below HQ.out.2).at q hlq
           obtain ⟨b2,o2,rfl,hb2,c2⟩:=(HP.out.below HQ.out.2).at q hqp
           have hll:=wntU_len bid p bid.length q
           rw [getD_get hlq] at h2 h3
           rw [getD_get hqp] at h2 h4
           by_cases hg:gainI bid p q=gv
           · have HU:Hid (wntU bid p bid.length (q+1)=wntU bid p bid.length q ++ [(q:Int)]):=Lib.hid (wntU_yes (by rw [← HGV.out];exact hg))
             rw [h2] at hg
             generalize wntU bid p bid.length q=L at HQ HU hll ⊢
             generalize bid[q]=x at c1 h3 hg
             generalize p[q]=y at c2 h4 hg
             have hw1:IntKind.i64.wrap (x - y)=x - y:=IntWalk.i64_in _ (by omega)
             have hd:(x - y == gv)=true:=by rw [beq_iff_eq];exact hg
             have ho:wr.drew.ownsRow w.heap.size 3 1 (.slice a L.length c) L.length (icells L):=HQ.out.1
             have HWD:Hid (Below w.heap.size w wr.drew):=Lib.hid HQ.out.2.drew
             have hws:=HWD.out.size
             clear h2 hb1 hb2 hg
             go_wp2_with fail
             go_region
             generalize wr.drew=w5 at ho HWD hws ⊢
             go_wp2_with (at_builtin
                          refine wpList_append_any rowInt rfl (.tmp 61) (.tmp 63) rfl w.heap.size (.slice a L.length c) L.length (icells L) rfl (ho.alloc _) (some ⟨w5.heap.size,0,none⟩) 1 1 [.int .i64 (q:Int)] rfl rfl (At.one w5 _ _) (one_cell _ rfl) (by unfold maxLen;omega) (by omega) (by simp;omega) ?_
                          intro b7 c7 w7 ho7 hg7 _
                          have HB7:=Lib.hid ((HWD.out.alloc HWD.out.size _).grown hg7 (by simp;omega) (fun k hk=>owns_base ho k hk))
                          have HO7:Hid (w7.ownsRow w.heap.size 3 1 (.slice b7 (L.length+1) c7) (L.length+1) (icells (L ++ [(q:Int)]))):=Lib.hid (by rw [icells_append];exact ho7)
                          clear ho7 hg7)
             go_roundw
             case rel=>exact ⟨q+1,b7,c7,by omega,by rw [HU.out,List.length_append];rfl,by go_num,Lib.hid ⟨by rw [HU.out,List.length_append];exact HO7.out,HB7.out⟩⟩
             case measure=>have:=HN.out;simp [intOf];omega
           · have HU:Hid (wntU bid p bid.length (q+1)=wntU bid p bid.length q):=Lib.hid (wntU_no (by rw [← HGV.out];exact hg))
             rw [h2] at hg
             generalize wntU bid p bid.length q=L at HQ HU hll ⊢
             generalize bid[q]=x at c1 h3 hg
             generalize p[q]=y at c2 h4 hg
             have hw1:IntKind.i64.wrap (x - y)=x - y:=IntWalk.i64_in _ (by omega)
             have hd:(x - y == gv)=false:=by rw [beq_eq_false_iff_ne];exact hg
             have HWD:Hid (Below w.heap.size w wr.drew):=Lib.hid HQ.out.2.drew
             clear h2 hb1 hb2 hg
             go_wp2_with fail
             go_region
             go_wp2_with fail
             go_roundw
             case rel=>exact ⟨q+1,a,c,by omega,by rw [HU.out],by go_num,Lib.hid ⟨by rw [HU.out];exact HQ.out.1,HWD.out⟩⟩
             case measure=>have:=HN.out;simp [intOf];omega
         · have hqq:q=bid.length:=by omega
           rw [hqq] at HQ ⊢
           have hll:=wntU_len bid p bid.length bid.length
           obtain ⟨L,hL⟩:∃ L,L=wntU bid p bid.length bid.length:=⟨_,rfl⟩
           have HLE:Hid (((List.range bid.length).filter fun k=>gainI bid p k == JM.mx bid.length (gainI bid p)).map Int.ofNat=L):=Lib.hid hL.symm
           rw [← hL] at HQ hll ⊢
           clear hqq hq hlq hL
           have HRT:Hid (IsT wr a L.length c L):=Lib.hid (isT_of_owns HQ.out.1 rfl)
           go_wp2_with fail
           go_returns
           rw [HLE.out,← HGV.out]
           exact ⟨a,c,rfl,HQ.out.2,HRT.out⟩
def bovals (bs:List Bool):List Value:=bs.map Value.bool
theorem bovals_snoc (bs:List Bool) (b:Bool):bovals (bs ++ [b])=bovals bs ++ [.bool b]:=by simp [bovals]
theorem bovals_get {bs:List Bool} {i:Nat} (h:i<bs.length):(bovals bs)[i]?=some (.bool bs[i]):=by simp [bovals,h]
theorem touch_grow {w w7:World} {v:Value} {o:Obj} (hg:(w.alloc o).grownBy w7 v.ownBlock):Touch (fun k=>v.ownBlock=some k) w w7:=((Touch.refl _ w).alloc o).grown hg (fun k hk=>.inl hk)
theorem owns_grow {w w7:World} {B B' e e' n n':Nat} {v v':Value} {xs xs':List Value} {o:Obj} (h:w.ownsRow B' e' 1 v' n' xs') (ho:w.ownsRow B e 1 v n xs) (hne:e≠e') (hg:(w.alloc o).grownBy w7 v.ownBlock):w7.ownsRow B' e' 1 v' n' xs' :=
 owns_touch h (touch_grow hg) (fun k hk hk' => owns_ne ho h hne k hk' hk)
theorem Gr.grow {B B' e n:Nat} {w w7:World} {a:Option Addr} {k c:Nat} {vs:List Value} {L:List (List Int)} {v:Value} {xs:List Value} {o:Obj} (h:Gr B w a k c vs L) (ho:w.ownsRow B' e 1 v n xs) (h1:e≠22) (h2:e≠3) (hg:(w.alloc o).grownBy w7 v.ownBlock):Gr B w7 a k c vs L:=by
 have ht:=touch_grow hg
 refine ⟨owns_grow h.1 ho h1 hg,h.2.keep ht.size (fun b C hb hC=>ht.heap hC (fun e2 => ?_))⟩
 obtain ⟨cur,hcu⟩:=owns_block ho e2
 rw [hC] at hcu
 exact h2 (Obj.cells.inj (Option.some.inj hcu)).2.1.symm
set_option maxRecDepth 100000 in
set_option maxHeartbeats 8000000 in
theorem r12all_any (x:MkA) (m:MkC) (pa:Option Addr) (pn pc:Nat) (p:List Int) (w:World) (h:MkT w x m) (hp:IsI w pa pn pc p) (hpo:PrOk p) (hpl:p.length=m.r.length) :
   Calls Tryz.prog 104 #[.agg x.cells.toArray,.slice pa pn pc] w fun e W => ∃ a c vs na nc,e=.returned (.tuple #[.slice a m.b.length c,.slice na m.b.length nc,.int .i64 0])∧Below w.heap.size w W∧Gr w.heap.size W a m.b.length c vs (wantsD m.b p)∧W.ownsRow w.heap.size 4 1 (.slice na m.b.length nc) m.b.length (bovals (noneD m.b p)):=by
 obtain ⟨ra,rn,rc,ba,bn,bc,bv,oa,on,oc⟩:=x
 have hr:=h.v.r.1
 have hbb:=h.v.b
 have ho:=h.v.o.1
 unfold MkA.cells
 dsimp only at hr hbb ho ⊢
 obtain rfl:=hr.1
 obtain rfl:=hbb.1
 obtain rfl:=ho.1
 obtain rfl:=hp.1
 have hmo:=mktB_ok h.ok
 have hn8:=hmo.hn
 have hk8:=hmo.hk
 have HQ:Hid (mktB m=true):=Lib.hid h.ok
 have hb0:Below w.heap.size w (w.alloc (.cells #[.slice ra m.r.length rc,.slice ba m.b.length bc,.slice oa m.o.length oc] 25)):=(Below.refl _ _).alloc (Nat.le_refl _) _
 have hv:=heap_new w (.cells #[.slice ra m.r.length rc,.slice ba m.b.length bc,.slice oa m.o.length oc] 25 (0,0))
 have HM:=Lib.hid (h.v.below hb0)
 have HP:=Lib.hid (hp.below hb0)
 have HPO:=Lib.hid hpo
 have HPL:=Lib.hid hpl
 have d3:((p.length:Int) != (m.r.length:Int))=false:=by rw [hpl];simp
 clear h hr hbb ho hmo hp hpo
 go_enter Tryz.func104,Tryz.ntmps104
 go_wp2_with fail
 generalize w.alloc (.cells #[.slice ra m.r.length rc,.slice ba m.b.length bc,.slice oa m.o.length oc] 25)=W at hb0 hv HM HP ⊢
 have c0:W.cell? ⟨w.heap.size,0,none⟩=some (.slice ra m.r.length rc):=by rw [cell_of_block hv];rfl
 have c1:W.cell? ⟨w.heap.size,1,none⟩=some (.slice ba m.b.length bc):=by rw [cell_of_block hv];rfl
 have c2:W.cell? ⟨w.heap.size,2,none⟩=some (.slice oa m.o.length oc):=by rw [cell_of_block hv];rfl
 have HB0:=Lib.hid hb0
 have HPL2:=HPL
 clear hb0 hv hpl
 go_wp2_with fail
 refine (r05check_any ⟨ra,m.r.length,rc,ba,m.b.length,bc,bv,oa,m.o.length,oc⟩ m W HM.out (by omega)).mono ?_
 rw [HQ.out]
 rintro e w1 ⟨rfl,hb1⟩
 have k0:=cell_later hb1 c0
 have k1:=cell_later hb1 c1
 have HB1:=Lib.hid (HB0.out.trans (hb1.mono HB0.out.size))
 have HP1:Hid (IsI w1 pa p.length pc p):=Lib.hid (HP.out.below hb1)
 have HL1:Hid (IsIL w1 ba m.b.length bc m.b):=Lib.hid (HM.out.below hb1).b.isIL
 obtain ⟨N,hN⟩:∃ N,N=m.b.length:=⟨_,rfl⟩
 have HN:=Lib.hid hN
 clear hb1 c0 c1 c2 hN
 go_wp2_with fail
 refine (r12prices_any pa p.length pc p w1 HP1.out HPO.out).mono ?_
 rintro e w2 ⟨rfl,rfl⟩
 go_wp2_with fail
 have HWL:Hid ((wantsD m.b p).length=m.b.length):=Lib.hid (by simp [wantsD])
 have HNL:Hid ((noneD m.b p).length=m.b.length):=Lib.hid (by simp [noneD])
 go_loopw [7,8,9,10,11,12,13] (fun it no i s10 s11 s12 s13 wr => ∃ (j:Nat) (a na:Option Addr) (c nc:Nat),j≤m.b.length∧i=.int .i64 (j:Int)∧it=.slice a j c∧no=.slice na j nc∧Hid (∃ vs,Gr w1.heap.size wr a j c vs ((wantsD m.b p).take j))∧Hid (wr.ownsRow w1.heap.size 4 1 (.slice na j nc) j (bovals ((noneD m.b p).take j)))∧Hid (Below w1.heap.size w1 wr)) (fun _ _ i _ _ _ _ _=>N - (intOf i).toNat)
 case atStart=>exact ⟨0,none,none,0,0,Nat.zero_le _,rfl,rfl,rfl,Lib.hid ⟨[],Gr.nil _ _⟩,Lib.hid (World.ownsRow_nil _ _ _ _),Lib.hid (Below.refl _ _)⟩
 case round =>
   obtain ⟨j,a,na,c,nc,hj,rfl,rfl,rfl,HGX,HO,HB⟩:=hrel
   obtain ⟨vs,hgr⟩:=HGX.out
   have HGR:=Lib.hid hgr
   clear hgr
   have r1:=cell_later HB.out k1
   by_cases hlt:j<m.b.length
   · obtain ⟨b,off,bx,bz,rfl,hbl,hc,hI⟩:=(HL1.out.below HB.out).at hlt
     have HI:=Lib.hid hI
     have HBJ:Hid (bidB (p.length:Int) m.b[j]=true):=Lib.hid (by rw [HPL.out];exact (mktB_bd HQ.out).2.2.2.2 _ (List.getElem_mem hlt))
     have HTW:Hid ((wantsD m.b p).take (j+1)=(wantsD m.b p).take j ++ [(dmF (gnK m.b[j] p m.b[j].length)).1]):=Lib.hid (by
       rw [List.take_succ_eq_append_getElem (by rw [HWL.out];exact hlt)];simp [wantsD])
     have HTN:Hid ((noneD m.b p).take (j+1)=(noneD m.b p).take j ++ [(dmF (gnK m.b[j] p m.b[j].length)).2 == 0]):=Lib.hid (by
       rw [List.take_succ_eq_append_getElem (by rw [HNL.out];exact hlt)];simp [noneD])
     generalize m.b[j]=bid at HI hc HBJ HTW HTN
     clear hI
     go_wp2_with fail
     refine (r12of_any bx pa bid.length bz p.length pc bid p wr HI.out (HP1.out.below HB.out) HPO.out HBJ.out).mono ?_
     rintro e w5 ⟨a5,c5,rfl,hb5,hT5⟩
     have HT5:=Lib.hid hT5
     have HGR5:=Lib.hid (HGR.out.below hb5)
     have HO5:=Lib.hid (owns_below HO.out hb5)
     have HB5:=Lib.hid (HB.out.trans (hb5.mono HB.out.size))
     have hgo:=HGR5.out.1
     have hbz:=HB5.out.size
     generalize (dmF (gnK bid p bid.length)).1=L5 at HT5 HTW ⊢
     generalize (dmF (gnK bid p bid.length)).2=g5 at HTN ⊢
     clear hb5 hT5 hbl hc r1 HGR HO
     go_wp2_with (at_builtin
                  first
                    | (refine wpList_append_any rowII rfl (.tmp 49) (.tmp 51) rfl w1.heap.size (.slice a j c) j vs rfl (hgo.alloc _) (some ⟨w5.heap.size,0,none⟩) 1 1 [.slice a5 L5.length c5] rfl rfl (At.one _ _ _) (one_cell _ rfl) (by unfold maxLen;omega) (by omega) (Nat.le_trans hbz (by simp)) ?_
                       intro b8 c8 w8 ho8 hg8 _
                       have HB8:=Lib.hid (HGR5.out.pushB HB5.out hbz hg8)
                       have HG8:=Lib.hid (HGR5.out.push HT5.out hg8 ho8)
                       have HO8:=Lib.hid (owns_grow HO5.out HGR5.out.1 (by decide) hg8)
                       have hno:=HO8.out
                       have hbz8:=HB8.out.size
                       clear ho8 hg8)
                    | (refine wpList_append_any rowBo rfl (.tmp 53) (.tmp 55) rfl w1.heap.size (.slice na j nc) j (bovals ((noneD m.b p).take j)) rfl (hno.alloc _) (some ⟨w8.heap.size,0,none⟩) 1 1 [.bool (g5 == 0)] rfl rfl (At.one _ _ _) (one_cell _ rfl) (by unfold maxLen;omega) (by omega) (Nat.le_trans hbz8 (by simp)) ?_
                       intro b9 c9 w9 ho9 hg9 _
                       have HB9:=Lib.hid ((HB8.out.alloc hbz8 _).grown hg9 (by simp;omega) (fun k hk=>owns_base hno k hk))
                       have HG9:Hid (∃ vs,Gr w1.heap.size w9 b8 (j+1) c8 vs ((wantsD m.b p).take (j+1))):=Lib.hid ⟨_,by rw [HTW.out];exact HG8.out.grow hno (by decide) (by decide) hg9⟩
                       have HO9:Hid (w9.ownsRow w1.heap.size 4 1 (.slice b9 (j+1) c9) (j+1) (bovals ((noneD m.b p).take (j+1)))):=Lib.hid (by rw [HTN.out,bovals_snoc];exact ho9)
                       clear ho9 hg9))
     go_roundw
     case rel=>exact ⟨j+1,b8,b9,c8,c9,by omega,by go_num,rfl,rfl,HG9,HO9,HB9⟩
     case measure=>have:=HN.out;simp [intOf];omega
   · have hjj:m.b.length=j:=by omega
     have HGF:Hid (Gr w.heap.size wr a m.b.length c vs (wantsD m.b p)):=Lib.hid (by
       have:=HGR.out.lower HB1.out.size
       rwa [← hjj,List.take_of_length_le (by rw [HWL.out];exact Nat.le_refl _)] at this)
     have HOF:Hid (wr.ownsRow w.heap.size 4 1 (.slice na m.b.length nc) m.b.length (bovals (noneD m.b p))):=Lib.hid (by
       have:=owns_lower HO.out HB1.out.size
       rwa [← hjj,List.take_of_length_le (by rw [HNL.out];exact Nat.le_refl _)] at this)
     have HBF:Hid (Below w.heap.size w wr):=Lib.hid (HB1.out.trans (HB.out.mono HB1.out.size))
     clear HGR HO HGX HB
     subst hjj
     go_wp2_with fail
     go_ret3
     exact ⟨a,c,vs,na,nc,rfl,HBF.out,HGF.out,HOF.out⟩
end
section
open Go.RowKit Go.Shelf
set_option linter.unusedVariables false
set_option linter.unusedSimpArgs false
attribute [local go_sem] Oper.semAt_some
theorem wantL_take (b:List (List Int)) (p:List Int) (j:Nat) (hj:j<b.length):(JM.wantL b p).take (j+1)=(JM.wantL b p).take j ++ [if (noneD b p).getD j false=true then [] else (wantsD b p).getD j []]:=by
 rw [List.take_succ_eq_append_getElem (by rw [JM.wantL_length];exact hj)]
 congr 2
 simp [JM.wantL,mixU,hj]
theorem own_at {w:World} {B e n c:Nat} {a:Option Addr} {xs:List Value} (h:w.ownsRow B e 1 (.slice a n c) n xs) (hn:1≤n):∃ g,a=some ⟨g,0,none⟩:=by
 rcases h.2 with ⟨h0,h1⟩ | ⟨g,cap,cur,hv,_⟩
 · obtain ⟨_,h2,_⟩:=Value.slice.inj h0;omega
 · cases hv;exact ⟨g,rfl⟩
def StpT (m:MkC) (p:List Int) (w:World) (e:Ending) (W:World):Prop:=∃ a c out is,e=.returned (.tuple #[.slice a p.length c,.bool is,.int .i64 0])∧Below w.heap.size w W∧IsI W a p.length c out∧StepP m.b p (JM.wantL m.b p) (JM.mustL m.b p) out is
set_option maxRecDepth 100000 in
set_option maxHeartbeats 32000000 in
theorem r13step_any (x:MkA) (m:MkC) (pa:Option Addr) (pn pc:Nat) (p:List Int) (w:World) (h:MkT w x m) (hp:IsI w pa pn pc p) (hpo:PrOk p) (hpm:JM.PrM m.r m.b p) :
   Calls Tryz.prog 90 #[.agg x.cells.toArray,.slice pa pn pc] w (StpT m p w):=by
 obtain ⟨ra,rn,rc,ba,bn,bc,bv,oa,on,oc⟩:=x
 have hr:=h.v.r.1
 have hbb:=h.v.b
 have ho:=h.v.o.1
 unfold MkA.cells
 dsimp only at hr hbb ho ⊢
 obtain rfl:=hr.1
 obtain rfl:=hbb.1
 obtain rfl:=ho.1
 obtain rfl:=hp.1
 have hmo:=mktB_ok h.ok
 have hn8:=hmo.hn
 have hk8:=hmo.hk
 have hpl:=hpm.pl
 have HQ:Hid (mktB m=true):=Lib.hid h.ok
 have hb0:Below w.heap.size w (w.alloc (.cells #[.slice ra m.r.length rc,.slice ba m.b.length bc,.slice oa m.o.length oc] 25)):=(Below.refl _ _).alloc (Nat.le_refl _) _
 have hv:=heap_new w (.cells #[.slice ra m.r.length rc,.slice ba m.b.length bc,.slice oa m.o.length oc] 25 (0,0))
 have HM:=Lib.hid (h.below hb0)
 have HP:=Lib.hid (hp.below hb0)
 have HPO:=Lib.hid hpo
 have HPM:=Lib.hid hpm
 have HPL:=Lib.hid hpl
 have d3:((p.length:Int) != (m.r.length:Int))=false:=by rw [hpl];simp
 clear h hr hbb ho hmo hp hpo hpm
 go_enter Tryz.func90,Tryz.ntmps90
 go_wp2_with fail
 generalize w.alloc (.cells #[.slice ra m.r.length rc,.slice ba m.b.length bc,.slice oa m.o.length oc] 25)=W at hb0 hv HM HP ⊢
 have c0:W.cell? ⟨w.heap.size,0,none⟩=some (.slice ra m.r.length rc):=by rw [cell_of_block hv];rfl
 have c1:W.cell? ⟨w.heap.size,1,none⟩=some (.slice ba m.b.length bc):=by rw [cell_of_block hv];rfl
 have c2:W.cell? ⟨w.heap.size,2,none⟩=some (.slice oa m.o.length oc):=by rw [cell_of_block hv];rfl
 have HB0:=Lib.hid hb0
 clear hb0 hv hpl
 go_wp2_with fail
 refine (r05check_any ⟨ra,m.r.length,rc,ba,m.b.length,bc,bv,oa,m.o.length,oc⟩ m W HM.out.v (by omega)).mono ?_
 rw [HQ.out]
 rintro e w1 ⟨rfl,hb1⟩
 have k0:=cell_later hb1 c0
 have k1:=cell_later hb1 c1
 have k2:=cell_later hb1 c2
 have HB1:=Lib.hid (HB0.out.trans (hb1.mono HB0.out.size))
 have HP1:Hid (IsI w1 pa p.length pc p):=Lib.hid (HP.out.below hb1)
 have HM1:=Lib.hid (HM.out.below hb1)
 obtain ⟨N,hN⟩:∃ N,N=m.b.length:=⟨_,rfl⟩
 have HN:=Lib.hid hN
 obtain ⟨NP,hNP⟩:∃ NP,NP=p.length:=⟨_,rfl⟩
 have HNP:=Lib.hid hNP
 have hp8:=HPO.out.l8
 clear hb1 c0 c1 c2 hN hNP HM HP
 go_wp2_with fail
 go_loopw [7] (fun i wr => ∃ q:Nat,q≤p.length∧i=.int .i64 (q:Int)∧Hid (Below w1.heap.size w1 wr)) (fun i _=>NP - (intOf i).toNat)
 case atStart=>exact ⟨0,Nat.zero_le _,rfl,Lib.hid (Below.refl _ _)⟩
 case round =>
   obtain ⟨q,hq,rfl,HB⟩:=hrel
   have r0:=cell_later HB.out k0
   by_cases hlq:q<p.length
   · have hqr:q<m.r.length:=by have:=HPL.out;omega
     obtain ⟨b1,o1,rfl,hb1,e1⟩:=(HP1.out.below HB.out).at q hlq
     obtain ⟨b2,o2,rfl,hb2,e2⟩:=(HM1.out.below HB.out).r.at q hqr
     have h1:=HPM.out.pos q hqr
     unfold JM.ov at h1
     rw [getD_get hlq,getD_get hqr] at h1
     have h2:=HPO.out.b _ (List.getElem_mem hlq)
     have d4:decide (p[q]<m.r[q])=false:=decide_eq_false (by omega)
     have d5:decide ((2000000:Int)<p[q])=false:=decide_eq_false (by omega)
     generalize p[q]=y at e1 d4 d5 h2
     generalize m.r[q]=z at e2 d4
     have HB2:Hid (Below w1.heap.size w1 wr.drew):=Lib.hid HB.out.drew
     clear h1 hb1 hb2
     go_wp2_with fail
     go_region
     go_wp2_with fail
     go_roundw
     case rel=>exact ⟨q+1,by omega,by go_num,HB2⟩
     case measure=>have:=HNP.out;simp [intOf];omega
   · as_aux_lemma =>
     have hqq:q=p.length:=by omega
     have r1:=cell_later HB.out k1
     have r2:=cell_later HB.out k2
     have HM2:=Lib.hid (HM1.out.below HB.out)
     have HP2:=Lib.hid (HP1.out.below HB.out)
     have HB2:=Lib.hid (HB1.out.trans (HB.out.mono HB1.out.size))
     rw [hqq]
     clear hqq hq hlq HB HM1 HP1 HB1 k0 k1 k2
     generalize wr=V0 at HM2 HP2 HB2 r0 r1 r2 ⊢
     go_wp2_with fail
     refine (r12all_any ⟨ra,m.r.length,rc,ba,m.b.length,bc,bv,oa,m.o.length,oc⟩ m pa p.length pc p V0 HM2.out HP2.out HPO.out HPL.out).mono ?_
     rintro e V ⟨ia,ic,iv,na,nc,rfl,hbV,hgi,hno⟩
     have HGI:=Lib.hid hgi
     have HNO:=Lib.hid hno
     have HBV:=Lib.hid (HB2.out.trans (hbV.mono HB2.out.size))
     have HMV:=Lib.hid (HM2.out.below hbV)
     have HPV:=Lib.hid (HP2.out.below hbV)
     have v1:=cell_later hbV r1
     have HWL:Hid ((wantsD m.b p).length=m.b.length):=Lib.hid (by simp [wantsD])
     have HNL:Hid ((noneD m.b p).length=m.b.length):=Lib.hid (by simp [noneD])
     clear hgi hno hbV r0 r1 r2 HM2 HP2 HB2
     go_wp2_with fail
     go_loopw [11,12,13] (fun so gr i wr => ∃ (j:Nat) (sa ga:Option Addr) (sc gc:Nat),j≤m.b.length∧i=.int .i64 (j:Int)∧so=.slice sa (mustU (noneD m.b p) j).length sc∧gr=.slice ga j gc∧Hid (∃ vs,wr.ownsRow V.heap.size 22 1 (.slice ga j gc) j vs∧IIT V vs ((JM.wantL m.b p).take j))∧Hid (wr.ownsRow V.heap.size 3 1 (.slice sa (mustU (noneD m.b p) j).length sc) (mustU (noneD m.b p) j).length (icells (mustU (noneD m.b p) j)))∧Hid (Below V.heap.size V wr)) (fun _ _ i _=>N - (intOf i).toNat)
     case atStart=>exact ⟨0,none,none,0,0,Nat.zero_le _,rfl,rfl,rfl,Lib.hid ⟨[],World.ownsRow_nil _ _ _ _,IIT.nil V⟩,Lib.hid (World.ownsRow_nil _ _ _ _),Lib.hid (Below.refl _ _)⟩
     case round =>
       obtain ⟨j,sa,ga,sc,gc,hj,rfl,rfl,rfl,HGX,HSO,HB⟩:=hrel
       obtain ⟨vs,hgo,hgi⟩:=HGX.out
       have HGR:=Lib.hid hgi
       have HGO:=Lib.hid hgo
       have hml:=mustU_len (noneD m.b p) j
       have hVw:=HB.out.size
       clear hgi hgo
       by_cases hlt:j<m.b.length
       · obtain ⟨gn,rfl⟩:=own_at HNO.out (by omega)
         have hjn:j<(noneD m.b p).length:=by rw [HNL.out];exact hlt
         have cn:=cell_later HB.out (cells_of_owns HNO.out j _ (bovals_get hjn))
         have hT:=wantL_take m.b p j hlt
         have hU:=mustU_succ (noneD m.b p) j
         rw [getD_get hjn] at hT hU
         generalize (noneD m.b p)[j]=bb at cn hT hU
         cases bb with
         | true =>
           rw [if_pos rfl] at hT hU
           rw [List.append_nil] at hU
           have HT:=Lib.hid hT
           have HU:=Lib.hid hU
           have hgo:=HGO.out
           clear hT hU
           go_wp2_with (at_builtin
                        refine wpList_append_any rowII rfl (.tmp 78) (.tmp 79) rfl V.heap.size (.slice ga j gc) j vs rfl (hgo.alloc _) (some ⟨wr.heap.size,0,none⟩) 1 1 [.slice none 0 0] rfl rfl (At.one _ _ _) (one_cell _ rfl) (by unfold maxLen;omega) (by omega) (Nat.le_trans hVw (by simp)) ?_
                        intro b8 c8 w8 ho8 hg8 _
                        have HB8:=Lib.hid ((HB.out.alloc hVw _).grown hg8 (by simp;omega) (fun k hk=>owns_base hgo k hk))
                        have HG8:Hid (∃ vs,w8.ownsRow V.heap.size 22 1 (.slice b8 (j+1) c8) (j+1) vs∧IIT V vs ((JM.wantL m.b p).take (j+1))):=Lib.hid ⟨_,ho8,by rw [HT.out];exact HGR.out.snoc (IsT.nil V)⟩
                        have HS8:=Lib.hid (owns_grow HSO.out hgo (by decide) hg8)
                        clear ho8 hg8)
           go_roundw
           case rel=>exact ⟨j+1,sa,b8,sc,c8,by omega,by go_num,by rw [HU.out],rfl,HG8,by rw [HU.out];exact HS8,HB8⟩
           case measure=>have:=HN.out;simp [intOf];omega
         | false =>
           rw [if_neg (by decide)] at hT hU
           have hjw:j<(wantsD m.b p).length:=by rw [HWL.out];exact hlt
           rw [getD_get hjw] at hT
           have HT:=Lib.hid hT
           have HU:=Lib.hid hU
           obtain ⟨gi,rfl⟩:=own_at HGI.out.1 (by omega)
           obtain ⟨x5,y5,z5,e5,hI5⟩:=HGI.out.2.2 j hjw
           have ci:=cell_later HB.out (cells_of_owns HGI.out.1 j _ e5)
           have HI5:=Lib.hid hI5
           have hgo:=HGO.out
           generalize (wantsD m.b p)[j]=wl at HT HI5
           generalize mustU (noneD m.b p) j=mu at HSO HU hml ⊢
           clear hT hU e5 hI5
           go_wp2_with (at_builtin
                        first
                          | (refine wpList_append_any rowII rfl (.tmp 81) (.tmp 86) rfl V.heap.size (.slice ga j gc) j vs rfl (hgo.alloc _) (some ⟨wr.heap.size,0,none⟩) 1 1 [.slice x5 y5 z5] rfl rfl (At.one _ _ _) (one_cell _ rfl) (by unfold maxLen;omega) (by omega) (Nat.le_trans hVw (by simp)) ?_
                             intro b8 c8 w8 ho8 hg8 _
                             have HB8:=Lib.hid ((HB.out.alloc hVw _).grown hg8 (by simp;omega) (fun k hk=>owns_base hgo k hk))
                             have HG8:Hid (w8.ownsRow V.heap.size 22 1 (.slice b8 (j+1) c8) (j+1) (vs ++ [.slice x5 y5 z5])∧IIT V (vs ++ [.slice x5 y5 z5]) ((JM.wantL m.b p).take (j+1))):=Lib.hid ⟨ho8,by rw [HT.out];exact HGR.out.snoc HI5.out⟩
                             have hso8:=owns_grow HSO.out hgo (by decide) hg8
                             have hbz8:=HB8.out.size
                             clear ho8 hg8)
                          | (refine wpList_append_any rowInt rfl (.tmp 88) (.tmp 90) rfl V.heap.size (.slice sa mu.length sc) mu.length (icells mu) rfl (hso8.alloc _) (some ⟨w8.heap.size,0,none⟩) 1 1 [.int .i64 (j:Int)] rfl rfl (At.one _ _ _) (one_cell _ rfl) (by unfold maxLen;omega) (by omega) (Nat.le_trans hbz8 (by simp)) ?_
                             intro b9 c9 w9 ho9 hg9 _
                             have HB9:=Lib.hid ((HB8.out.alloc hbz8 _).grown hg9 (by simp;omega) (fun k hk=>owns_base hso8 k hk))
                             have HG9:Hid (∃ vs,w9.ownsRow V.heap.size 22 1 (.slice b8 (j+1) c8) (j+1) vs∧IIT V vs ((JM.wantL m.b p).take (j+1))):=Lib.hid ⟨_,owns_grow HG8.out.1 hso8 (by decide) hg9,HG8.out.2⟩
                             have HS9:Hid (w9.ownsRow V.heap.size 3 1 (.slice b9 (mu.length+1) c9) (mu.length+1) (icells (mu ++ [(j:Int)]))):=Lib.hid (by rw [icells_append];exact ho9)
                             clear ho9 hg9))
           go_roundw
           case rel=>exact ⟨j+1,b9,b8,c9,c8,by omega,by go_num,by rw [HU.out,List.length_append];rfl,rfl,HG9,by rw [HU.out,List.length_append];exact HS9,HB9⟩
           case measure=>have:=HN.out;simp [intOf];omega
       · as_aux_lemma =>
         have hjj:j=m.b.length:=by omega
         rw [hjj] at HGR HGO HSO ⊢
         have HGF:Hid (IsIL wr ga m.b.length gc (JM.wantL m.b p)):=Lib.hid (by
           have h1:=HGR.out
           rw [List.take_of_length_le (by rw [JM.wantL_length];exact Nat.le_refl _)] at h1
           exact Gr.isIL ⟨HGO.out,h1.below HB.out⟩ (by rw [JM.wantL_length]))
         have HSF:Hid (IsI wr sa (JM.mustL m.b p).length sc (JM.mustL m.b p)):=Lib.hid (isI_of_owns HSO.out rfl)
         have HPW:=Lib.hid (HPV.out.below HB.out)
         have HMW:=Lib.hid (HMV.out.below HB.out)
         have HBW:=Lib.hid (HBV.out.trans (HB.out.mono HBV.out.size))
         have v1w:=cell_later HB.out v1
         have hmu8:(JM.mustL m.b p).length≤8:=Nat.le_trans (mustU_len (noneD m.b p) m.b.length) hn8.2
         obtain ⟨mu,hmu⟩:∃ mu,mu=JM.mustL m.b p:=⟨_,rfl⟩
         have HMU:=Lib.hid hmu
         rw [show mustU (noneD m.b p) m.b.length=mu from hmu.symm]
         rw [← hmu] at HSF hmu8
         obtain ⟨L,hL⟩:∃ L,L=JM.wantL m.b p:=⟨_,rfl⟩
         have HLL:=Lib.hid hL
         rw [← hL] at HGF
         have HFH:Hid (FarH m.b p L mu):=Lib.hid (by rw [hL,hmu];exact HPM.out.farH)
         have HGK:Hid (GOk L p.length):=Lib.hid (by rw [hL];exact HPM.out.gok)
         have HMR:Hid (RisL mu L.length):=Lib.hid (by rw [hL,hmu,JM.wantL_length];exact HPM.out.mustR)
         have HPOS:Hid (∀ i:Nat,(i:Int) ∈ mu→∀ l:List Int,∀ z ∈ farRow l (m.b.getD i []) p (L.getD i []),1≤z):=Lib.hid (fun i hi l=>by
           rw [hmu] at hi
           obtain ⟨h1,h2⟩:=(HPM.out.must i).1 hi
           rw [hL]
           exact HPM.out.rowPos i h1 h2)
         clear hjj hj hlt HGX HSO HGR HGO HGI HNO HPV HMV HBV v1 hml HB hVw hmu hL HWL HNL
         generalize wr=V3 at HGF HSF HPW HMW HBW v1w ⊢
         go_wp2_with (at_builtin
                      refine wpList_append_any rowInt rfl (.const (.slice none 0 0)) (.tmp 92) rfl V3.heap.size (.slice none 0 0) 0 [] rfl (World.ownsRow_nil _ _ _ _) pa p.length pc (icells p) rfl (by rw [icells_length,Nat.mul_one]) HPW.out.at' (icells_one _) (by unfold maxLen;omega) (by omega) (Nat.le_refl _) ?_
                      intro g7 c7 w7 ho7 hg7 _
                      have hb7:Below V3.heap.size V3 w7:=(Below.refl _ _).grown hg7 (Nat.le_refl _) (fun k hk=>by cases hk)
                      rw [Nat.zero_add,List.nil_append] at ho7
                      have HO7:=Lib.hid ho7
                      have HB7:=Lib.hid hb7
                      simp only [Nat.zero_add]
                      clear ho7 hg7 hb7)
         obtain ⟨g,rfl⟩:=own_at HO7.out HPO.out.l1
         have HG7:Hid (g<w7.heap.size∧V3.heap.size≤g):=Lib.hid ⟨by obtain ⟨cur,hcu⟩:=owns_block HO7.out (k:=g) rfl;exact lt_of_heap hcu,owns_base HO7.out g rfl⟩
         refine (r09few_any ga sa m.b.length gc mu.length sc L p.length mu w7 (HGF.out.below HB7.out) HGK.out (HSF.out.below HB7.out) HMR.out).mono ?_
         rintro e w8 ⟨xa,l,lc,is,rfl,hb8,hi8,hf8,hx8⟩
         have HB8:=Lib.hid (HB7.out.trans (hb8.mono HB7.out.size))
         have HO8:=Lib.hid (owns_below HO7.out hb8)
         have HI8:=Lib.hid hi8
         have HF8:=Lib.hid hf8
         have HX8:=Lib.hid hx8
         have HBW8:Hid (Below w.heap.size w w8):=Lib.hid (HBW.out.trans (HB8.out.mono HBW.out.size))
         have hll:=hi8.len
         clear hb8 hi8 hf8 hx8 HO7 HB7
         cases is with
         | false =>
           have HE:Hid (IsI w8 (some ⟨g,0,none⟩) p.length c7 p∧StepP m.b p (JM.wantL m.b p) (JM.mustL m.b p) p false):=Lib.hid ⟨isI_of_owns HO8.out rfl,by
             have h9:=HF8.out
             rw [HLL.out,HMU.out] at h9
             unfold FewP at h9
             unfold StepP FewP
             obtain ⟨rfl,h⟩:=h9
             exact ⟨⟨rfl,h⟩,rfl⟩⟩
           go_wp2_with fail
           go_ret3
           exact ⟨some ⟨g,0,none⟩,c7,p,false,rfl,HBW8.out,HE.out.1,HE.out.2⟩
         | true =>
           as_aux_lemma =>
           have HRL:Hid (RisL l p.length∧1≤(farU l m.b p L mu mu.length).length):=Lib.hid (by
             obtain ⟨m',h1,h2,h3,h4⟩:=HF8.out
             exact ⟨(setsL_ris.1 h2).2,farU_some (by omega)⟩)
           have HUB:Hid (∀ j,∀ z ∈ farU l m.b p L mu j,-4000000≤z∧z≤4000000):=Lib.hid (fun j=>farU_bd (fun l hl=>(bidB_bd ((mktB_bd HQ.out).2.2.2.2 l hl)).2.2) HPO.out.b)
           have HKW:Hid (∀ W',Below w8.heap.size w8 W'→IsIL W' ga m.b.length gc L∧IsI W' sa mu.length sc mu∧IsI W' pa p.length pc p∧IsIL W' ba m.b.length bc m.b∧W'.cell? ⟨w.heap.size,1,none⟩=some (.slice ba m.b.length bc)∧IsI W' xa l.length lc l∧Below w.heap.size w W'):=Lib.hid (fun W' hW=>by
             have h9:=HB8.out.trans (hW.mono HB8.out.size)
             exact ⟨HGF.out.below h9,HSF.out.below h9,HPW.out.below h9,(HMW.out.below h9).v.b.isIL,cell_later h9 v1w,HI8.out.below hW,HBW8.out.trans (hW.mono HBW8.out.size)⟩)
           obtain ⟨M,hM⟩:∃ M,M=mu.length:=⟨_,rfl⟩
           have HM:=Lib.hid hM
           clear v1w hM
           go_wp2_with fail
           go_loopw [18,19,20,21,22,23,24,25] (fun bv k s20 s21 s22 s23 s24 s25 wr => ∃ (kk:Nat) (z:Int),kk≤mu.length∧bv=.int .i64 z∧k=.int .i64 (kk:Int)∧Hid (JM.ByJ (farU l m.b p L mu kk) z)∧Hid (Below w8.heap.size w8 wr)) (fun _ k _ _ _ _ _ _ _=>M - (intOf k).toNat)
           case atStart=>exact ⟨0,-1,Nat.zero_le _,rfl,rfl,Lib.hid (by unfold farU;simp only [List.take_zero,List.flatMap_nil];exact JM.ByJ.nil),Lib.hid (Below.refl _ _)⟩
           case round =>
             obtain ⟨kk,z,hkk,rfl,rfl,HZ,HB⟩:=hrel
             have hzl:=HZ.out.low
             by_cases hlk:kk<mu.length
             · as_aux_lemma =>
               obtain ⟨i,ei,hi,hiL,hbl,hw1,hwk⟩:=HFH.out.2 kk hlk
               obtain ⟨e1,e2,e3,e4,e5,e6,e7⟩:=HKW.out w8 (Below.refl _ _)
               obtain ⟨b2,o2,e9,_,d2⟩:=e2.at kk hlk
               subst e9
               obtain ⟨b3,o3,x3,z3,e9,_,d3,hI3⟩:=e1.at hiL
               subst e9
               obtain ⟨b4,o4,x4,z4,e9,_,d4,hI4⟩:=e4.at hi
               subst e9
               have c2:=cell_later HB.out d2
               have c3:=cell_later HB.out d3
               have c4:=cell_later HB.out d4
               have c5:=cell_later HB.out e5
               have HC5:=Lib.hid e5
               have HC4:=Lib.hid d4
               clear e5
               have hU:=farU_succ l m.b p L mu kk hlk
               have hP:=HPOS.out i (by rw [← ei];exact List.getElem_mem hlk) l
               rw [ei] at c2 hU
               rw [Int.toNat_natCast,getD_get hi,getD_get hiL] at hU
               rw [getD_get hi,getD_get hiL] at hP
               have hwl8:L[i].length≤8:=by have:=(HGK.out.hl _ (List.getElem_mem hiL)).len;omega
               have HU:=Lib.hid hU
               have HPZ:=Lib.hid hP
               have HWK:=Lib.hid hwk
               have HI3:=Lib.hid (hI3.below HB.out)
               have HI4:=Lib.hid (hI4.below HB.out)
               have HI48:=Lib.hid hI4
               have hbd:∀ y ∈ m.b[i],0≤y∧y≤1000000:=(bidB_bd ((mktB_bd HQ.out).2.2.2.2 _ (List.getElem_mem hi))).2.2
               have HBD:=Lib.hid hbd
               have HP5:=Lib.hid (e3.below HB.out)
               have HX5:=Lib.hid (e6.below HB.out)
               have HP58:=Lib.hid e3
               have HX58:=Lib.hid e6
               have hlkc:=hlk
               generalize L[i]=wl at d3 c3 hI3 HI3 HU HPZ HWK hw1 hwl8
               generalize m.b[i]=bid at d4 c4 HC4 HI4 HI48 hI4 HU HPZ HBD hbl
               clear hU hP hwk hI3 hI4 hbd ei e1 e2 e3 e4 e6 e7 hiL d2 d3 d4
               go_wp2_with fail
               go_loop [21,22] (fun al k => ∃ q:Nat,q≤wl.length∧al=.bool ((wl.take q).all fun k=>decide (k ∈ l))∧k=.int .i64 (q:Int)) (fun _ k=>wl.length - (intOf k).toNat)
               case atStart=>exact ⟨0,Nat.zero_le _,by simp,rfl⟩
               case round =>
                 obtain ⟨q,hq,rfl,rfl⟩:=hrel
                 by_cases hlq:q<wl.length
                 · obtain ⟨b6,o6,e9,_,c6⟩:=HI3.out.at q hlq
                   subst e9
                   have HA:Hid (((wl.take (q+1)).all fun k=>decide (k ∈ l))=(((wl.take q).all fun k=>decide (k ∈ l)) && decide (wl[q] ∈ l))):=Lib.hid (by
                     rw [List.take_succ_eq_append_getElem hlq,List.all_append];simp)
                   generalize wl[q]=y at c6 HA
                   cases hal:((wl.take q).all fun k=>decide (k ∈ l)) with
                   | false =>
                     have HA2:Hid (((wl.take (q+1)).all fun k=>decide (k ∈ l))=false):=Lib.hid (by rw [HA.out,hal];rfl)
                     clear hal HA
                     go_wp2_with fail
                     go_round
                     case rel=>exact ⟨q+1,by omega,by rw [HA2.out],by go_num⟩
                     case measure=>simp [intOf];omega
                   | true =>
                     have HA2:Hid (((wl.take (q+1)).all fun k=>decide (k ∈ l))=decide (y ∈ l)):=Lib.hid (by rw [HA.out,hal];simp)
                     clear hal HA
                     go_wp2_with fail
                     refine (rin_any xa l.length lc l y _ HX5.out).mono ?_
                     rintro e w5 ⟨rfl,rfl⟩
                     generalize decide (y ∈ l)=bv at HA2
                     go_wp2_with fail
                     go_round
                     case rel=>exact ⟨q+1,by omega,by rw [HA2.out],by go_num⟩
                     case measure=>simp [intOf];omega
                 · as_aux_lemma =>
                   have hqq:q=wl.length:=by omega
                   rw [hqq,List.take_length]
                   clear hqq hq hlq
                   have HAN:Hid (wl.any (fun z => !decide (z ∈ l)) = !(wl.all fun k=>decide (k ∈ l))):=Lib.hid (by rw [List.all_eq_not_any_not,Bool.not_not])
                   cases hwa:(wl.all fun k=>decide (k ∈ l)) with
                   | false =>
                     have HZ2:Hid (JM.ByJ (farU l m.b p L mu (kk+1)) z):=Lib.hid (by
                       rw [HU.out]
                       unfold farRow
                       rw [HAN.out,hwa,if_pos (by decide),List.append_nil]
                       exact HZ.out)
                     clear hwa
                     go_wp2_with fail
                     go_roundw
                     case rel=>exact ⟨kk+1,z,by omega,rfl,by go_num,HZ2,HB⟩
                     case measure=>have:=HM.out;simp [intOf];omega
                   | true =>
                     as_aux_lemma =>
                     obtain ⟨k0,ek0,hk0p⟩:=HWK.out _ (List.getElem_mem (show 0<wl.length by omega))
                     obtain ⟨b6,o6,e9,_,c6⟩:=HI3.out.at 0 (by omega)
                     subst e9
                     rw [ek0,Nat.add_zero] at c6
                     have hw0:0<wl.length:=by omega
                     have hk0b:k0<bid.length:=by omega
                     obtain ⟨b7,o7,e9,_,c7⟩:=HI4.out.at k0 hk0b
                     subst e9
                     obtain ⟨b8,o8,e9,_,c8⟩:=HP5.out.at k0 hk0p
                     subst e9
                     have hg0:gainI bid p k0=bid[k0] - p[k0]:=by unfold gainI;rw [getD_get hk0b,getD_get hk0p]
                     have hb0b:=HBD.out _ (List.getElem_mem hk0b)
                     have hp0b:=HPO.out.b _ (List.getElem_mem hk0p)
                     have HROW:Hid (farRow l bid p wl=farG l bid p (gainI bid p k0) p.length):=Lib.hid (by
                       unfold farRow
                       rw [HAN.out,hwa,if_neg (by decide),getD_get (show 0<wl.length by omega),ek0,Int.toNat_natCast])
                     rw [hg0] at HROW
                     generalize bid[k0]=xb at c7 hb0b HROW
                     generalize p[k0]=xp at c8 hp0b HROW
                     have hw1g:IntKind.i64.wrap (xb - xp)=xb - xp:=IntWalk.i64_in _ (by omega)
                     have HB2:Hid (Below w8.heap.size w8 wr.drew):=Lib.hid HB.out.drew
                     clear hwa hg0 ek0
                     go_wp2_with fail
                     go_region
                     go_wp2_with fail
                     have hgvb:-2000000≤xb - xp∧xb - xp≤1000000:=by omega
                     clear hw1g
                     generalize xb - xp=gv at HROW hgvb ⊢
                     clear hb0b hp0b
                     as_aux_lemma =>
                     have HPOSF:Hid (∀ z ∈ farG l bid p gv p.length,1≤z):=Lib.hid (by rw [← HROW.out];exact HPZ.out)
                     have HUU:Hid (farU l m.b p L mu (kk+1)=farU l m.b p L mu kk ++ farG l bid p gv p.length):=Lib.hid (by rw [HU.out,HROW.out])
                     have HGB:Hid (∀ j,j<p.length→∃ (h1:j<bid.length) (h2:j<p.length),gainI bid p j=bid[j] - p[j]∧(0≤bid[j]∧bid[j]≤1000000)∧0≤p[j]∧p[j]≤2000000):=Lib.hid (fun j hj=>by
                       have h1:j<bid.length:=by omega
                       exact ⟨h1,hj,by unfold gainI;rw [getD_get h1,getD_get hj],HBD.out _ (List.getElem_mem h1),HPO.out.b _ (List.getElem_mem hj)⟩)
                     have HFB:Hid (∀ j,j≤p.length→∀ y ∈ farG l bid p gv j,-4000000≤y∧y≤4000000):=Lib.hid (fun j hj y hy=>by
                       rcases JM.mem_farG.1 hy with rfl | ⟨k,hk,_,rfl⟩
                       · omega
                       · obtain ⟨_,_,h3,h4,h5⟩:=HGB.out k (by omega)
                         rw [h3];omega)
                     generalize wr.drew=w10 at HB2 ⊢
                     clear HB c2 c3 c4 c5 c6 c7 c8 HP5 HX5 HI3 HI4
                     go_loopw [24,25] (fun fa jj wq => ∃ (j:Nat) (y:Int),j≤p.length∧fa=.int .i64 y∧jj=.int .i64 (j:Int)∧Hid (JM.MinJ (farG l bid p gv j) y)∧Hid (Below w8.heap.size w8 wq)) (fun _ jj _=>NP - (intOf jj).toNat)
                     case atStart=>exact ⟨0,gv,Nat.zero_le _,rfl,rfl,Lib.hid (by rw [farG_zero];exact JM.MinJ.one _),HB2⟩
                     case round =>
                       obtain ⟨j,y,hj,rfl,rfl,HY,HBq⟩:=hrel
                       have hyb:=HFB.out j hj y HY.out.1
                       by_cases hlj:j<p.length
                       · as_aux_lemma =>
                         have c5:=cell_later HBq.out HC5.out
                         have c4:=cell_later HBq.out HC4.out
                         obtain ⟨hjb,_,hgn,hbb,hpb⟩:=HGB.out j hlj
                         obtain ⟨b7,o7,e9,_,c7⟩:=(HI48.out.below HBq.out).at j hjb
                         cases e9
                         obtain ⟨b8,o8,e9,_,c8⟩:=(HP58.out.below HBq.out).at j hlj
                         cases e9
                         have hS:=farG_succ l bid p gv j
                         rw [hgn] at hS
                         generalize bid[j]=xj at c7 hbb hS
                         generalize p[j]=pj at c8 hpb hS
                         have hwa1:IntKind.i64.wrap (xj - pj)=xj - pj:=IntWalk.i64_in _ (by omega)
                         have hwa2:IntKind.i64.wrap (gv - (xj - pj))=gv - (xj - pj):=IntWalk.i64_in _ (by omega)
                         have HIW:Hid (∀ W',Below w8.heap.size w8 W'→IsI W' xa l.length lc l):=Lib.hid (fun W' hW=>HX58.out.below hW)
                         by_cases hin:(j:Int) ∈ l
                         · as_aux_lemma =>
                           have HCI:Hid (∀ W',Below w8.heap.size w8 W'→Calls Tryz.prog 106 #[.slice xa l.length lc,.int .i64 (j:Int)] W' fun e w' => e=.returned (.bool true)∧w'=W'):=Lib.hid (fun W' hW=>by
                             have h9:=rin_any xa l.length lc l (j:Int) W' (HIW.out W' hW)
                             rw [decide_eq_true hin] at h9
                             exact h9.mono fun e w' h=>⟨h.1,h.2.symm⟩)
                           rw [if_pos hin,List.append_nil] at hS
                           have HM2:Hid (JM.MinJ (farG l bid p gv (j+1)) y):=Lib.hid (by rw [hS];exact HY.out)
                           clear hS hin
                           go_wp2_with fail
                           go_quiet ((go_at_call 106;exact Calls.quiet_of_same (HCI.out _ (below_drewN HBq.out _))))
                           all_goals
                             go_wp2_with fail
                             go_roundw
                             case rel=>exact ⟨j+1,y,by omega,rfl,by go_num,HM2,Lib.hid (below_drewN HBq.out nq)⟩
                             case measure=>have:=HNP.out;simp [intOf];omega
                         · as_aux_lemma =>
                           have HCI:Hid (∀ W',Below w8.heap.size w8 W'→Calls Tryz.prog 106 #[.slice xa l.length lc,.int .i64 (j:Int)] W' fun e w' => e=.returned (.bool false)∧w'=W'):=Lib.hid (fun W' hW=>by
                             have h9:=rin_any xa l.length lc l (j:Int) W' (HIW.out W' hW)
                             rw [decide_eq_false hin] at h9
                             exact h9.mono fun e w' h=>⟨h.1,h.2.symm⟩)
                           rw [if_neg hin] at hS
                           by_cases hlt2:gv - (xj - pj)<y
                           · have dv:decide (gv - (xj - pj)<y)=true:=decide_eq_true hlt2
                             have HM2:Hid (JM.MinJ (farG l bid p gv (j+1)) (gv - (xj - pj))):=Lib.hid (by rw [hS];exact HY.out.take hlt2)
                             clear hS hin
                             go_wp2_with fail
                             go_quiet ((go_at_call 106;exact Calls.quiet_of_same (HCI.out _ (below_drewN HBq.out _))))
                             all_goals
                               have HBd:Hid (Below w8.heap.size w8 (wr.drewN nq)):=Lib.hid (below_drewN HBq.out nq)
                               have hbd:=below_drewN (Below.refl wr.heap.size wr) nq
                               have c5':=cell_later hbd c5
                               have c4':=cell_later hbd c4
                               have c7':=cell_later hbd c7
                               have c8':=cell_later hbd c8
                               generalize wr.drewN nq=w11 at HBd c5' c4' c7' c8' ⊢
                               clear hbd c5 c4 c7 c8 nq
                               go_wp2_with fail
                               go_quiet (fail)
                               go_wp2_with fail
                               go_roundw
                               case rel=>exact ⟨j+1,_,by omega,rfl,by go_num,HM2,Lib.hid (below_drewN HBd.out nq)⟩
                               case measure=>have:=HNP.out;simp [intOf];omega
                           · have dv:decide (gv - (xj - pj)<y)=false:=decide_eq_false hlt2
                             have HM2:Hid (JM.MinJ (farG l bid p gv (j+1)) y):=Lib.hid (by rw [hS];exact HY.out.keep (by omega))
                             clear hS hin hlt2
                             go_wp2_with fail
                             go_quiet ((go_at_call 106;exact Calls.quiet_of_same (HCI.out _ (below_drewN HBq.out _))))
                             all_goals
                               go_wp2_with fail
                               go_roundw
                               case rel=>exact ⟨j+1,y,by omega,rfl,by go_num,HM2,Lib.hid (below_drewN HBq.out nq)⟩
                               case measure=>have:=HNP.out;simp [intOf];omega
                       · as_aux_lemma =>
                         have hjp:j=p.length:=by omega
                         rw [hjp] at HY ⊢
                         have hy1:=HPOSF.out y HY.out.1
                         have HUB2:=Lib.hid (HUB.out kk)
                         clear hjp hj hlj
                         by_cases n1:z<0
                         · have e1:decide (z<0)=true:=decide_eq_true n1
                           have HZ2:Hid (JM.ByJ (farU l m.b p L mu (kk+1)) y):=Lib.hid (by rw [HUU.out];exact HZ.out.take HY.out (by omega) (.inl n1))
                           clear n1
                           go_wp2_with fail
                           go_roundw
                           case rel=>exact ⟨kk+1,y,by omega,rfl,by go_num,HZ2,HBq⟩
                           case measure=>have:=HM.out;simp [intOf];omega
                         · have e1:decide (z<0)=false:=decide_eq_false n1
                           by_cases n2:y<z
                           · have e2:decide (y<z)=true:=decide_eq_true n2
                             have HZ2:Hid (JM.ByJ (farU l m.b p L mu (kk+1)) y):=Lib.hid (by rw [HUU.out];exact HZ.out.take HY.out (by omega) (.inr n2))
                             clear n1 n2
                             go_wp2_with fail
                             go_roundw
                             case rel=>exact ⟨kk+1,y,by omega,rfl,by go_num,HZ2,HBq⟩
                             case measure=>have:=HM.out;simp [intOf];omega
                           · have e2:decide (y<z)=false:=decide_eq_false n2
                             have HZ2:Hid (JM.ByJ (farU l m.b p L mu (kk+1)) z):=Lib.hid (by rw [HUU.out];exact HZ.out.keep HY.out (by omega) n1 n2)
                             clear n1 n2
                             go_wp2_with fail
                             go_roundw
                             case rel=>exact ⟨kk+1,z,by omega,rfl,by go_num,HZ2,HBq⟩
                             case measure=>have:=HM.out;simp [intOf];omega
             · as_aux_lemma =>
               have hkl:kk=mu.length:=by omega
               rw [hkl] at HZ ⊢
               have HMN:=Lib.hid (HZ.out.done HRL.out.2)
               have hzb:=HUB.out _ z HMN.out.1
               have HO9:=Lib.hid (owns_below HO8.out HB.out)
               clear hkl hkk hlk HZ HUB
               generalize wr=w9 at HO9 HB ⊢
               go_wp2_with fail
               go_loopw [26] (fun i wr => ∃ j:Nat,j≤l.length∧i=.int .i64 (j:Int)∧Hid (wr.ownsRow V3.heap.size 3 1 (.slice (some ⟨g,0,none⟩) p.length c7) p.length (icells (addU p l z j)))∧Hid (Touch (fun k=>k=g) w9 wr)) (fun i _=>l.length - (intOf i).toNat)
               case atStart=>exact ⟨0,Nat.zero_le _,rfl,Lib.hid (by rw [addU_zero];exact HO9.out),Lib.hid (Touch.refl _ _)⟩
               case round =>
                 obtain ⟨j,hj,rfl,HQ1,HQ2⟩:=hrel
                 by_cases hlt:j<l.length
                 · obtain ⟨b5,off5,e5,hb5,hc5⟩:=(HI8.out.below HB.out).at j hlt
                   subst e5
                   have hne5:b5≠g:=fun e=>by have:=HX8.out b5 off5 rfl;have:=HG7.out.1;omega
                   have k5:=HQ2.out.cell hc5 hne5
                   obtain ⟨q1,q2⟩:=HRL.out.1.at j hlt
                   obtain ⟨k,ek⟩:=Int.eq_ofNat_of_zero_le q1
                   have hkp:k<p.length:=by omega
                   obtain ⟨hs1,hs2⟩:=addU_set (p:=p) (b:=z) HRL.out.1.nodup hlt ek hkp
                   obtain ⟨o1,o2,o3⟩:=owns_iset HQ1.out k (by rw [addU_length];exact hkp) (p[k]+z)
                   rw [hs2] at o2
                   rw [hs1] at o1
                   rw [ek] at k5
                   have hpb:=HPO.out.b _ (List.getElem_mem hkp)
                   generalize p[k]=pk at o1 o2 hpb
                   have HS1:=Lib.hid o1
                   have HS2:Hid (Touch (fun k=>k=g) w9 (wr.setCell ⟨g,k,none⟩ (.int .i64 (pk+z)))):=Lib.hid (HQ2.out.setCell _ _ (.inl rfl))
                   have hw1:IntKind.i64.wrap (pk+z)=pk+z:=IntWalk.i64_in _ (by omega)
                   clear hc5 o1 hs1 hs2 ek q1 q2
                   go_wp2_with fail
                   go_region
                   go_wp2_with fail
                   go_roundw
                   case rel=>exact ⟨j+1,by omega,by go_num,Lib.hid HS1.out,Lib.hid HS2.out.drew⟩
                   case measure=>simp [intOf];omega
                 · have hjj:j=l.length:=by omega
                   subst hjj
                   have HE:Hid (Below w.heap.size w wr):=Lib.hid (by
                     have h39:Below V3.heap.size V3 w9:=HB8.out.trans (HB.out.mono HB8.out.size)
                     have h3r:=h39.trans (HQ2.out.below h39.size (fun k hk e=>by have:=HG7.out.2;omega))
                     exact HBW.out.trans (h3r.mono HBW.out.size))
                   have HS:Hid (StepP m.b p (JM.wantL m.b p) (JM.mustL m.b p) (addU p l z l.length) true∧IsI wr (some ⟨g,0,none⟩) p.length c7 (addU p l z l.length)):=Lib.hid ⟨by
                     have h9:=HF8.out
                     have h8:=HMN.out
                     rw [HLL.out,HMU.out] at h9 h8
                     exact ⟨l,z,h9,h8.1,h8.2,rfl⟩,by have h9:=isI_of_owns HQ1.out (by rw [addU_length]);simpa only [addU_length] using h9⟩
                   go_wp2_with fail
                   go_ret3
                   exact ⟨some ⟨g,0,none⟩,c7,_,true,rfl,HE.out,HS.out.2,HS.out.1⟩
end
end Go.Proofs.YtmmmjohoihpbeaaGreat
