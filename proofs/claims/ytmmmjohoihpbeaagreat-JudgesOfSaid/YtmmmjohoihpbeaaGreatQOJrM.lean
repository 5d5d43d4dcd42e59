/- The document's judges (28): Least;conditions: those typed. -/
import Derived.Test.YtmmmjohoihpbeaaGreatQOJwEwJrK
import Derived.Test.YtmmmjohoihpbeaaGreatQOJrBJrCJrW
import Derived.Test.YtmmmjohoihpbeaaGreatQOJrDJrEJrF
import Derived.Test.YtmmmjohoihpbeaaGreatQOJwLeJwLi
import Derived.StillTailTactics
namespace Go.Proofs.YtmmmjohoihpbeaaGreat
section
open Go.RowKit Go.Shelf
set_option linter.unusedVariables false
set_option linter.unusedSimpArgs false
attribute [local go_sem] Oper.semAt_some
theorem bestV_gnL (r:List Int) (b:List (List Int)):bestV (gnL r b).length r.length (gL (gnL r b))=topV r b:=by
 rw [gnL_length];exact bestV_congr fun i k hi hk=>gL_gnL hi hk
theorem sumG_bd {r:List Int} {b:List (List Int)} {has:List Int} (h:JM.MkOk r b) (hm:JM.Mt b.length r.length (JM.mo has)) {j:Nat} (hj:j≤b.length):-8000000≤JM.sumN j (JM.gval (JM.gn r b) (JM.mo has))∧JM.sumN j (JM.gval (JM.gn r b) (JM.mo has))≤8000000:=by
 have h1:=sumN_bd (n:=j) (f:=JM.gval (JM.gn r b) (JM.mo has)) (B:=1000000) (fun i hi=>by
   cases e:JM.mo has i with
   | none=>rw [JM.gval_none e];decide
   | some k=>rw [JM.gval_some e];exact gn_bd h (by omega) (hm.lt i k (by omega) e))
 have:=h.hn.2
 omega
set_option maxRecDepth 100000 in
set_option maxHeartbeats 16000000 in
theorem r28least_any (x:MkA) (m:MkC) (ha pa:Option Addr) (hn hc pn pc:Nat) (has P:List Int) (w:World) (h:IsMk w (fun _=>True) x m) (hrm:m.r.length≤17592186044416) (hh:IsI w ha hn hc has) (hp:IsI w pa pn pc P) :
   Calls Tryz.prog 15 #[.agg x.cells.toArray,.agg #[.slice ha hn hc,.slice pa pn pc]] w (LstQ m has P w):=by
 obtain ⟨ra,rn,rc,ba,bn,bc,bv,oa,on,oc⟩:=x
 have hr:=h.r.1
 have hbb:=h.b
 have ho:=h.o.1
 unfold MkA.cells
 dsimp only at hr hbb ho ⊢
 obtain rfl:=hr.1
 obtain rfl:=hbb.1
 obtain rfl:=ho.1
 obtain rfl:=hh.1
 obtain rfl:=hp.1
 have hm1:=hh.len
 have hm2:=hp.len
 obtain ⟨hb0,m0,m1⟩:=alloc2_facts w (.cells #[.slice ra m.r.length rc,.slice ba m.b.length bc,.slice oa m.o.length oc] 25 (0,0)) (.cells #[.slice ha has.length hc,.slice pa P.length pc] 27 (0,0))
 have HM:=Lib.hid (h.below hb0)
 have HH:=Lib.hid (hh.below hb0)
 have HP:=Lib.hid (hp.below hb0)
 have HRM:=Lib.hid hrm
 clear h hr hbb ho hh hp hrm
 go_enter Tryz.func15,Tryz.ntmps15
 go_wp2_with fail
 generalize ((w.alloc (.cells #[.slice ra m.r.length rc,.slice ba m.b.length bc,.slice oa m.o.length oc] 25)).alloc (.cells #[.slice ha has.length hc,.slice pa P.length pc] 27))=W at hb0 m0 m1 HM HH HP ⊢
 have HC:Hid (∀ W',Below W.heap.size W W'→W'.cell? ⟨w.heap.size,0,none⟩=some (.slice ra m.r.length rc)∧W'.cell? ⟨w.heap.size,1,none⟩=some (.slice ba m.b.length bc)∧W'.cell? ⟨w.heap.size,2,none⟩=some (.slice oa m.o.length oc)∧W'.cell? ⟨w.heap.size+1,0,none⟩=some (.slice ha has.length hc)∧W'.cell? ⟨w.heap.size+1,1,none⟩=some (.slice pa P.length pc)):=Lib.hid (fun W' hW=>by
   have h0:=below_heap hW m0 (lt_of_heap m0)
   have h1:=below_heap hW m1 (lt_of_heap m1)
   refine ⟨?_,?_,?_,?_,?_⟩ <;> first | (rw [cell_of_block h0];rfl) | (rw [cell_of_block h1];rfl))
 have HB0:=Lib.hid hb0
 obtain ⟨c0,c1,c2,c3,c4⟩:=HC.out W (Below.refl _ _)
 clear hb0 m0 m1
 go_wp2_with fail
 refine (r15even_any ⟨ra,m.r.length,rc,ba,m.b.length,bc,bv,oa,m.o.length,oc⟩ m ha pa has.length hc P.length pc has P W HM.out HRM.out HH.out HP.out).mono ?_
 rintro e w1 ⟨v,rfl,hv,hb1⟩
 have HB1:=Lib.hid hb1
 have HV:=Lib.hid hv
 clear hb1 hv c0 c1 c2 c3 c4
 obtain ⟨k0,k1,k2,k3,k4⟩:=HC.out w1 HB1.out
 cases v with
 | false =>
   have HE:Hid (false=true↔mktB m=true∧LeastC m.r m.b has P):=Lib.hid ⟨(fun e=>by cases e),fun e=>HV.out.2 ⟨e.1,e.2.ev⟩⟩
   have HBE:=Lib.hid (HB0.out.trans (HB1.out.mono HB0.out.size))
   go_wp2_with fail
   go_ret
   exact ⟨false,rfl,HE.out,HBE.out⟩
 | true =>
 have hqe:=HV.out.1 rfl
 have hmo:=mktB_ok hqe.1
 have hk8:=hmo.hk
 have hn8:=hmo.hn
 have hl:=hqe.2.hl
 have pl:=hqe.2.pl
 have HMO:=Lib.hid hmo
 have HQ:=Lib.hid hqe.1
 have HEV:=Lib.hid hqe.2
 have HL:=Lib.hid hl
 have HPL:=Lib.hid pl
 have hH8:has.length≤8:=by omega
 have hP8:P.length≤8:=by omega
 obtain ⟨N,hN⟩:∃ N,N=has.length:=⟨_,rfl⟩
 have HN:=Lib.hid hN
 obtain ⟨K,hK⟩:∃ K,K=m.r.length:=⟨_,rfl⟩
 have HK:=Lib.hid hK
 have HMT:Hid (MkT W ⟨ra,m.r.length,rc,ba,m.b.length,bc,bv,oa,m.o.length,oc⟩ m):=Lib.hid ⟨HM.out,hqe.1⟩
 have HIF:Hid ((mktB m=true∧LeastC m.r m.b has P)↔(JM.sumN m.b.length (JM.gval (JM.gn m.r m.b) (JM.mo has))=topV m.r m.b∧wantL2 m.r m.b has m.b.length=P)) :=
   Lib.hid ⟨fun e=>⟨e.2.be,(paid_list hqe.2).1 e.2.pd⟩,fun e=>⟨hqe.1,hqe.2,e.1,(paid_list hqe.2).2 e.2⟩⟩
 clear hqe hmo hl pl hN hK HM
 go_wp2_with fail
 refine (r05gains_any ⟨ra,m.r.length,rc,ba,m.b.length,bc,bv,oa,m.o.length,oc⟩ m w1 (HMT.out.below HB1.out)).mono ?_
 rintro e w2 ⟨ga,gc,rfl,hb2,hg2⟩
 have HB2:=Lib.hid (HB1.out.trans (hb2.mono HB1.out.size))
 have HG2:=Lib.hid hg2
 clear hb2 hg2 k0 k1 k2 k3 k4
 obtain ⟨k0,k1,k2,k3,k4⟩:=HC.out w2 HB2.out
 go_wp2_with fail
 refine (r10Best_any ga m.b.length gc (gnL m.r m.b) m.r.length w2 HG2.out (gnL_ok HMO.out)).mono ?_
 rw [bestV_gnL]
 rintro e w3 ⟨rfl,hb3⟩
 have HB3:=Lib.hid (HB2.out.trans (hb3.mono HB2.out.size))
 have HG3:=Lib.hid (HG2.out.below hb3)
 have HR3:Hid (IsI w3 ra m.r.length rc m.r):=Lib.hid (HMT.out.below HB3.out).r
 generalize htv:topV m.r m.b=tv
 have HTV:=Lib.hid htv
 clear hb3 htv k0 k1 k2 k3 k4
 obtain ⟨k0,k1,k2,k3,k4⟩:=HC.out w3 HB3.out
 go_wp2_with (at_builtin
              refine wpList_append_any rowInt rfl (.const (.slice none 0 0)) (.tmp 38) rfl w3.heap.size (.slice none 0 0) 0 [] rfl (World.ownsRow_nil _ _ _ _) ra m.r.length rc (icells m.r) rfl (by rw [icells_length,Nat.mul_one]) HR3.out.at' (icells_one _) (by unfold maxLen;omega) (by omega) (Nat.le_refl _) ?_
              intro g7 c7 w4 ho7 hg7 _
              have HB4:Hid (Below w3.heap.size w3 w4):=Lib.hid ((Below.refl _ _).grown hg7 (Nat.le_refl _) (fun k hk=>by cases hk))
              rw [Nat.zero_add,List.nil_append] at ho7
              have HO4:=Lib.hid ho7
              simp only [Nat.zero_add]
              clear ho7 hg7)
 obtain ⟨g,rfl⟩:∃ g,g7=some ⟨g,0,none⟩:=by
   rcases HO4.out.2 with ⟨h0,h1⟩ | ⟨g,cap,cur,hv,_⟩
   · obtain ⟨_,h2,_⟩:=Value.slice.inj h0;omega
   · cases hv;exact ⟨g,rfl⟩
 have HCW:Hid (∀ W',Below w3.heap.size w3 W'→W'.cell? ⟨w.heap.size,0,none⟩=some (.slice ra m.r.length rc)∧W'.cell? ⟨w.heap.size,1,none⟩=some (.slice ba m.b.length bc)∧W'.cell? ⟨w.heap.size,2,none⟩=some (.slice oa m.o.length oc)∧W'.cell? ⟨w.heap.size+1,0,none⟩=some (.slice ha has.length hc)∧W'.cell? ⟨w.heap.size+1,1,none⟩=some (.slice pa P.length pc)):=Lib.hid (fun W' hW=>HC.out W' (HB3.out.trans (hW.mono HB3.out.size)))
 have HHW:Hid (∀ W',Below w3.heap.size w3 W'→IsI W' ha has.length hc has∧IsI W' pa P.length pc P∧MkT W' ⟨ra,m.r.length,rc,ba,m.b.length,bc,bv,oa,m.o.length,oc⟩ m∧Below w.heap.size w W'):=Lib.hid (fun W' hW=>by
   have h9:=HB3.out.trans (hW.mono HB3.out.size)
   exact ⟨HH.out.below h9,HP.out.below h9,HMT.out.below h9,HB0.out.trans (h9.mono HB0.out.size)⟩)
 have HGC:Hid (∀ W',Below w3.heap.size w3 W'→∀ j k,j<m.b.length→k<m.r.length→∃ b o z4 b2 o2,ga=some ⟨b,o,none⟩∧W'.cell? ⟨b,o+j,none⟩=some (.slice (some ⟨b2,o2,none⟩) m.r.length z4)∧W'.cell? ⟨b2,o2+k,none⟩=some (.int .i64 (JM.gn m.r m.b j k))):=Lib.hid (fun W' hW j k hj hk=>by
   have hjl:j<(gnL m.r m.b).length:=by rw [gnL_length];exact hj
   obtain ⟨b,o,x4,z4,rfl,_,c1,hI⟩:=(HG3.out.below hW).at hjl
   have hrl:=((gnL_ok HMO.out).row _ (List.getElem_mem hjl)).1
   have hkl:k<(gnL m.r m.b)[j].length:=by rw [hrl];exact hk
   obtain ⟨b2,o2,rfl,_,c2⟩:=hI.at k hkl
   rw [hrl] at c1
   rw [← gL_row hjl hkl,gL_gnL hj hk] at c2
   exact ⟨b,o,z4,b2,o2,rfl,c1,c2⟩)
 have HGB:Hid (w3.heap.size≤g):=Lib.hid (owns_base HO4.out g rfl)
 have HJ0:Hid (w4.ownsRow w3.heap.size 3 1 (.slice (some ⟨g,0,none⟩) m.r.length c7) m.r.length (icells (wantL2 m.r m.b has 0))):=Lib.hid (by rw [wantL2_zero];exact HO4.out)
 have HZ:Hid (∀ j (h:j<has.length),(has[j] = -1∧JM.mo has j=none)∨∃ k:Nat,has[j]=(k:Int)∧k<m.r.length∧JM.mo has j=some k):=Lib.hid (fun j h=>by
   have h1:=HEV.out.low j (by have:=HL.out;omega)
   rw [getD_get h] at h1
   by_cases e:has[j]<0
   · exact .inl ⟨by omega,JM.mo_none.2 (by rw [getD_get h];exact e)⟩
   · obtain ⟨k,ek⟩:=Int.eq_ofNat_of_zero_le (show 0≤has[j] by omega)
     have e2:JM.mo has j=some k:=JM.mo_some.2 (by rw [getD_get h];exact ek)
     exact .inr ⟨k,ek,HEV.out.mt.lt j k (by have:=HL.out;omega) e2,e2⟩)
 have HSB:Hid (∀ j,j≤has.length→-8000000≤JM.sumN j (JM.gval (JM.gn m.r m.b) (JM.mo has))∧JM.sumN j (JM.gval (JM.gn m.r m.b) (JM.mo has))≤8000000):=Lib.hid (fun j hj=>sumG_bd HMO.out HEV.out.mt (by have:=HL.out;omega))
 clear HC HO4 HG2 HB2 HG3 HH HP HMT HR3 k0 k1 k2 k3 k4
 go_wp2_with fail
 obtain ⟨sv,hsv⟩:∃ sv,sv=JM.sumN m.b.length (JM.gval (JM.gn m.r m.b) (JM.mo has)):=⟨_,rfl⟩
 have HSV:=Lib.hid hsv
 have hsvb:-8000000≤sv∧sv≤8000000:=by rw [hsv];exact sumG_bd HMO.out HEV.out.mt (Nat.le_refl _)
 clear hsv
 go_loopw [9,11] (fun al i wr => ∃ j:Nat,j≤has.length∧al=.int .i64 (JM.sumN j (JM.gval (JM.gn m.r m.b) (JM.mo has)))∧i=.int .i64 (j:Int)∧Hid (Below w4.heap.size w4 wr)) (fun _ i _=>N - (intOf i).toNat)
 case atStart=>exact ⟨0,Nat.zero_le _,rfl,rfl,Lib.hid (Below.refl _ _)⟩
 case round =>
   obtain ⟨j,hj,rfl,rfl,HB⟩:=hrel
   have hbw:Below w3.heap.size w3 wr:=HB4.out.trans (HB.out.mono HB4.out.size)
   obtain ⟨k0,k1,k2,k3,k4⟩:=HCW.out wr hbw
   by_cases hlt:j<has.length
   · have hjb:j<m.b.length:=by have:=HL.out;omega
     obtain ⟨b1,o1,rfl,hb1,c1⟩:=(HHW.out wr hbw).1.at j hlt
     have hsb:=HSB.out j hj
     have hsb2:=HSB.out (j+1) hlt
     rcases HZ.out j hlt with ⟨e1,e2⟩ | ⟨k,e1,hk,e2⟩
     · rw [e1] at c1
       have HS:Hid (JM.sumN (j+1) (JM.gval (JM.gn m.r m.b) (JM.mo has))=JM.sumN j (JM.gval (JM.gn m.r m.b) (JM.mo has))):=Lib.hid (by simp only [JM.sumN];rw [JM.gval_none e2];omega)
       generalize JM.sumN j (JM.gval (JM.gn m.r m.b) (JM.mo has))=sj at hsb HS ⊢
       clear e1 e2 hsb2 hbw
       go_wp2_with fail
       go_roundw
       case rel=>exact ⟨j+1,by omega,by rw [HS.out],by go_num,HB⟩
       case measure=>have:=HN.out;simp [intOf];omega
     · rw [e1] at c1
       obtain ⟨b2,o2,z2,b3,o3,rfl,c2,c3⟩:=HGC.out wr hbw j k hjb hk
       have HS:Hid (JM.sumN (j+1) (JM.gval (JM.gn m.r m.b) (JM.mo has))=JM.sumN j (JM.gval (JM.gn m.r m.b) (JM.mo has))+JM.gn m.r m.b j k):=Lib.hid (by simp only [JM.sumN];rw [JM.gval_some e2])
       rw [HS.out] at hsb2
       generalize JM.gn m.r m.b j k=gv at c3 HS hsb2
       generalize JM.sumN j (JM.gval (JM.gn m.r m.b) (JM.mo has))=sj at hsb HS hsb2 ⊢
       have d0:decide ((k:Int)<0)=false:=decide_eq_false (by omega)
       have hw1:IntKind.i64.wrap (sj+gv)=sj+gv:=IntWalk.i64_in _ (by omega)
       have HB2:Hid (Below w4.heap.size w4 wr.drew):=Lib.hid HB.out.drew
       clear e1 e2 hbw
       go_wp2_with fail
       go_region
       go_wp2_with fail
       go_roundw
       case rel=>exact ⟨j+1,by omega,by rw [HS.out],by go_num,HB2⟩
       case measure=>have:=HN.out;simp [intOf];omega
   · have hjj:j=has.length:=by omega
     have hsum:JM.sumN has.length (JM.gval (JM.gn m.r m.b) (JM.mo has))=sv:=by rw [HL.out];exact HSV.out.symm
     rw [hjj,hsum]
     have HJ1:Hid (wr.ownsRow w3.heap.size 3 1 (.slice (some ⟨g,0,none⟩) m.r.length c7) m.r.length (icells (wantL2 m.r m.b has 0))):=Lib.hid (owns_below HJ0.out HB.out)
     have HB1:=Lib.hid hbw
     clear hjj hj hlt HJ0 HB hbw hsum
     go_wp2_with fail
     clear k0 k1 k2 k3 k4
     generalize wr=w5 at HJ1 HB1 ⊢
     go_loopw [12,13,14,15,16,17,18] (fun i s13 s14 s15 s16 s17 s18 wr => ∃ j:Nat,j≤has.length∧i=.int .i64 (j:Int)∧Hid (wr.ownsRow w3.heap.size 3 1 (.slice (some ⟨g,0,none⟩) m.r.length c7) m.r.length (icells (wantL2 m.r m.b has j)))∧Hid (Below w3.heap.size w3 wr)) (fun i _ _ _ _ _ _ _=>N - (intOf i).toNat)
     case atStart=>exact ⟨0,Nat.zero_le _,rfl,HJ1,HB1⟩
     case round =>
       obtain ⟨j,hj,rfl,HO,HB⟩:=hrel
       obtain ⟨k0,k1,k2,k3,k4⟩:=HCW.out wr HB.out
       by_cases hlt:j<has.length
       · have hjb:j<m.b.length:=by have:=HL.out;omega
         obtain ⟨b1,o1,e9,hb1,c1⟩:=(HHW.out wr HB.out).1.at j hlt
         subst e9
         rcases HZ.out j hlt with ⟨e1,e2⟩ | ⟨k,e1,hk,e2⟩
         · rw [e1] at c1
           have HO2:Hid (wr.ownsRow w3.heap.size 3 1 (.slice (some ⟨g,0,none⟩) m.r.length c7) m.r.length (icells (wantL2 m.r m.b has (j+1)))):=Lib.hid (by rw [wantL2_none e2];exact HO.out)
           clear e1 e2
           go_wp2_with fail
           go_roundw
           case rel=>exact ⟨j+1,by omega,by go_num,HO2,HB⟩
           case measure=>have:=HN.out;simp [intOf];omega
         · rw [e1] at c1
           have HC1:Hid (∀ W',Below w3.heap.size w3 W'→W'.cell? ⟨b1,o1+j,none⟩=some (.int .i64 (k:Int))):=Lib.hid (fun W' hW=>by
             obtain ⟨b9,o9,e9,_,c9⟩:=(HHW.out W' hW).1.at j hlt
             cases e9
             rw [c9,e1])
           have d0:decide ((k:Int)<0)=false:=decide_eq_false (by omega)
           have HKO:=Lib.hid e2
           clear e1 e2
           go_wp2_with fail
           refine (r05without_any ⟨ra,m.r.length,rc,ba,m.b.length,bc,bv,oa,m.o.length,oc⟩ m j wr (HHW.out wr HB.out).2.2.1 hjb).mono ?_
           rintro e w6 ⟨⟨ra2,rn2,rc2,ba2,bn2,bc2,bv2,oa2,on2,oc2⟩,rfl,hb6,hmk⟩
           have e1:rn2=m.r.length:=hmk.v.r.1.1
           have e2:bn2=m.b.length:=by have:=hmk.v.b.1;simpa using this
           have e3:on2=m.o.length:=hmk.v.o.1.1
           subst e1 e2 e3
           have HM6:=Lib.hid hmk
           have HB6:=Lib.hid (HB.out.trans (hb6.mono HB.out.size))
           have HO6:=Lib.hid (owns_below HO.out hb6)
           unfold MkA.cells
           dsimp only
           clear hb6 hmk c1 k0 k1 k2 k3 k4
           go_wp2_with fail
           have hbA:Below w6.heap.size w6 (w6.alloc (.cells #[.slice ra2 m.r.length rc2,.slice ba2 m.b.length bc2,.slice oa2 m.o.length oc2] 25 (0,0))):=(Below.refl _ _).alloc (Nat.le_refl _) _
           have hvA:=heap_new w6 (.cells #[.slice ra2 m.r.length rc2,.slice ba2 m.b.length bc2,.slice oa2 m.o.length oc2] 25 (0,0))
           generalize (w6.alloc (.cells #[.slice ra2 m.r.length rc2,.slice ba2 m.b.length bc2,.slice oa2 m.o.length oc2] 25 (0,0)))=w7 at hbA hvA ⊢
           have q0:w7.cell? ⟨w6.heap.size,0,none⟩=some (.slice ra2 m.r.length rc2):=by rw [cell_of_block hvA];rfl
           have q1:w7.cell? ⟨w6.heap.size,1,none⟩=some (.slice ba2 m.b.length bc2):=by rw [cell_of_block hvA];rfl
           have q2:w7.cell? ⟨w6.heap.size,2,none⟩=some (.slice oa2 m.o.length oc2):=by rw [cell_of_block hvA];rfl
           have HM7:=Lib.hid (HM6.out.below hbA)
           have HB7:=Lib.hid (HB6.out.trans (hbA.mono HB6.out.size))
           have HO7:=Lib.hid (owns_below HO6.out hbA)
           clear hbA hvA HM6 HB6 HO6
           go_wp2_with fail
           refine (r05gains_any ⟨ra2,m.r.length,rc2,ba2,m.b.length,bc2,bv2,oa2,m.o.length,oc2⟩ ⟨m.r,m.b.set j [],m.o⟩ w7 HM7.out).mono ?_
           rintro e w8 ⟨ga2,gc2,rfl,hb8,hg8⟩
           have HB8:=Lib.hid (HB7.out.trans (hb8.mono HB7.out.size))
           have HO8:=Lib.hid (owns_below HO7.out hb8)
           have HMO8:=Lib.hid (mktB_ok HM7.out.ok)
           dsimp only at hg8 HMO8 ⊢
           rw [List.length_set] at hg8 ⊢
           have HG8:=Lib.hid hg8
           clear hb8 hg8 q0 q1 q2 HO7 HB7
           obtain ⟨k0,k1,k2,k3,k4⟩:=HCW.out w8 HB8.out
           go_wp2_with fail
           refine (r10Best_any ga2 m.b.length gc2 (gnL m.r (m.b.set j [])) m.r.length w8 HG8.out (gnL_ok HMO8.out)).mono ?_
           rw [bestV_gnL,topV_set]
           rintro e w9 ⟨rfl,hb9⟩
           have HB9:=Lib.hid (HB8.out.trans (hb9.mono HB8.out.size))
           have HO9:=Lib.hid (owns_below HO8.out hb9)
           clear hb9 HO8 k0 k1 k2 k3 k4
           obtain ⟨k0,k1,k2,k3,k4⟩:=HCW.out w9 HB9.out
           have c1:=HC1.out w9 HB9.out
           obtain ⟨b2,o2,z2,b3,o3,e8,c2,c3⟩:=HGC.out w9 HB9.out j k hjb hk
           subst e8
           have hkl:k<(wantL2 m.r m.b has j).length:=by rw [wantL2_length];exact hk
           have hset:=wantL2_some (r:=m.r) (b:=m.b) (has:=has) HKO.out hk
           have hwb:=wantV_bd HMO.out HEV.out.mt hk j (by omega)
           have htw:=topW_bd HMO.out j
           have hgb:=gn_bd HMO.out hjb hk
           have hj8:(j:Int)≤8:=by omega
           rw [show sumV m.r m.b has=sv from HSV.out.symm] at hset
           have HO9d:Hid (w9.drew.ownsRow w3.heap.size 3 1 (.slice (some ⟨g,0,none⟩) m.r.length c7) m.r.length (icells (wantL2 m.r m.b has j))):=Lib.hid (owns_below HO9.out (Below.refl _ _).drew)
           obtain ⟨_,oc0,_⟩:=owns_iset HO9.out k hkl 0
           rw [wantL2_at hk] at oc0
           obtain ⟨os,oc1,oc2⟩:=owns_iset HO9d.out k hkl (wantV m.r m.b has j k+topW m.r m.b j - (sv - JM.gn m.r m.b j k))
           rw [show wantV m.r m.b has j k+topW m.r m.b j - (sv - JM.gn m.r m.b j k)=wantV m.r m.b has j k+(topW m.r m.b j - (sv - JM.gn m.r m.b j k)) by omega,hset] at os
           rw [wantL2_at hk] at oc1
           rw [show wantV m.r m.b has j k+(topW m.r m.b j - (sv - JM.gn m.r m.b j k))=wantV m.r m.b has j k+topW m.r m.b j - (sv - JM.gn m.r m.b j k) by omega] at os
           generalize wantV m.r m.b has j k=wv at hwb os oc0 oc1
           generalize topW m.r m.b j=tw at htw os ⊢
           generalize JM.gn m.r m.b j k=gv at hgb os c3
           have hw1:IntKind.i64.wrap (wv+tw)=wv+tw:=IntWalk.i64_in _ (by omega)
           have hw2:IntKind.i64.wrap (sv - gv)=sv - gv:=IntWalk.i64_in _ (by omega)
           have hw3:IntKind.i64.wrap (wv+tw - (sv - gv))=wv+tw - (sv - gv):=IntWalk.i64_in _ (by omega)
           have HOS:Hid ((w9.drew.setCell ⟨g,k,none⟩ (.int .i64 (wv+tw - (sv - gv)))).ownsRow w3.heap.size 3 1 (.slice (some ⟨g,0,none⟩) m.r.length c7) m.r.length (icells (wantL2 m.r m.b has (j+1)))):=Lib.hid os
           have HBS:Hid (Below w3.heap.size w3 (w9.drew.setCell ⟨g,k,none⟩ (.int .i64 (wv+tw - (sv - gv))))):=Lib.hid (HB9.out.drew.setCell (p:=⟨g,k,none⟩) HGB.out _)
           clear os hset hkl HO9d
           go_wp2_with fail
           go_still_tail 31,(by kernel_rfl)
           change wpList _ _ _ _ _ w9.drew
           generalize w9.drew=w10 at oc1 oc2 HOS HBS ⊢
           go_wp2_with fail
           go_roundw
           case rel=>exact ⟨j+1,by omega,by go_num,HOS,HBS⟩
           case measure=>have:=HN.out;simp [intOf];omega
       · have hjj:j=m.b.length:=by have:=HL.out;omega
         have hjh:j=has.length:=by omega
         rw [hjj] at HO
         rw [hjh]
         have hwl:=wantL2_length m.r m.b has m.b.length
         obtain ⟨L,hLL⟩:∃ L,L=wantL2 m.r m.b has m.b.length:=⟨_,rfl⟩
         rw [← hLL] at HO hwl
         have HLL:=Lib.hid hLL
         have HI2:Hid ((mktB m=true∧LeastC m.r m.b has P)↔(sv=tv∧L=P)):=Lib.hid (by rw [HIF.out,← HSV.out,HTV.out,← HLL.out])
         have HWL:=Lib.hid hwl
         clear hjj hjh hj hlt hLL hwl
         go_wp2_with fail
         clear k0 k1 k2 k3 k4
         generalize wr=w6 at HO HB ⊢
         go_loopw [19] (fun i wr => ∃ k:Nat,k≤m.r.length∧i=.int .i64 (k:Int)∧Hid (Below w6.heap.size w6 wr)∧Hid (∀ q,q<k→L.getD q 0=P.getD q 0)) (fun i _=>K - (intOf i).toNat)
         case atStart=>exact ⟨0,Nat.zero_le _,rfl,Lib.hid (Below.refl _ _),Lib.hid (fun q h=>by omega)⟩
         case round =>
           obtain ⟨k,hk,rfl,HV6,HEQ⟩:=hrel
           have hbw:Below w3.heap.size w3 wr:=HB.out.trans (HV6.out.mono HB.out.size)
           obtain ⟨k0,k1,k2,k3,k4⟩:=HCW.out wr hbw
           have HBE:=Lib.hid (HHW.out wr hbw).2.2.2
           by_cases hlk:k<m.r.length
           · have hkL:k<L.length:=by rw [HWL.out];exact hlk
             have hkP:k<P.length:=by rw [HPL.out];exact hlk
             have cw:=owns_icell (owns_below HO.out HV6.out) k hkL
             obtain ⟨b1,o1,e9,hb1,c1⟩:=(HHW.out wr hbw).2.1.at k hkP
             subst e9
             have HLG:Hid (L.getD k 0=L[k]):=Lib.hid (getD_get hkL)
             have HPG:Hid (P.getD k 0=P[k]):=Lib.hid (getD_get hkP)
             generalize L[k]=y at cw HLG
             generalize P[k]=z at c1 HPG
             by_cases hyz:y=z
             · have d1:(y != z)=false:=by rw [bne_eq_false_iff_eq];exact hyz
               have HE2:Hid (∀ q,q<k+1→L.getD q 0=P.getD q 0):=Lib.hid (fun q hq=>by
                 by_cases e:q=k
                 · subst e;rw [HLG.out,HPG.out,hyz]
                 · exact HEQ.out q (by omega))
               have HV7:Hid (Below w6.heap.size w6 wr.drew):=Lib.hid HV6.out.drew
               clear hyz hbw
               go_wp2_with fail
               go_region
               go_wp2_with fail
               go_roundw
               case rel=>exact ⟨k+1,by omega,by go_num,HV7,HE2⟩
               case measure=>have:=HK.out;simp [intOf];omega
             · have d1:(y != z)=true:=by rw [bne_iff_ne];exact hyz
               have HNE:Hid (false=true↔mktB m=true∧LeastC m.r m.b has P):=Lib.hid ⟨(fun e=>by cases e),fun e=>absurd (by rw [← HLG.out,← HPG.out,(HI2.out.1 e).2]) hyz⟩
               have HBE2:Hid (Below w.heap.size w wr.drew):=Lib.hid HBE.out.drew
               clear hyz hbw
               go_wp2_with fail
               go_region
               go_wp2_with fail
               go_ret
               exact ⟨false,rfl,HNE.out,HBE2.out⟩
           · have hkk:k=m.r.length:=by omega
             have HLP:Hid (L=P):=Lib.hid (by
               apply List.ext_getElem
               · rw [HWL.out,HPL.out]
               · intro q h1 h2
                 have:=HEQ.out q (by rw [hkk,← HWL.out];exact h1)
                 rwa [getD_get h1,getD_get h2] at this)
             have HFE:Hid (∀ v:Bool,v=(sv == tv)→(v=true↔mktB m=true∧LeastC m.r m.b has P)):=Lib.hid (fun v e=>by
               rw [e,beq_iff_eq,HI2.out]
               exact ⟨fun e=>⟨e,HLP.out⟩,fun e=>e.1⟩)
             rw [hkk]
             clear hkk hk hlk hbw
             go_wp2_with fail
             go_ret
             exact ⟨_,rfl,HFE.out _ rfl,HBE.out⟩
end
end Go.Proofs.YtmmmjohoihpbeaaGreat
