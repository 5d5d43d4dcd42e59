/- The document's rises (13): Least;its outcomes (15): Of;conditions: those typed. -/
import Derived.Test.YtmmmjohoihpbeaaGreatQOJrGJrI
import Derived.Test.YtmmmjohoihpbeaaGreatQOJrDJrEJrF
import Derived.Test.YtmmmjohoihpbeaaGreatQOJmiJwOfJwEvJwVw
import Derived.Test.YtmmmjohoihpbeaaGreatQOJrBJrCJrW
import Derived.Test.YtmmmjohoihpbeaaGreatQOJwNoJwTrJwTuJwLsJwPd
namespace Go.Proofs.YtmmmjohoihpbeaaGreat
section
open Go.RowKit Go.Shelf
set_option linter.unusedVariables false
set_option linter.unusedSimpArgs false
attribute [local go_sem] Oper.semAt_some
def LqQ (m:MkC) (w:World) (n:Nat) (v:Value) (wr:World):Prop:=∃ a c P,v=.slice a m.r.length c∧IsI wr a m.r.length c P∧JM.RisP m.r m.b P∧Below w.heap.size w wr∧n=(8000000 - JM.sumN m.r.length (JM.ov m.r P)).toNat
def LeaT (m:MkC) (w:World) (e:Ending) (W:World):Prop:=∃ a c P,e=.returned (.tuple #[.slice a m.r.length c,.int .i64 0])∧Below w.heap.size w W∧IsI W a m.r.length c P∧JM.RisP m.r m.b P∧JM.Leastp m.b.length m.r.length (JM.gn m.r m.b) (JM.ov m.r P)
set_option maxRecDepth 100000 in
set_option maxHeartbeats 8000000 in
theorem r13least_any (x:MkA) (m:MkC) (w:World) (h:MkT w x m) :
   Calls Tryz.prog 74 #[.agg x.cells.toArray] w (LeaT m w):=by
 obtain ⟨ra,rn,rc,ba,bn,bc,bv,oa,on,oc⟩:=x
 have hr:=h.v.r.1
 have hbb:=h.v.b
 have ho:=h.v.o.1
 unfold MkA.cells
 dsimp only at hr hbb ho ⊢
 obtain rfl:=hr.1
 obtain rfl:=hbb.1
 obtain rfl:=ho.1
 have hmo:=mktB_ok h.ok
 have hk8:=hmo.hk
 have HMO:=Lib.hid hmo
 have HQ:Hid (mktB m=true):=Lib.hid h.ok
 have hb0:Below w.heap.size w (w.alloc (.cells #[.slice ra m.r.length rc,.slice ba m.b.length bc,.slice oa m.o.length oc] 25)):=(Below.refl _ _).alloc (Nat.le_refl _) _
 have hv:=heap_new w (.cells #[.slice ra m.r.length rc,.slice ba m.b.length bc,.slice oa m.o.length oc] 25 (0,0))
 have HM:=Lib.hid (h.below hb0)
 clear h hr hbb ho hmo
 go_enter Tryz.func74,Tryz.ntmps74
 go_wp2_with fail
 generalize w.alloc (.cells #[.slice ra m.r.length rc,.slice ba m.b.length bc,.slice oa m.o.length oc] 25)=W at hb0 hv HM ⊢
 have c0:W.cell? ⟨w.heap.size,0,none⟩=some (.slice ra m.r.length rc):=by rw [cell_of_block hv];rfl
 have c1:W.cell? ⟨w.heap.size,1,none⟩=some (.slice ba m.b.length bc):=by rw [cell_of_block hv];rfl
 have c2:W.cell? ⟨w.heap.size,2,none⟩=some (.slice oa m.o.length oc):=by rw [cell_of_block hv];rfl
 have HB0:=Lib.hid hb0
 clear hb0 hv
 go_wp2_with fail
 refine (r05check_any ⟨ra,m.r.length,rc,ba,m.b.length,bc,bv,oa,m.o.length,oc⟩ m W HM.out.v (by omega)).mono ?_
 rw [HQ.out]
 rintro e w1 ⟨rfl,hb1⟩
 have k0:=cell_later hb1 c0
 have HC:Hid (∀ W',Below W.heap.size W W'→W'.cell? ⟨w.heap.size,0,none⟩=some (.slice ra m.r.length rc)∧W'.cell? ⟨w.heap.size,1,none⟩=some (.slice ba m.b.length bc)∧W'.cell? ⟨w.heap.size,2,none⟩=some (.slice oa m.o.length oc)):=Lib.hid (fun W' hW=>⟨cell_later hW c0,cell_later hW c1,cell_later hW c2⟩)
 have HB1:=Lib.hid hb1
 have HR1:Hid (IsI w1 ra m.r.length rc m.r):=Lib.hid (HM.out.below hb1).r
 clear hb1 c0 c1 c2
 go_wp2_with (at_builtin
              refine wpList_append_any rowInt rfl (.const (.slice none 0 0)) (.tmp 12) rfl w1.heap.size (.slice none 0 0) 0 [] rfl (World.ownsRow_nil _ _ _ _) ra m.r.length rc (icells m.r) rfl (by rw [icells_length,Nat.mul_one]) HR1.out.at' (icells_one _) (by unfold maxLen;omega) (by omega) (Nat.le_refl _) ?_
              intro g7 c7 w7 ho7 hg7 _
              have hb7:Below w1.heap.size w1 w7:=(Below.refl _ _).grown hg7 (Nat.le_refl _) (fun k hk=>by cases hk)
              rw [Nat.zero_add,List.nil_append] at ho7
              have HT:Hid (IsI w7 g7 m.r.length c7 m.r):=Lib.hid (isI_of_owns ho7 rfl)
              have HB7:Hid (Below W.heap.size W w7):=Lib.hid (HB1.out.trans (hb7.mono HB1.out.size))
              simp only [Nat.zero_add]
              clear ho7 hg7 hb7)
 have HST:Hid (LqQ m W (8000000 - JM.sumN m.r.length (JM.ov m.r m.r)).toNat (.slice g7 m.r.length c7) w7):=Lib.hid ⟨g7,c7,m.r,rfl,HT.out,JM.RisP.start HMO.out,HB7.out,rfl⟩
 clear HT HB7 HR1 HB1 k0
 go_loopw [4,5,6,7] (fun v s5 s6 s7 wr => ∃ n,LqQ m W n v wr) (fun v _ _ _ wr=>leastN fun n=>LqQ m W n v wr)
 case atStart=>exact ⟨_,HST.out⟩
 case round =>
   obtain ⟨n0,hn⟩:=hrel
   have hs:=(leastN_spec (P:=fun n=>LqQ m W n _ wr) hn).1
   have HMIN:=Lib.hid (fun (v':Value) (w':World) (n':Nat) (h:LqQ m W n' v' w')=>(leastN_spec (P:=fun n=>LqQ m W n v' w') h).2)
   obtain ⟨a,c,P,rfl,hI,hR,hB,hN⟩:=hs
   have HN:=Lib.hid hN
   have HI:=Lib.hid hI
   have HR:=Lib.hid hR
   have HB:=Lib.hid hB
   have hPL:P.length=m.r.length:=hR.m.pl
   have HPL:=Lib.hid hPL
   obtain ⟨k0,k1,k2⟩:=HC.out wr hB
   have HMR:=Lib.hid (HM.out.below hB)
   have HSS:=Lib.hid (JM.RisP.sum hR)
   clear hn hI hR hB hN hPL HST
   go_wp2_with fail
   refine (r13step_any ⟨ra,m.r.length,rc,ba,m.b.length,bc,bv,oa,m.o.length,oc⟩ m a m.r.length c P wr HMR.out HI.out HR.out.pr HR.out.m).mono ?_
   rintro e w5 ⟨a5,c5,out,is,rfl,hb5,hI5,hS5⟩
   rw [HPL.out] at hI5 ⊢
   have HI5:=Lib.hid hI5
   have HS5:=Lib.hid hS5
   have HB5:=Lib.hid (HB.out.trans (hb5.mono HB.out.size))
   have HP5:=Lib.hid (HI.out.below hb5)
   clear hb5 hI5 hS5 k0 k1 k2
   cases is with
   | false =>
     have HD:=Lib.hid (HR.out.done HS5.out)
     go_wp2_with fail
     go_ret2
     exact ⟨a,c,P,rfl,HB0.out.trans (HB5.out.mono HB0.out.size),HP5.out,HR.out,HD.out.2⟩
   | true =>
     have hst:=HR.out.step HS5.out
     have HT:Hid (LqQ m W (8000000 - JM.sumN m.r.length (JM.ov m.r out)).toNat (.slice a5 m.r.length c5) w5):=Lib.hid ⟨a5,c5,out,rfl,HI5.out,hst.1,HB5.out,rfl⟩
     have HLT:Hid ((8000000 - JM.sumN m.r.length (JM.ov m.r out)).toNat<(8000000 - JM.sumN m.r.length (JM.ov m.r P)).toNat):=Lib.hid (by
       have h1:=hst.2
       have h2:=JM.RisP.sum hst.1
       have h3:=HSS.out
       omega)
     clear hst
     go_wp2_with fail
     go_roundw
     case rel=>exact ⟨_,HT.out⟩
     case measure=>exact Nat.lt_of_le_of_lt (HMIN.out _ _ _ HT.out) (by rw [show (leastN fun n=>LqQ m W n (Value.slice a m.r.length c) wr)=_ from HN.out];exact HLT.out)
set_option maxRecDepth 100000 in
set_option maxHeartbeats 8000000 in
theorem r15of_any (x:MkA) (m:MkC) (w:World) (h:MkT w x m) :
   Calls Tryz.prog 51 #[.agg x.cells.toArray] w (OutQ m w):=by
 obtain ⟨ra,rn,rc,ba,bn,bc,bv,oa,on,oc⟩:=x
 have hr:=h.v.r.1
 have hbb:=h.v.b
 have ho:=h.v.o.1
 unfold MkA.cells
 dsimp only at hr hbb ho ⊢
 obtain rfl:=hr.1
 obtain rfl:=hbb.1
 obtain rfl:=ho.1
 have hmo:=mktB_ok h.ok
 have hk8:=hmo.hk
 have HOO:=Lib.hid (mktB_bd h.ok).2.2.2.1
 have HMO:=Lib.hid hmo
 have HQ:Hid (mktB m=true):=Lib.hid h.ok
 obtain ⟨hb0,m0,m1⟩:=alloc2_facts w (.cells #[.slice ra m.r.length rc,.slice ba m.b.length bc,.slice oa m.o.length oc] 25 (0,0)) (.cells #[.slice none 0 0,.slice none 0 0] 27 (0,0))
 have HM:=Lib.hid (h.below hb0)
 clear h hr hbb ho hmo
 go_enter Tryz.func51,Tryz.ntmps51
 go_wp2_with fail
 generalize ((w.alloc (.cells #[.slice ra m.r.length rc,.slice ba m.b.length bc,.slice oa m.o.length oc] 25)).alloc (.cells #[.slice none 0 0,.slice none 0 0] 27))=W at hb0 m0 m1 HM ⊢
 have HC:Hid (∀ W',Below W.heap.size W W'→W'.cell? ⟨w.heap.size,0,none⟩=some (.slice ra m.r.length rc)∧W'.cell? ⟨w.heap.size,1,none⟩=some (.slice ba m.b.length bc)∧W'.cell? ⟨w.heap.size,2,none⟩=some (.slice oa m.o.length oc)):=Lib.hid (fun W' hW=>by
   have:=below_heap hW m0 (lt_of_heap m0)
   refine ⟨?_,?_,?_⟩ <;> (rw [cell_of_block this];rfl))
 have HB0:=Lib.hid hb0
 have H1:=Lib.hid m1
 obtain ⟨c0,c1,c2⟩:=HC.out W (Below.refl _ _)
 clear hb0 m0 m1
 go_wp2_with fail
 refine (r05check_any ⟨ra,m.r.length,rc,ba,m.b.length,bc,bv,oa,m.o.length,oc⟩ m W HM.out.v (by omega)).mono ?_
 rw [HQ.out]
 rintro e w1 ⟨rfl,hb1⟩
 have HB1:=Lib.hid hb1
 clear hb1 c0 c1 c2
 obtain ⟨k0,k1,k2⟩:=HC.out w1 HB1.out
 go_wp2_with fail
 refine (r05gains_any ⟨ra,m.r.length,rc,ba,m.b.length,bc,bv,oa,m.o.length,oc⟩ m w1 (HM.out.below HB1.out)).mono ?_
 rintro e w2 ⟨ga,gc,rfl,hb2,hg2⟩
 have HB2:=Lib.hid (HB1.out.trans (hb2.mono HB1.out.size))
 have HG2:=Lib.hid hg2
 clear hb2 hg2 k0 k1 k2
 obtain ⟨k0,k1,k2⟩:=HC.out w2 HB2.out
 go_wp2_with fail
 refine (r11first_any ga oa m.b.length gc m.o.length oc (gnL m.r m.b) m.r.length m.o w2 HG2.out (gnL_ok HMO.out) (HM.out.below HB2.out).o (by rw [gnL_length];exact HOO.out)).mono ?_
 rintro e w3 ⟨H,hf,T,want,mm,rfl,hb3,hh3,hp3,hq3⟩
 rw [gnL_length] at hh3 ⊢
 have HB3:=Lib.hid (HB2.out.trans (hb3.mono HB2.out.size))
 have H13:=Lib.hid (below_heap HB3.out H1.out (lt_of_heap H1.out))
 have HH3:=Lib.hid hh3
 have HP3:=Lib.hid hp3
 have HQ3:=Lib.hid hq3
 have HNE:Hid (H≠w.heap.size+1):=Lib.hid (fun e=>by
   have:=H13.out
   rw [← e,hh3] at this
   exact absurd (Obj.cells.inj (Option.some.inj this)).2.1 (by decide))
 clear hb3 hh3 hp3 hq3 k0 k1 k2
 obtain ⟨k0,k1,k2⟩:=HC.out w3 HB3.out
 go_wp2_with fail
 refine (r13least_any ⟨ra,m.r.length,rc,ba,m.b.length,bc,bv,oa,m.o.length,oc⟩ m w3 (HM.out.below HB3.out)).mono ?_
 rintro e w4 ⟨pa,pc,p,rfl,hb4,hp4,hr4,hl4⟩
 have h14:=below_heap hb4 H13.out (lt_of_heap H13.out)
 have hh4:=below_heap hb4 HH3.out (lt_of_heap HH3.out)
 have HB4:=Lib.hid (HB0.out.trans ((HB3.out.trans (hb4.mono HB3.out.size)).mono HB0.out.size))
 have HOK:Hid (JM.OutOk m.r m.b ((List.range m.b.length).map hf) p):=Lib.hid (outOk_of HMO.out HP3.out HQ3.out hr4 hl4)
 have HH4:=Lib.hid hh4
 have HP4:=Lib.hid hp4
 have H14:=Lib.hid h14
 clear hb4 hp4 hr4 hl4 hh4 k0 k1 k2
 go_wp2_with (first
   | (refine wpList_store_whole rfl 27 (.tmp 2) (.tmp 36) rfl (w.heap.size+1) [.slice (some ⟨H,0,none⟩) m.b.length m.b.length,.slice pa m.r.length pc] _ _ h14 rfl rfl rfl info_out (out_one _ _ _ _ _ _) ?_;intro w6 ht6 hg6)
   | fail)
 refine bodyPost_ret (results_cell_tmp rfl _ _ (w.heap.size+1) 0 rfl [.slice (some ⟨H,0,none⟩) m.b.length m.b.length,.slice pa m.r.length pc] _ (rangeAt_row hg6) Tryz.underlying27 rfl info_out) rfl ?_
 refine ⟨some ⟨H,0,none⟩,m.b.length,pa,pc,(List.range m.b.length).map hf,p,rfl,HB4.out.trans (ht6.below HB4.out.size (fun k hk e=>by omega)),isI_fnA (ht6.heap HH4.out HNE.out) (by have:=HMO.out.hn.2;unfold maxLen;omega),isI_touch_ty HP4.out ht6 (fun k e => ?_),HOK.out⟩
 subst e
 refine ⟨_,_,H14.out,fun i z e2 => ?_⟩
 rw [List.getElem?_toArray] at e2
 have:=List.mem_of_getElem? e2
 simp at this
end
section
open Go.RowKit Go.Shelf
set_option linter.unusedVariables false
set_option linter.unusedSimpArgs false
attribute [local go_sem] Oper.semAt_some
set_option maxRecDepth 100000 in
set_option maxHeartbeats 4000000 in
theorem r28has_any (x:MkA) (m:MkC) (i:Nat) (ba:Option Addr) (bn bc:Nat) (bid:List Int) (w:World) (h:MkT w x m) (hi:i<m.b.length) (hb:IsI w ba bn bc bid) (hbl:bid.length=m.r.length) (hbd:∀ z ∈ bid,0≤z∧z≤1000000) :
   Calls Tryz.prog 30 #[.agg x.cells.toArray,.int .i64 (i:Int),.slice ba bn bc] w fun e W => ∃ has P,e=.returned (.int .i64 (JM.gval (fun _ k=>bid.getD k 0 - P.getD k 0) (JM.mo has) i))∧Below w.heap.size w W∧JM.OutOk m.r m.b has P:=by
 obtain ⟨ra,rn,rc,ba0,bn0,bc0,bv,oa,on,oc⟩:=x
 have hr:=h.r
 have hbb:=h.b
 have ho:=h.o
 unfold MkA.cells
 dsimp only at hr hbb ho ⊢
 obtain rfl:=hr.1
 obtain rfl:=hbb.1
 obtain rfl:=ho.1
 obtain rfl:=hb.1
 have hmo:=mktB_ok h.ok
 have hk8:=hmo.hk.2
 have hn8:=hmo.hn.2
 have hb0:Below w.heap.size w (w.alloc (.cells #[.slice ra m.r.length rc,.slice ba0 m.b.length bc0,.slice oa m.o.length oc] 25)):=(Below.refl _ _).alloc (Nat.le_refl _) _
 have hv:=heap_new w (.cells #[.slice ra m.r.length rc,.slice ba0 m.b.length bc0,.slice oa m.o.length oc] 25 (0,0))
 have HM:=Lib.hid (h.below hb0)
 have HBI:=Lib.hid hb
 have HBD:=Lib.hid hbd
 have HBL:=Lib.hid hbl
 clear h hr hbb ho hmo hb hbd hbl
 go_enter Tryz.func30,Tryz.ntmps30
 go_wp2_with fail
 generalize w.alloc (.cells #[.slice ra m.r.length rc,.slice ba0 m.b.length bc0,.slice oa m.o.length oc] 25)=W at hb0 hv HM ⊢
 have c0:W.cell? ⟨w.heap.size,0,none⟩=some (.slice ra m.r.length rc):=by rw [cell_of_block hv];rfl
 have c1:W.cell? ⟨w.heap.size,1,none⟩=some (.slice ba0 m.b.length bc0):=by rw [cell_of_block hv];rfl
 have c2:W.cell? ⟨w.heap.size,2,none⟩=some (.slice oa m.o.length oc):=by rw [cell_of_block hv];rfl
 have HB0:=Lib.hid hb0
 clear hb0 hv
 go_wp2_with fail
 refine (r15of_any ⟨ra,m.r.length,rc,ba0,m.b.length,bc0,bv,oa,m.o.length,oc⟩ m W HM.out).mono ?_
 rintro e w1 ⟨ha,hc,pa,pc,has,P,rfl,hb1,hh1,hp1,hok⟩
 have HB1:=Lib.hid (HB0.out.trans (hb1.mono HB0.out.size))
 have HOK:=Lib.hid hok
 have hbA:Below w1.heap.size w1 (w1.alloc (.cells #[.slice ha m.b.length hc,.slice pa m.r.length pc] 27)):=(Below.refl _ _).alloc (Nat.le_refl _) _
 have hvA:=heap_new w1 (.cells #[.slice ha m.b.length hc,.slice pa m.r.length pc] 27 (0,0))
 have HBA:=Lib.hid hbA
 have HHA:=Lib.hid (hh1.below hbA)
 have HPA:=Lib.hid (hp1.below hbA)
 have HBB:=Lib.hid ((HBI.out.below HB1.out).below hbA)
 have hll:=hok.hl
 have hpl:=hok.pl
 have hih:i<has.length:=by omega
 have y0:(w1.alloc (.cells #[.slice ha m.b.length hc,.slice pa m.r.length pc] 27)).cell? ⟨w1.heap.size,0,none⟩=some (.slice ha m.b.length hc):=by rw [cell_of_block hvA];rfl
 have y1:(w1.alloc (.cells #[.slice ha m.b.length hc,.slice pa m.r.length pc] 27)).cell? ⟨w1.heap.size,1,none⟩=some (.slice pa m.r.length pc):=by rw [cell_of_block hvA];rfl
 obtain ⟨b5,o5,rfl,_,c5⟩:=HHA.out.at i hih
 have hlow:=hok.low i hi
 have hgd:has.getD i (-1)=has[i]:=getD_get hih
 rw [hgd] at hlow
 have HLL:=Lib.hid hll
 have HPL:=Lib.hid hpl
 clear hb1 hh1 hp1 hok hbA hvA c0 c1 c2 hll hpl
 by_cases hz:has[i] = -1
 · have HV:Hid (JM.gval (fun _ k=>bid.getD k 0 - P.getD k 0) (JM.mo has) i=0):=Lib.hid (JM.gval_none (JM.mo_none.2 (by rw [hgd];omega)))
   rw [hz] at c5
   clear hz hgd hlow
   go_wp2_with fail
   go_ret
   exact ⟨has,P,by rw [HV.out];rfl,HB1.out.trans (HBA.out.mono HB1.out.size),HOK.out⟩
 · obtain ⟨k,ek⟩:=Int.eq_ofNat_of_zero_le (show 0≤has[i] by omega)
   have hmo2:JM.mo has i=some k:=JM.mo_some.2 (by rw [hgd];exact ek)
   have hkr:=HOK.out.mt.lt i k hi hmo2
   have hkb:k<bid.length:=by rw [HBL.out];exact hkr
   have hkp:k<P.length:=by rw [HPL.out];exact hkr
   have HV:Hid (JM.gval (fun _ k=>bid.getD k 0 - P.getD k 0) (JM.mo has) i=bid[k] - P[k]):=Lib.hid (by rw [JM.gval_some hmo2,getD_get hkb,getD_get hkp])
   have hpb:0≤P[k]∧P[k]≤2000000:=by
     have h1:=HOK.out.even.p k hkr
     have h2:=(mktB_ok HM.out.ok).hr k hkr
     rw [getD_get hkp] at h1
     omega
   have hbb:=HBD.out _ (List.getElem_mem hkb)
   obtain ⟨b6,o6,rfl,_,c6⟩:=HBB.out.at k hkb
   obtain ⟨b7,o7,rfl,_,c7⟩:=HPA.out.at k hkp
   have hdl:(k:Int)<m.r.length:=by omega
   have hbl2:=HBL.out
   rw [ek] at c5
   generalize bid[k]=xv at c6 hbb HV
   generalize P[k]=pv at c7 hpb HV
   have hw1:IntKind.i64.wrap (xv - pv)=xv - pv:=IntWalk.i64_in _ (by omega)
   have hw2:wrap64 (xv - pv)=xv - pv:=by unfold wrap64;omega
   have dk:decide ((k:Int)<0)=false:=decide_eq_false (by omega)
   clear hz hgd hlow ek hmo2
   go_wp2_with fail
   go_quiet (fail)
   go_wp2_with fail
   go_ret
   exact ⟨has,P,by rw [HV.out];rfl,(HB1.out.trans (HBA.out.mono HB1.out.size)).trans ((below_drewN (Below.refl _ _) nq).mono (HB1.out.trans (HBA.out.mono HB1.out.size)).size),HOK.out⟩
theorem set_getD {α:Type} {l:List α} {i k:Nat} {x d:α} (hk:k<l.length):(l.set i x).getD k d=if i=k then x else l.getD k d:=by
 rw [getD_get (by simpa using hk),List.getElem_set]
 by_cases e:i=k
 · rw [if_pos e,if_pos e]
 · rw [if_neg e,if_neg e,getD_get hk]
theorem mktB_setB {m:MkC} {i:Nat} {bid:List Int} (h:mktB m=true) (hi:i<m.b.length):mktB ⟨m.r,m.b.set i bid,m.o⟩=true↔bidB (m.r.length:Int) bid=true:=by
 obtain ⟨h1,h2,h3,h4,h5,h6⟩:=(mktB_iff m).1 h
 constructor
 · intro e
   obtain ⟨_,_,_,_,e5,_⟩:=(mktB_iff _).1 e
   have:=e5 i (by show i<(m.b.set i bid).length;rw [List.length_set];exact hi)
   dsimp only at this
   rwa [set_getD hi,if_pos rfl] at this
 · intro e
   refine (mktB_iff _).2 ⟨h1,by simpa using h2,by simpa using h3,by simpa using h4,fun k hk => ?_,fun k hk=>h6 k (by simpa using hk)⟩
   have hk':k<m.b.length:=by simpa using hk
   dsimp only
   rw [set_getD hk']
   by_cases ek:i=k
   · rw [if_pos ek];exact e
   · rw [if_neg ek];exact h5 k hk'
def OthJ (w1:World) (ra oa:Option Addr) (rn rc on oc:Nat) (L:List (List Int)) (O g d5:Nat) (W:World):Prop :=
 Below w1.heap.size w1 W∧w1.heap.size≤O∧w1.heap.size≤g∧O≠g∧L.length≤d5∧d5≤maxLen∧W.heap[O]?=some (.cells #[.slice ra rn rc,.slice (some ⟨g,0,none⟩) L.length d5,.slice oa on oc] 25 (0,0))∧HdY w1 W g L
theorem oth_fin {w1 W:World} {ra oa:Option Addr} {rn rc on oc:Nat} {L:List (List Int)} {T g d5:Nat} (hb:Bel w1 W) (hT:W.heap[T]?=some Z3) (hT1:w1.heap.size≤T) (hg:HdY w1 W g L) (hgB:w1.heap.size≤g) (h1:L.length≤d5) (h2:d5≤maxLen) :
   OthJ w1 ra oa rn rc on oc L T g d5 (((W.setCell ⟨T,0,none⟩ (.slice ra rn rc)).setCell ⟨T,1,none⟩ (.slice (some ⟨g,0,none⟩) L.length d5)).setCell ⟨T,2,none⟩ (.slice oa on oc)):=by
 have hne:T≠g:=fun e=>by
   obtain ⟨C,hC,_⟩:=hg
   rw [← e,hT] at hC
   exact absurd (Obj.cells.inj (Option.some.inj hC)).2.1 (by decide)
 have g1:=heap_setCell_same W T 0 _ _ (.slice ra rn rc) hT
 have g2:=heap_setCell_same _ T 1 _ _ (.slice (some ⟨g,0,none⟩) L.length d5) g1
 have g3:=heap_setCell_same _ T 2 _ _ (.slice oa on oc) g2
 refine ⟨keepS hb hT1,hT1,hgB,hne,h1,h2,g3,?_⟩
 refine hg.other ?_
 exact (Below.heap_setCell _ ⟨T,2,none⟩ _ g (fun e=>hne e.symm)).trans ((Below.heap_setCell _ ⟨T,1,none⟩ _ g (fun e=>hne e.symm)).trans (Below.heap_setCell _ ⟨T,0,none⟩ _ g (fun e=>hne e.symm)))
theorem oth_fin2 {w1 W:World} {ra oa:Option Addr} {rn rc on oc:Nat} {L:List (List Int)} {T g d5:Nat} (hb:Bel w1 W) (hT:T=W.heap.size) (hg:HdY w1 W g L) (hgB:w1.heap.size≤g) (h1:L.length≤d5) (h2:d5≤maxLen) :
   OthJ w1 ra oa rn rc on oc L T g d5 (W.alloc (.cells #[.slice ra rn rc,.slice (some ⟨g,0,none⟩) L.length d5,.slice oa on oc] 25 (0,0))):=by
 subst hT
 have hba:Below W.heap.size W (W.alloc (.cells #[.slice ra rn rc,.slice (some ⟨g,0,none⟩) L.length d5,.slice oa on oc] 25 (0,0))):=(Below.refl _ _).alloc (Nat.le_refl _) _
 have hgl:g<W.heap.size:=by obtain ⟨C,hC,_⟩:=hg;exact lt_of_heap hC
 refine ⟨hb.out.trans (hba.mono hb.out.size),hb.out.size,hgB,by omega,h1,h2,heap_new W _,?_⟩
 obtain ⟨C,hC,h3⟩:=hg
 exact ⟨C,below_heap hba hC hgl,h3⟩
set_option maxRecDepth 100000 in
set_option maxHeartbeats 8000000 in
theorem r28true_any (x:MkA) (m:MkC) (i:Int) (da:Option Addr) (dn dc:Nat) (bid:List Int) (w:World) (h:IsMk w (fun _=>True) x m) (hrm:m.r.length≤17592186044416) (hi:-9223372036854775808≤i∧i≤9223372036854775807) (hd:IsI w da dn dc bid) :
   Calls Tryz.prog 13 #[.agg x.cells.toArray,.int .i64 i,.slice da dn dc] w (TruQ m i bid w):=by
 obtain ⟨ra,rn,rc,ba,bn,bc,bv,oa,on,oc⟩:=x
 have hr:=h.r.1
 have hbb:=h.b
 have ho:=h.o.1
 unfold MkA.cells
 dsimp only at hr hbb ho ⊢
 obtain rfl:=hr.1
 obtain rfl:=hbb.1
 obtain rfl:=ho.1
 obtain rfl:=hd.1
 have hml:=hbb.2.1
 have hml2:=hbb.2.2.1
 have hb0:Below w.heap.size w (w.alloc (.cells #[.slice ra m.r.length rc,.slice ba m.b.length bc,.slice oa m.o.length oc] 25)):=(Below.refl _ _).alloc (Nat.le_refl _) _
 have hv:=heap_new w (.cells #[.slice ra m.r.length rc,.slice ba m.b.length bc,.slice oa m.o.length oc] 25 (0,0))
 have HM:=Lib.hid (h.below hb0)
 have HD:=Lib.hid (hd.below hb0)
 have HRM:=Lib.hid hrm
 clear h hr hbb ho hd hrm
 go_enter Tryz.func13,Tryz.ntmps13
 go_wp2_with fail
 generalize w.alloc (.cells #[.slice ra m.r.length rc,.slice ba m.b.length bc,.slice oa m.o.length oc] 25)=W at hb0 hv HM HD ⊢
 have c0:W.cell? ⟨w.heap.size,0,none⟩=some (.slice ra m.r.length rc):=by rw [cell_of_block hv];rfl
 have c1:W.cell? ⟨w.heap.size,1,none⟩=some (.slice ba m.b.length bc):=by rw [cell_of_block hv];rfl
 have c2:W.cell? ⟨w.heap.size,2,none⟩=some (.slice oa m.o.length oc):=by rw [cell_of_block hv];rfl
 have HB0:=Lib.hid hb0
 have HV0:=Lib.hid hv
 clear hb0 hv
 go_wp2_with fail
 refine (r05check_any ⟨ra,m.r.length,rc,ba,m.b.length,bc,bv,oa,m.o.length,oc⟩ m W HM.out HRM.out).mono ?_;rintro e w1 ⟨rfl,hb1⟩
 have HB1:=Lib.hid (HB0.out.trans (hb1.mono HB0.out.size))
 have HM1:=Lib.hid (HM.out.below hb1)
 have HD1:=Lib.hid (HD.out.below hb1)
 have HV1:=Lib.hid (below_heap hb1 HV0.out (lt_of_heap HV0.out))
 have k0:=cell_later hb1 c0
 have k1:=cell_later hb1 c1
 have k2:=cell_later hb1 c2
 clear hb1 c0 c1 c2
 cases hq:mktB m with
 | false =>
   have HNO:Hid (¬ TruC m i bid):=Lib.hid (fun e=>by rw [e.1] at hq;cases hq)
   clear hq
   go_wp2_with fail
   go_ret2
   exact ⟨false,rfl,⟨(fun e=>by cases e),fun e=>absurd e HNO.out⟩,HB1.out⟩
 | true =>
 have HQ:=Lib.hid hq
 have hmo:=mktB_ok hq
 have HMO:=Lib.hid hmo
 have hn8:=hmo.hn
 have hk8:=hmo.hk
 clear hq hmo
 by_cases i1:i<0
 case pos =>
   have d1:decide (i<0)=true:=decide_eq_true i1
   have HNO:Hid (¬ TruC m i bid):=Lib.hid (fun e=>by have:=e.2.1;omega)
   clear i1
   go_wp2_with fail
   go_ret2
   exact ⟨false,rfl,⟨(fun e=>by cases e),fun e=>absurd e HNO.out⟩,HB1.out⟩
 case neg =>
 have d1:decide (i<0)=false:=decide_eq_false i1
 by_cases i2:(m.b.length:Int)≤i
 case pos =>
   have d2:decide ((m.b.length:Int)≤i)=true:=decide_eq_true i2
   have HNO:Hid (¬ TruC m i bid):=Lib.hid (fun e=>by have:=e.2.2.1;omega)
   clear i1 i2
   go_wp2_with fail
   go_ret2
   exact ⟨false,rfl,⟨(fun e=>by cases e),fun e=>absurd e HNO.out⟩,HB1.out⟩
 case neg =>
 have d2:decide ((m.b.length:Int)≤i)=false:=decide_eq_false i2
 obtain ⟨q,rfl⟩:=Int.eq_ofNat_of_zero_le (show 0≤i by omega)
 have hqn:q<m.b.length:=by omega
 have d3:decide (m.b.length≤q)=false:=decide_eq_false (by omega)
 have hnq:¬ m.b.length≤q:=by omega
 have HMT:Hid (MkT w1 ⟨ra,m.r.length,rc,ba,m.b.length,bc,bv,oa,m.o.length,oc⟩ m):=Lib.hid ⟨HM1.out,HQ.out⟩
 obtain ⟨b4,o4,x4,y4,z4,e4,hb4,hc4,hI4⟩:=HMT.out.b.at q hqn
 dsimp only at e4
 subst e4
 have HBI:=Lib.hid hI4
 have HGQ:Hid (m.b.getD q []=m.b[q]):=Lib.hid (getD_get hqn)
 clear hI4 i1 i2
 by_cases hbe:m.b[q]=[]
 case pos =>
   have hy:y4=0:=by rw [HBI.out.1,hbe];rfl
   subst hy
   have HNO:Hid (¬ TruC m (q:Int) bid):=Lib.hid (fun e=>e.2.2.2.1 (by rw [Int.toNat_natCast,HGQ.out];exact hbe))
   clear hbe
   go_wp2_with fail
   go_ret2
   exact ⟨false,rfl,⟨(fun e=>by cases e),fun e=>absurd e HNO.out⟩,HB1.out⟩
 case neg =>
 have hbb:=(mktB_bd HQ.out).2.2.2.2 _ (List.getElem_mem hqn)
 obtain ⟨_,hb2,hb3⟩:=bidB_bd hbb
 have hbl:m.b[q].length=m.r.length:=(okB_bd (hb2 (fun e=>hbe (List.eq_nil_of_length_eq_zero e)))).2.2.1
 have hy:y4=m.r.length:=by rw [HBI.out.1,hbl]
 subst hy
 have HBE:=Lib.hid hbe
 have HBL:=Lib.hid hbl
 have HBD:=Lib.hid hb3
 have dl:((m.r.length:Int) == 0)=false:=by rw [beq_eq_false_iff_ne];omega
 clear hbb hb2 hb3 hbe hbl
 have hbi:(mktB ⟨m.r,m.b.set q bid,m.o⟩=true)↔bidB (m.r.length:Int) bid=true:=mktB_setB HQ.out hqn
 have HBB:=Lib.hid hbi
 have hr17:(m.r.length:Int)≤4611686018427387904:=by omega
 have hm17:bid.length≤9223372036854775807:=HD1.out.len
 by_cases hd0:bid.length=0
 case' pos =>
   have de:decide ((0:Int)<(bid.length:Int))=false:=decide_eq_false (by omega)
   have de2:decide (0<bid.length)=false:=decide_eq_false (by omega)
   have HQ2:Hid (mktB ⟨m.r,m.b.set q bid,m.o⟩=true):=Lib.hid (hbi.2 (by unfold bidB;rw [decide_eq_true hd0];rfl))
   clear hd0 hbi
   go_wp2_with fail
   clear de de2
 case' neg =>
   have de:decide ((0:Int)<(bid.length:Int))=true:=decide_eq_true (by omega)
   have de2:decide (0<bid.length)=true:=decide_eq_true (by omega)
   have HD0:=Lib.hid hd0
   clear hd0
   go_wp2_with fail
   refine (rcheck_any da bid.length dc bid m.r.length w1 HD1.out (by omega)).mono ?_
   rintro e w2 ⟨rfl,rfl⟩
   rcases hok:okB bid (m.r.length:Int) with _ | _
   · have HNO:Hid (¬ TruC m (q:Int) bid):=Lib.hid (fun e=>by
       have h1:=e.2.2.2.2
       rw [Int.toNat_natCast] at h1
       have h2:=hbi.1 h1
       unfold bidB at h2
       rw [decide_eq_false HD0.out,hok] at h2
       cases h2)
     clear hok hbi
     go_wp2_with fail
     go_ret2
     exact ⟨false,rfl,⟨(fun e=>by cases e),fun e=>absurd e HNO.out⟩,HB1.out⟩
   have HQ2:Hid (mktB ⟨m.r,m.b.set q bid,m.o⟩=true):=Lib.hid (hbi.2 (by unfold bidB;rw [hok];simp))
   clear hok hbi
   go_wp2_with fail
   clear de de2 HD0
 all_goals
   have HVL:Hid (bv.length=m.b.length):=Lib.hid HM1.out.b.2.2.2.1.1
   have HONE:=Lib.hid (HM1.out.b.2.2.2.1.one)
   have HIIV:Hid (IIv w1 (fun _=>True) bv m.b):=Lib.hid HM1.out.b.2.2.2.1
   have HBB1:Hid (IsIIp w1 (fun _=>True) (some ⟨b4,o4,none⟩) m.b.length bc bv m.b):=Lib.hid HM1.out.b
   have HK:=Lib.hid (And.intro k0 (And.intro k1 k2))
   have HC4:=Lib.hid hc4
   go_upto_region 3 with fail
   go_cut [8] (fun s8 wx => ∃ O g d5,s8=.pointer (some ⟨O,0,none⟩)∧Hid (OthJ w1 ra oa m.r.length rc m.o.length oc m.b O g d5 wx))
   case first =>
     go_region_held3 (fun w' => w'.cell? ⟨w.heap.size,0,none⟩=some (.slice ra m.r.length rc)∧w'.cell? ⟨w.heap.size,1,none⟩=some (.slice (some ⟨b4,o4,none⟩) m.b.length bc)∧w'.cell? ⟨w.heap.size,2,none⟩=some (.slice oa m.o.length oc)) (first
         | with_reducible exact ⟨cell_later (Bel.out (w:=w1)) k0,cell_later (Bel.out (w:=w1)) k1,cell_later (Bel.out (w:=w1)) k2⟩
         | exact ⟨cell_later (keepS (w1:=w1) inferInstance (by omega)) k0,cell_later (keepS (w1:=w1) inferInstance (by omega)) k1,cell_later (keepS (w1:=w1) inferInstance (by omega)) k2⟩
         | fail) (first
       | (refine step_append_any rowII rfl (.const (.slice none 0 0)) (.tmp 51) (by rfl) w1.heap.size (.slice none 0 0) 0 [] (by rfl) (World.ownsRow_nil _ _ _ _) (some ⟨b4,o4,none⟩) m.b.length bc bv (by simp [Act.eval,Act.put]) (by rw [HVL.out];omega) (HBB1.out.below (Bel.out (w:=w1))).at HONE.out (by unfold maxLen;omega) (by omega) (Bel.out (w:=w1)).size ?_;intro a5 d5 w3 ho3 hg3 _;have hb3:=Below.grown (Bel.out (w:=w1)) hg3 (Bel.out (w:=w1)).size (fun k hk=>by cases hk);haveI i3:Bel w1 w3:=⟨hb3⟩;have s3:=hb3.size;(try simp only [World.size_alloc,World.size_drew] at s3);simp only [Nat.zero_add,List.nil_append] at ho3;obtain ⟨g5,rfl⟩:=own_at ho3 (by omega);have hY3:HdY w1 w3 g5 m.b:=HdY.of ho3 HIIV.out;have hgb:=owns_base ho3 g5 rfl;obtain ⟨hcap1,hcap2,_⟩:=owns_caps ho3;haveI na:=fun (T:Nat) (o:Obj) [h:NewBlk w1 _ T o]=>h.later (Below.grown (Below.refl _ _) hg3 (Nat.le_refl _) (fun k hk=>by cases hk));(try (have t1:=blk3 (NewBlk.at_ (w:=w1) (W:=w3) (T:=w1.heap.size));(try simp only [World.size_alloc,World.size_drew] at t1);obtain ⟨⟨t10,t11,t12⟩,t13,t14,t15⟩:=t1)))
       | fail)
     all_goals
       go_wp2_with fail
       go_meet
       first
         | exact ⟨_,g5,d5,rfl,Lib.hid (oth_fin2 (w1:=w1) inferInstance rfl hY3 hgb hcap1 hcap2)⟩
         | exact ⟨_,g5,d5,rfl,Lib.hid (oth_fin (w1:=w1) inferInstance (NewBlk.at_ (w:=w1)) (by omega) hY3 hgb hcap1 hcap2)⟩
         | exact ⟨_,g5,d5,rfl,Lib.hid (oth_fin (w1:=w1) inferInstance (blk_at (w1:=w1) (T':=w1.drew.heap.size) (by simp only [World.size_alloc,World.size_drew])) (by omega) hY3 hgb hcap1 hcap2)⟩
         | exact ⟨_,g5,d5,rfl,Lib.hid (oth_fin (w1:=w1) inferInstance (blk_at (w1:=w1) (T':=w1.heap.size) (by simp only [World.size_alloc,World.size_drew])) (by omega) hY3 hgb hcap1 hcap2)⟩
   case rest =>
     obtain ⟨O,g,d5,rfl,HC⟩:=hcut
     obtain ⟨w4,rfl⟩:∃ w4:World,w4=wc:=⟨_,rfl⟩
     obtain ⟨hb14,hO1,hg1,hOg,hcap1,hcap2,hv4,hY4⟩:=HC.out
     have cO4:w4.cell? ⟨O,1,none⟩=some (.slice (some ⟨g,0,none⟩) m.b.length d5):=by rw [cell_of_block hv4];rfl
     obtain ⟨⟨xg,yg,zg,cg⟩,zg4⟩:=hY4.cell hqn
     have hY5:=hY4.set hqn HD1.out
     have hb15:Below w1.heap.size w1 (w4.setCell ⟨g,q,none⟩ (.slice da bid.length dc)):=hb14.setCell (p:=⟨g,q,none⟩) hg1 _
     have hv5:(w4.setCell ⟨g,q,none⟩ (.slice da bid.length dc)).heap[O]?=some (.cells #[.slice ra m.r.length rc,.slice (some ⟨g,0,none⟩) m.b.length d5,.slice oa m.o.length oc] 25 (0,0)):=(Below.heap_setCell _ ⟨g,q,none⟩ _ O hOg).trans hv4
     clear hb14 hv4 hY4 HC k0 k1 k2
     go_wp2_with fail
     generalize w4.setCell ⟨g,q,none⟩ (.slice da bid.length dc)=w6 at hY5 hb15 hv5 ⊢
     obtain ⟨vs,hvs⟩:=hY5.isIIp hb15 (by rw [List.length_set];exact hcap1) hcap2
     rw [List.length_set] at hvs
     have HB6:=Lib.hid (HB1.out.trans (hb15.mono HB1.out.size))
     have HB16:=Lib.hid hb15
     have HMO6:Hid (MkT w6 ⟨ra,m.r.length,rc,some ⟨g,0,none⟩,m.b.length,d5,vs,oa,m.o.length,oc⟩ ⟨m.r,m.b.set q bid,m.o⟩):=Lib.hid ⟨⟨⟨HM1.out.r.1.below hb15,fun _ _ _ _=>trivial⟩,hvs,⟨HM1.out.o.1.below hb15,fun _ _ _ _=>trivial⟩⟩,HQ2.out⟩
     have HV6:=Lib.hid hv5
     have l0:=cell_later hb15 HK.out.1
     have l1:=cell_later hb15 HK.out.2.1
     have l2:=cell_later hb15 HK.out.2.2
     have lb:w6.cell? ⟨b4,o4+q,none⟩=some (.slice x4 m.r.length z4):=(hb15.cell (p:=⟨b4,o4+q,none⟩) hb4).trans HC4.out
     clear hvs hY5 hb15 hv5 cO4 cg zg4
     have HYES:Hid (TruC m (q:Int) bid):=Lib.hid ⟨HQ.out,by omega,by omega,by rw [Int.toNat_natCast,HGQ.out];exact HBE.out,by rw [Int.toNat_natCast];exact HQ2.out⟩
     have HMT6:Hid (MkT w6 ⟨ra,m.r.length,rc,some ⟨b4,o4,none⟩,m.b.length,bc,bv,oa,m.o.length,oc⟩ m):=Lib.hid (HMT.out.below HB16.out)
     have HBI6:=Lib.hid (HBI.out.below HB16.out)
     have r0:w6.cell? ⟨O,0,none⟩=some (.slice ra m.r.length rc):=by rw [cell_of_block HV6.out];rfl
     have r1:w6.cell? ⟨O,1,none⟩=some (.slice (some ⟨g,0,none⟩) m.b.length d5):=by rw [cell_of_block HV6.out];rfl
     have r2:w6.cell? ⟨O,2,none⟩=some (.slice oa m.o.length oc):=by rw [cell_of_block HV6.out];rfl
     have HHAS:Hid (∀ w',Below w6.heap.size w6 w'→Calls Tryz.prog 30 #[.agg #[.slice ra m.r.length rc,.slice (some ⟨b4,o4,none⟩) m.b.length bc,.slice oa m.o.length oc],.int .i64 (q:Int),.slice x4 m.r.length z4] w' (HasQ m q m.b[q] w')):=Lib.hid (fun w' hw' => r28has_any ⟨ra,m.r.length,rc,some ⟨b4,o4,none⟩,m.b.length,bc,bv,oa,m.o.length,oc⟩ m q x4 m.r.length z4 m.b[q] w' (HMT6.out.below hw') hqn (HBI6.out.below hw') HBL.out HBD.out)
     have HHAS2:Hid (∀ w',Below w6.heap.size w6 w'→Calls Tryz.prog 30 #[.agg #[.slice ra m.r.length rc,.slice (some ⟨g,0,none⟩) m.b.length d5,.slice oa m.o.length oc],.int .i64 (q:Int),.slice x4 m.r.length z4] w' (HasQ ⟨m.r,m.b.set q bid,m.o⟩ q m.b[q] w')):=Lib.hid (fun w' hw' => r28has_any ⟨ra,m.r.length,rc,some ⟨g,0,none⟩,m.b.length,d5,vs,oa,m.o.length,oc⟩ ⟨m.r,m.b.set q bid,m.o⟩ q x4 m.r.length z4 m.b[q] w' (HMO6.out.below hw') (by show q<(m.b.set q bid).length;rw [List.length_set];exact hqn) (HBI6.out.below hw') HBL.out HBD.out)
     have HE1:Hid (∀ (mm:Nat→Option Nat) (PP:List Int),JM.gval (fun i k=>(m.b.getD i []).getD k 0 - PP.getD k 0) mm q=JM.gval (fun _ k=>m.b[q].getD k 0 - PP.getD k 0) mm q):=Lib.hid (fun mm PP=>by
       have hgq:=HGQ.out
       cases hm:mm q with
       | none=>rw [JM.gval_none hm,JM.gval_none hm]
       | some k=>rw [JM.gval_some hm,JM.gval_some hm,hgq])
     have HNE:Hid (m.b.getD q []≠[]):=Lib.hid (by have hgq:=HGQ.out;rw [hgq];exact HBE.out)
     have HNN:Hid (∀ has P,JM.OutOk m.r m.b has P→0≤JM.gval (fun _ k=>m.b[q].getD k 0 - P.getD k 0) (JM.mo has) q):=Lib.hid (fun has P h1=>by
       have a1:=(h1.even.now q hqn HNE.out).1
       rw [HE1.out] at a1
       exact a1)
     have HHON:Hid (∀ has P has2 P2,JM.OutOk m.r m.b has P→JM.OutOk m.r (m.b.set q bid) has2 P2→JM.gval (fun _ k=>m.b[q].getD k 0 - P2.getD k 0) (JM.mo has2) q≤JM.gval (fun _ k=>m.b[q].getD k 0 - P.getD k 0) (JM.mo has) q):=Lib.hid (fun has P has2 P2 h1 h2=>by
       have a2:=JM.honest h1 h2 (by rw [List.length_set]) hqn HNE.out (fun x hx=>by
         rw [List.getD_eq_getElem?_getD,List.getD_eq_getElem?_getD,List.getElem?_set_ne (fun e=>hx e.symm)])
       rw [HE1.out,HE1.out] at a2
       exact a2)
     go_wp2_with fail
     go_cut [9] (fun s wx => ∃ (nv:Int) (has P:List Int),s=.int .i64 nv∧Hid (Below w6.heap.size w6 wx∧JM.gval (fun _ k=>m.b[q].getD k 0 - P.getD k 0) (JM.mo has) q=nv∧JM.OutOk m.r m.b has P))
     case first =>
       go_region_with (go_at_call 30;refine (HHAS.out _ (Bel.out (w:=w6))).mono ?_;rintro e w7 ⟨has,P,rfl,hb7,hok⟩)
       all_goals
         have HR:Hid (Below w6.heap.size w6 w7∧JM.OutOk m.r m.b has P):=Lib.hid ⟨((Below.refl _ w6).drew).trans hb7,hok⟩
         clear hb7 hok
         try simp only [Act.put,List.getElem_toArray,List.getElem_cons_succ,List.getElem_cons_zero,List.setIfInBounds_toArray,List.set_cons_zero,List.set_cons_succ]
         go_wp2_with fail
         go_meet
         exact ⟨_,has,P,rfl,Lib.hid ⟨HR.out.1,rfl,HR.out.2⟩⟩
     case rest =>
       obtain ⟨nv,has,P,rfl,HR⟩:=hcut
       obtain ⟨w7,rfl⟩:∃ w7:World,w7=wc:=⟨_,rfl⟩
       have hb7:=HR.out.1
       have n0:=cell_later hb7 l0
       have n1:=cell_later hb7 l1
       have n2:=cell_later hb7 l2
       have nb:=cell_later hb7 lb
       have s0:=cell_later hb7 r0
       have s1:=cell_later hb7 r1
       have s2:=cell_later hb7 r2
       have hnn:0≤nv:=by rw [← HR.out.2.1];exact HNN.out has P HR.out.2.2
       have dn:decide (0≤nv)=true:=decide_eq_true hnn
       clear l0 l1 l2 lb r0 r1 r2 hb7
       haveI ib:Bel w6 w7:=⟨HR.out.1⟩
       have HB7:=Lib.hid (HB6.out.trans (HR.out.1.mono HB6.out.size))
       go_wp2_with fail
       go_region_held3 (fun w' => w'.cell? ⟨w.heap.size,1,none⟩=some (.slice (some ⟨b4,o4,none⟩) m.b.length bc)∧w'.cell? ⟨b4,o4+q,none⟩=some (.slice x4 m.r.length z4)∧w'.cell? ⟨O,0,none⟩=some (.slice ra m.r.length rc)∧w'.cell? ⟨O,1,none⟩=some (.slice (some ⟨g,0,none⟩) m.b.length d5)∧w'.cell? ⟨O,2,none⟩=some (.slice oa m.o.length oc)) (first
           | with_reducible exact ⟨cell_later (Bel.out (w:=w7)) n1,cell_later (Bel.out (w:=w7)) nb,cell_later (Bel.out (w:=w7)) s0,cell_later (Bel.out (w:=w7)) s1,cell_later (Bel.out (w:=w7)) s2⟩
           | fail) (first
         | (go_at_call 30;((with_reducible refine (HHAS2.out _ (Bel.out (w:=w6))).mono ?_);rintro e w8 ⟨has2,P2,rfl,hb8,hok2⟩;haveI i8:Bel w7 w8:=Bel.then inferInstance hb8;have hle:JM.gval (fun _ k=>m.b[q].getD k 0 - P2.getD k 0) (JM.mo has2) q≤nv:=Int.le_trans (HHON.out has P has2 P2 HR.out.2.2 hok2) (Int.le_of_eq HR.out.2.1);have dle:decide (JM.gval (fun _ k=>m.b[q].getD k 0 - P2.getD k 0) (JM.mo has2) q≤nv)=true:=decide_eq_true hle;have dle2:decide (JM.gval (fun x k=>m.b[q][k]?.getD 0 - P2[k]?.getD 0) (JM.mo has2) q≤nv)=true:=dle;have dle3:JM.gval (fun x k=>m.b[q][k]?.getD 0 - P2[k]?.getD 0) (JM.mo has2) q≤nv:=hle))
         | fail)
       all_goals
         have HB8:Hid (Below w.heap.size w w8):=Lib.hid (HB7.out.trans (((Below.refl _ w7).drew.trans hb8).mono HB7.out.size))
         clear hb8
         try simp only [Act.put,List.getElem_toArray,List.getElem_cons_succ,List.getElem_cons_zero,List.setIfInBounds_toArray,List.set_cons_zero,List.set_cons_succ]
         go_wp2_with fail
         go_ret2
         exact ⟨true,rfl,⟨fun _=>HYES.out,fun _=>rfl⟩,HB8.out⟩
end
end Go.Proofs.YtmmmjohoihpbeaaGreat
