/- Markets that may not be: Gains,Of;conditions: those typed. -/
import Derived.Test.YtmmmjohoihpbeaaGreatTJmiJwOfJwVwJwEv
import Derived.Test.YtmmmjohoihpbeaaGreatTJwWo
import Derived.Test.YtmmmjohoihpbeaaGreatTGStOrdJwAJwBJwGGStRecJwEq
import Derived.Test.YtmmmjohoihpbeaaGreatTJwEw
import Derived.Test.YtmmmjohoihpbeaaGreatTJwZsJmg
namespace Go.Proofs.YtmmmjohoihpbeaaGreat
section
open Go.RowKit Go.Shelf
set_option linter.unusedVariables false
set_option linter.unusedSimpArgs false
attribute [local go_sem] Oper.semAt_some
set_option maxRecDepth 100000 in
set_option maxHeartbeats 4000000 in
theorem gains_not (x:MkA) (m:MkC) (w:World) (h:IsMk w (fun _=>True) x m) (hrm:m.r.length≤17592186044416) (hq:mktB m=false) :
   Calls Tryz.prog 31 #[.agg x.cells.toArray] w fun e W=>e=.returned (.tuple #[.slice none 0 0,.int .i64 1])∧Below w.heap.size w W:=by
 obtain ⟨ra,rn,rc,ba,bn,bc,bv,oa,on,oc⟩:=x
 have hr:=h.r.1
 have hbb:=h.b
 have ho:=h.o.1
 unfold MkA.cells
 dsimp only at hr hbb ho ⊢
 obtain rfl:=hr.1
 obtain rfl:=hbb.1
 obtain rfl:=ho.1
 have HQ:=Lib.hid hq
 have HRM:=Lib.hid hrm
 have hb0:Below w.heap.size w (w.alloc (.cells #[.slice ra m.r.length rc,.slice ba m.b.length bc,.slice oa m.o.length oc] 25)):=(Below.refl _ _).alloc (Nat.le_refl _) _
 have hv:=heap_new w (.cells #[.slice ra m.r.length rc,.slice ba m.b.length bc,.slice oa m.o.length oc] 25 (0,0))
 have HV:=Lib.hid (h.below hb0)
 clear h hr hbb ho hq hrm
 go_enter Tryz.func31,Tryz.ntmps31
 go_wp2_with fail
 generalize w.alloc (.cells #[.slice ra m.r.length rc,.slice ba m.b.length bc,.slice oa m.o.length oc] 25)=W at hb0 hv HV ⊢
 have c0:W.cell? ⟨w.heap.size,0,none⟩=some (.slice ra m.r.length rc):=by rw [cell_of_block hv];rfl
 have c1:W.cell? ⟨w.heap.size,1,none⟩=some (.slice ba m.b.length bc):=by rw [cell_of_block hv];rfl
 have c2:W.cell? ⟨w.heap.size,2,none⟩=some (.slice oa m.o.length oc):=by rw [cell_of_block hv];rfl
 have HB0:=Lib.hid hb0
 clear hb0 hv
 go_wp2_with fail
 refine (mcheck_any _ ⟨ra,m.r.length,rc,ba,m.b.length,bc,bv,oa,m.o.length,oc⟩ m W HV.out (by have:=HRM.out;omega)).mono ?_;rintro e w1 ⟨rfl,hb1⟩
 rw [HQ.out]
 have HB1:=Lib.hid (HB0.out.trans (hb1.mono HB0.out.size))
 clear hb1 c0 c1 c2
 go_wp2_with fail
 go_ret2
 exact ⟨rfl,HB1.out⟩
end
section
open Go.RowKit Go.Shelf
set_option linter.unusedVariables false
set_option linter.unusedSimpArgs false
attribute [local go_sem] Oper.semAt_some
set_option maxHeartbeats 1000000 in
theorem iiclone_any (P:Nat→Prop) (a:Option Addr) (n c:Nat) (vs:List Value) (L:List (List Int)) (w:World) (h:IsIIp w P a n c vs L) (hm:L.length≤100000) :
   Calls Tryz.prog 26 #[.slice a n c] w fun e w' => ∃ a' c',e=.returned (.slice a' L.length c')∧Below w.heap.size w w'∧w'.ownsRow w.heap.size 22 1 (.slice a' L.length c') L.length vs:=by
 have hq:∀ (w:World) (a:Option Addr) (n c:Nat),(binOp .eql 23 (.slice a n c) (.slice none 0 0)).run Tryz.prog w=.ok (.bool a.isNone) w:=fun w a n c=>Lib.run_eql_slice_nil w _ _ a n c 0 0 Tryz.underlying23
 obtain rfl:=h.1
 have hvl:=h.2.2.2.1.1
 cases a with
 | none =>
   have hnil:L=[]:=by
     obtain ⟨_,_,_,_,h | ⟨_,_,h,_⟩⟩:=h
     · exact h
     · cases h
   have hv0:vs=[]:=List.eq_nil_of_length_eq_zero (by rw [hvl,hnil];rfl)
   subst hnil hv0
   clear h
   go_enter Tryz.func26,Tryz.ntmps26
   go_wp2
   go_ret
   exact ⟨none,0,rfl,Below.refl _ _,World.ownsRow_nil _ _ _ _⟩
 | some x =>
   have hat:=(h.below ((Below.refl _ w).alloc (Nat.le_refl _) (.cells #[] 22))).at
   have hone:=h.2.2.2.1.one
   clear h
   have HVL:=Lib.hid hvl
   clear hvl
   go_enter Tryz.func26,Tryz.ntmps26
   go_wp2_with (at_builtin;refine wpList_append_any rowII rfl _ _ rfl w.heap.size _ 0 [] rfl (World.ownsRow_made w #[] 0 (Nat.le_refl _) (Nat.zero_le _) rfl) (some x) L.length c vs rfl (by rw [HVL.out];omega) hat hone (by unfold maxLen;omega) (by omega) (by simp) ?_;intro b2 c2 w2 hown2 hg2 hat2;simp only [Nat.zero_add,List.nil_append] at hown2 hat2)
   go_ret
   refine ⟨b2,c2,rfl,((Below.refl _ w).alloc (Nat.le_refl _) _).grown hg2 (by simp) (fun j hj => ?_),hown2⟩
   have hj':some w.heap.size=some j:=hj
   cases hj'
   exact Nat.le_refl _
set_option maxRecDepth 100000 in
set_option maxHeartbeats 4000000 in
theorem jhas_any (x:MkA) (m:MkC) (i:Nat) (ba:Option Addr) (bn bc:Nat) (bid:List Int) (w:World) (h:MkT w x m) (hi:i<m.b.length) (hb:IsI w ba bn bc bid) (hbl:bid.length=m.r.length) (hbd:∀ z ∈ bid,0≤z∧z≤1000000) :
   Calls Tryz.prog 27 #[.agg x.cells.toArray,.int .i64 (i:Int),.slice ba bn bc] w fun e W => ∃ has P,e=.returned (.int .i64 (JM.gval (fun _ k=>bid.getD k 0 - P.getD k 0) (JM.mo has) i))∧Below w.heap.size w W∧JM.OutOk m.r m.b has P:=by
 obtain ⟨ra,rn,rc,ba0,bn0,bc0,bv,oa,on,oc⟩:=x
 have hr:=h.r
 have hbb:=h.b
 have ho:=h.o
 unfold MkA.cells
 dsimp only at hr hbb ho ⊢
 obtain rfl:=hr.1
 obtain rfl:=hbb.1
 obtain rfl:=ho.1
 obtain rfl:=hb.1
 have hmo:=mktB_ok h.ok
 have hk8:=hmo.hk.2
 have hn8:=hmo.hn.2
 have hb0:Below w.heap.size w (w.alloc (.cells #[.slice ra m.r.length rc,.slice ba0 m.b.length bc0,.slice oa m.o.length oc] 25)):=(Below.refl _ _).alloc (Nat.le_refl _) _
 have hv:=heap_new w (.cells #[.slice ra m.r.length rc,.slice ba0 m.b.length bc0,.slice oa m.o.length oc] 25 (0,0))
 have HM:=Lib.hid (h.below hb0)
 have HBI:=Lib.hid hb
 have HBD:=Lib.hid hbd
 have HBL:=Lib.hid hbl
 clear h hr hbb ho hmo hb hbd hbl
 go_enter Tryz.func27,Tryz.ntmps27
 go_wp2_with fail
 generalize w.alloc (.cells #[.slice ra m.r.length rc,.slice ba0 m.b.length bc0,.slice oa m.o.length oc] 25)=W at hb0 hv HM ⊢
 have c0:W.cell? ⟨w.heap.size,0,none⟩=some (.slice ra m.r.length rc):=by rw [cell_of_block hv];rfl
 have c1:W.cell? ⟨w.heap.size,1,none⟩=some (.slice ba0 m.b.length bc0):=by rw [cell_of_block hv];rfl
 have c2:W.cell? ⟨w.heap.size,2,none⟩=some (.slice oa m.o.length oc):=by rw [cell_of_block hv];rfl
 have HB0:=Lib.hid hb0
 clear hb0 hv
 go_wp2_with fail
 refine (outOf_any ⟨ra,m.r.length,rc,ba0,m.b.length,bc0,bv,oa,m.o.length,oc⟩ m W HM.out).mono ?_
 rintro e w1 ⟨ha,hc,pa,pc,has,P,rfl,hb1,hh1,hp1,hok⟩
 have HB1:=Lib.hid (HB0.out.trans (hb1.mono HB0.out.size))
 have HOK:=Lib.hid hok
 have hbA:Below w1.heap.size w1 (w1.alloc (.cells #[.slice ha m.b.length hc,.slice pa m.r.length pc] 27)):=(Below.refl _ _).alloc (Nat.le_refl _) _
 have hvA:=heap_new w1 (.cells #[.slice ha m.b.length hc,.slice pa m.r.length pc] 27 (0,0))
 have HBA:=Lib.hid hbA
 have HHA:=Lib.hid (hh1.below hbA)
 have HPA:=Lib.hid (hp1.below hbA)
 have HBB:=Lib.hid ((HBI.out.below HB1.out).below hbA)
 have hll:=hok.hl
 have hpl:=hok.pl
 have hih:i<has.length:=by omega
 have y0:(w1.alloc (.cells #[.slice ha m.b.length hc,.slice pa m.r.length pc] 27)).cell? ⟨w1.heap.size,0,none⟩=some (.slice ha m.b.length hc):=by rw [cell_of_block hvA];rfl
 have y1:(w1.alloc (.cells #[.slice ha m.b.length hc,.slice pa m.r.length pc] 27)).cell? ⟨w1.heap.size,1,none⟩=some (.slice pa m.r.length pc):=by rw [cell_of_block hvA];rfl
 obtain ⟨b5,o5,rfl,_,c5⟩:=HHA.out.at i hih
 have hlow:=hok.low i hi
 have hgd:has.getD i (-1)=has[i]:=getD_get hih
 rw [hgd] at hlow
 have HLL:=Lib.hid hll
 have HPL:=Lib.hid hpl
 clear hb1 hh1 hp1 hok hbA hvA c0 c1 c2 hll hpl
 by_cases hz:has[i] = -1
 · have HV:Hid (JM.gval (fun _ k=>bid.getD k 0 - P.getD k 0) (JM.mo has) i=0):=Lib.hid (JM.gval_none (JM.mo_none.2 (by rw [hgd];omega)))
   rw [hz] at c5
   clear hz hgd hlow
   go_wp2_with fail
   go_ret
   exact ⟨has,P,by rw [HV.out];rfl,HB1.out.trans (HBA.out.mono HB1.out.size),HOK.out⟩
 · obtain ⟨k,ek⟩:=Int.eq_ofNat_of_zero_le (show 0≤has[i] by omega)
   have hmo2:JM.mo has i=some k:=JM.mo_some.2 (by rw [hgd];exact ek)
   have hkr:=HOK.out.mt.lt i k hi hmo2
   have hkb:k<bid.length:=by rw [HBL.out];exact hkr
   have hkp:k<P.length:=by rw [HPL.out];exact hkr
   have HV:Hid (JM.gval (fun _ k=>bid.getD k 0 - P.getD k 0) (JM.mo has) i=bid[k] - P[k]):=Lib.hid (by rw [JM.gval_some hmo2,getD_get hkb,getD_get hkp])
   have hpb:0≤P[k]∧P[k]≤2000000:=by
     have h1:=HOK.out.even.p k hkr
     have h2:=(mktB_ok HM.out.ok).hr k hkr
     rw [getD_get hkp] at h1
     omega
   have hbb:=HBD.out _ (List.getElem_mem hkb)
   obtain ⟨b6,o6,rfl,_,c6⟩:=HBB.out.at k hkb
   obtain ⟨b7,o7,rfl,_,c7⟩:=HPA.out.at k hkp
   have hdl:(k:Int)<m.r.length:=by omega
   have hbl2:=HBL.out
   rw [ek] at c5
   generalize bid[k]=xv at c6 hbb HV
   generalize P[k]=pv at c7 hpb HV
   have hw1:IntKind.i64.wrap (xv - pv)=xv - pv:=IntWalk.i64_in _ (by omega)
   have hw2:wrap64 (xv - pv)=xv - pv:=by unfold wrap64;omega
   have dk:((k:Int) != -1)=true:=by rw [bne_iff_ne];omega
   clear hz hgd hlow ek hmo2
   go_wp2_with fail
   go_quiet (fail)
   go_wp2_with fail
   go_ret
   exact ⟨has,P,by rw [HV.out];rfl,(HB1.out.trans (HBA.out.mono HB1.out.size)).trans ((below_drewN (Below.refl _ _) nq).mono (HB1.out.trans (HBA.out.mono HB1.out.size)).size),HOK.out⟩
end
section
open Go.RowKit Go.Shelf
set_option linter.unusedVariables false
set_option linter.unusedSimpArgs false
attribute [local go_sem] Oper.semAt_some
set_option maxRecDepth 100000 in
set_option maxHeartbeats 8000000 in
theorem lost_any (vb:Nat) (x:MkA) (m:MkC) (ha:Option Addr) (hc:Nat) (has:List Int) (pa:Option Addr) (pc:Nat) (P:List Int) (B:Nat) (w:World) (h:VwT w vb x m ha hc has pa pc P B) (ho:HasOk m.r m.b has) (i k:Nat) (hi:i<m.b.length) (hk:k<m.r.length) :
   Calls Tryz.prog 58 #[.pointer (some ⟨vb,0,none⟩),.int .i64 (i:Int),.int .i64 (k:Int)] w fun e w' => e=.returned (.int .i64 (topW m.r m.b i - (sumV m.r m.b has - JM.gn m.r m.b i k)))∧Below w.heap.size w w':=by
 obtain ⟨ra,rn,rc,ba,bn,bc,bv,oa,on,oc⟩:=x
 have hr:=h.mm.r
 have hbb:=h.mm.b
 have hoo:=h.mm.o
 dsimp only at hr hbb hoo
 obtain rfl:=hr.1
 obtain rfl:=hbb.1
 obtain rfl:=hoo.1
 obtain ⟨c0,c1,c2,c3,c4,c5⟩:=h.cells
 dsimp only at c0 c1 c2
 have hmo:=mktB_ok h.mm.ok
 have HMO:=Lib.hid hmo
 have HV:=Lib.hid h
 have HO:=Lib.hid ho
 have hkb:=gn_bd hmo hi hk
 have htw:=topW_bd hmo i
 have hsv:=sumV_bd hmo ho.mt
 clear h ho hr hbb hoo hmo c3 c4
 go_enter Tryz.func58,Tryz.ntmps58
 go_wp2_with fail
 refine (without_any ⟨ra,m.r.length,rc,ba,m.b.length,bc,bv,oa,m.o.length,oc⟩ m i w HV.out.mm hi).mono ?_
 rintro e w1 ⟨y,rfl,hb1,hy1⟩
 obtain ⟨ra2,rn2,rc2,ba2,bn2,bc2,bv2,oa2,on2,oc2⟩:=y
 have hr2:=hy1.r.1
 have hb2:=hy1.b.1
 have ho2:=hy1.o.1
 dsimp only at hr2 hb2 ho2
 have hb2':bn2=m.b.length:=by rw [hb2];simp
 subst hr2 hb2' ho2
 unfold MkA.cells
 dsimp only
 have HB1:=Lib.hid hb1
 have HV1:=Lib.hid (HV.out.below hb1)
 have hbA:Below w1.heap.size w1 (w1.alloc (.cells #[.slice ra2 m.r.length rc2,.slice ba2 m.b.length bc2,.slice oa2 m.o.length oc2] 25)):=(Below.refl _ _).alloc (Nat.le_refl _) _
 have HBA:=Lib.hid hbA
 have HY:=Lib.hid (hy1.below hbA)
 have hvA:=heap_new w1 (.cells #[.slice ra2 m.r.length rc2,.slice ba2 m.b.length bc2,.slice oa2 m.o.length oc2] 25 (0,0))
 clear hb1 hy1 hb2 c0 c1 c2 c5
 go_wp2_with fail
 revert HBA HY hvA
 generalize w1.alloc (.cells #[.slice ra2 m.r.length rc2,.slice ba2 m.b.length bc2,.slice oa2 m.o.length oc2] 25)=w2
 intro HBA HY hvA
 have HB2:=Lib.hid (HB1.out.trans (HBA.out.mono HB1.out.size))
 have HV2:=Lib.hid (HV1.out.below HBA.out)
 have y0:w2.cell? ⟨w1.heap.size,0,none⟩=some (.slice ra2 m.r.length rc2):=by rw [cell_of_block hvA];rfl
 have y1:w2.cell? ⟨w1.heap.size,1,none⟩=some (.slice ba2 m.b.length bc2):=by rw [cell_of_block hvA];rfl
 have y2:w2.cell? ⟨w1.heap.size,2,none⟩=some (.slice oa2 m.o.length oc2):=by rw [cell_of_block hvA];rfl
 clear hvA hbA
 go_wp2_with fail
 refine (gains_any ⟨ra2,m.r.length,rc2,ba2,m.b.length,bc2,bv2,oa2,m.o.length,oc2⟩ ⟨m.r,m.b.set i [],m.o⟩ w2 HY.out).mono ?_
 rintro e w3 ⟨B3,rfl,hb3,hg3,_⟩
 dsimp only at hg3 ⊢
 rw [List.length_set] at hg3 ⊢
 have HB3:=Lib.hid (HB2.out.trans (hb3.mono HB2.out.size))
 have HV3:=Lib.hid (HV2.out.below hb3)
 have HG3:=Lib.hid hg3
 obtain ⟨d0,d1,d2,d3,d4,d5⟩:=HV3.out.cells
 dsimp only at d0
 clear hb3 hg3 y0 y1 y2 d1 d2 d3 d4 d5
 go_wp2_with fail
 refine (wBest_any (some ⟨B3,0,none⟩) m.b.length m.b.length (gnL m.r (m.b.set i [])) m.r.length w3 HG3.out (gnL_ok (mktB_ok (m:=⟨m.r,m.b.set i [],m.o⟩) HY.out.ok))).mono ?_
 rintro e w4 ⟨rfl,hb4⟩
 have HT:Hid (bestV (gnL m.r (m.b.set i [])).length m.r.length (gL (gnL m.r (m.b.set i [])))=topW m.r m.b i):=Lib.hid (by
   rw [← topV_set,gnL_length];exact bestV_congr fun x k hx hk=>gL_gnL hx hk)
 rw [HT.out]
 have HB4:=Lib.hid (HB3.out.trans (hb4.mono HB3.out.size))
 have HV4:=Lib.hid (HV3.out.below hb4)
 obtain ⟨e0,e1,e2,e3,e4,e5⟩:=HV4.out.cells
 have hkg:i<(gnL m.r m.b).length:=by rw [gnL_length];exact hi
 obtain ⟨b6,o6,x6,y6,z6,e6,hb6,hc6,hI6⟩:=HV4.out.gg.at i hkg
 cases e6
 rw [Nat.zero_add] at hc6
 have hrow:(gnL m.r m.b)[i]=gnR m.r m.b[i]:=by simp [gnL]
 rw [hrow] at hI6
 obtain ⟨b7,o7,rfl,hb7,hc7⟩:=hI6.at k (by rw [gnR_length];exact hk)
 have hv7:(gnR m.r m.b[i])[k]'(by rw [gnR_length];exact hk)=JM.gn m.r m.b i k:=by
   have:=gL_gnL (r:=m.r) hi hk
   rw [← this];unfold gL;rw [gnL_at hi,getD_get (by rw [gnR_length];exact hk)]
 rw [hv7] at hc7
 have hy6:=hI6.1
 rw [gnR_length] at hy6
 subst hy6
 have HSUM:Hid (Calls Tryz.prog 56 #[.pointer (some ⟨vb,0,none⟩)] w4.drew fun e w' => e=.returned (.int .i64 (sumV m.r m.b has))∧w4.drew=w'):=Lib.hid (sum_any vb _ m ha hc has pa pc P B w4.drew (HV4.out.below (Below.refl _ _).drew) HO.out)
 have HRES:Hid (topW m.r m.b i - (sumV m.r m.b has - JM.gn m.r m.b i k)=topW m.r m.b i - (sumV m.r m.b has - JM.gn m.r m.b i k)):=Lib.hid rfl
 have hw1:IntKind.i64.wrap (sumV m.r m.b has - JM.gn m.r m.b i k)=sumV m.r m.b has - JM.gn m.r m.b i k:=IntWalk.i64_in _ (by omega)
 have hw2:IntKind.i64.wrap (topW m.r m.b i - (sumV m.r m.b has - JM.gn m.r m.b i k))=topW m.r m.b i - (sumV m.r m.b has - JM.gn m.r m.b i k):=IntWalk.i64_in _ (by omega)
 clear hb4 e0 e1 e2 e3 e4 hI6 hrow hv7 d0
 go_wp2_with fail
 go_region_with (go_at_call 56;refine HSUM.out.mono ?_;rintro e w' ⟨rfl,rfl⟩)
 all_goals
   simp only [Act.put,List.getElem_toArray,List.getElem_cons_succ,List.getElem_cons_zero,List.setIfInBounds_toArray,List.set_cons_zero,List.set_cons_succ]
   go_wp2_with fail
   go_ret
   exact ⟨rfl,HB4.out.drew⟩
end
section
open Go.RowKit Go.Shelf
set_option linter.unusedVariables false
set_option linter.unusedSimpArgs false
attribute [local go_sem] Oper.semAt_some
set_option maxRecDepth 100000 in
set_option maxHeartbeats 8000000 in
theorem paid_any (vb:Nat) (x:MkA) (m:MkC) (ha:Option Addr) (hc:Nat) (has:List Int) (pa:Option Addr) (pc:Nat) (P:List Int) (B:Nat) (w:World) (h:VwT w vb x m ha hc has pa pc P B) (ho:HasOk m.r m.b has) :
   Calls Tryz.prog 36 #[.pointer (some ⟨vb,0,none⟩)] w fun e w' => e=.returned (.bool (decide (wantL2 m.r m.b has m.b.length=P)))∧Below w.heap.size w w':=by
 obtain ⟨c0,c1,c2,c3,c4,c5⟩:=h.cells
 have hrr:=h.mm.r
 have hrn:=hrr.1
 have hmo:=mktB_ok h.mm.ok
 have hk8:=hmo.hk
 have hn8:=hmo.hn
 have HMO:=Lib.hid hmo
 have HV:=Lib.hid h
 have HO:=Lib.hid ho
 have HL:=Lib.hid ho.l
 have HR:=Lib.hid (by rw [hrn] at hrr;exact hrr:IsI w x.ra m.r.length x.rc m.r)
 obtain ⟨N,hN⟩:∃ N,N=has.length:=⟨_,rfl⟩
 have HN:=Lib.hid hN
 have hH8:has.length≤8:=by have:=ho.l;omega
 clear h ho hrr hrn hmo hN c1 c2 c4 c5
 go_enter Tryz.func36,Tryz.ntmps36
 go_wp2_with fail
 refine (iclone_any x.ra m.r.length x.rc m.r w HR.out (by omega)).mono ?_
 rintro e w1 ⟨a1,d1,rfl,hb1,ho1⟩
 obtain ⟨g,rfl⟩:∃ g,a1=some ⟨g,0,none⟩:=by
   rcases ho1.2 with ⟨_,h0⟩ | ⟨g,cap,cur,hv,_⟩
   · omega
   · cases hv;exact ⟨g,rfl⟩
 have e3:=cell_later hb1 c3
 have HQ0:Hid (w1.ownsRow w.heap.size 3 1 (.slice (some ⟨g,0,none⟩) m.r.length d1) m.r.length (icells (wantL2 m.r m.b has 0))∧Below w.heap.size w w1):=Lib.hid ⟨by rw [wantL2_zero];exact ho1,hb1⟩
 clear c0 c3 hb1 ho1
 go_wp2_with fail
 clear e3
 go_loopw [18] (fun q wr => ∃ j:Nat,j≤has.length∧q=.int .i64 (j:Int)∧Hid (wr.ownsRow w.heap.size 3 1 (.slice (some ⟨g,0,none⟩) m.r.length d1) m.r.length (icells (wantL2 m.r m.b has j))∧Below w.heap.size w wr)) (fun q _=>N - (intOf q).toNat)
 case atStart=>exact ⟨0,Nat.zero_le _,rfl,HQ0⟩
 case round =>
   obtain ⟨j,hj,rfl,HQ⟩:=hrel
   have HVr:=Lib.hid (HV.out.below HQ.out.2)
   by_cases hlt:j<has.length
   · have hjb:j<m.b.length:=by rw [← HL.out];exact hlt
     obtain ⟨b1,o1,e1,hb1,hc1⟩:=HVr.out.hs.at j hlt
     subst e1
     obtain ⟨q1,q2⟩:=HO.out.low j hlt
     have hgd:has.getD j (-1)=has[j]:=by rw [getD_get hlt]
     by_cases hz:has[j] = -1
     · have HE:Hid (wantL2 m.r m.b has (j+1)=wantL2 m.r m.b has j):=Lib.hid (wantL2_none (JM.mo_none.2 (by rw [hgd];omega)))
       rw [hz] at hc1
       clear hgd q1 q2 hz
       go_wp2_with fail
       go_roundw
       case rel=>exact ⟨j+1,by omega,by go_num,by rw [HE.out];exact HQ⟩
       case measure=>have:=HN.out;simp [intOf];omega
     · obtain ⟨k,ek⟩:=Int.eq_ofNat_of_zero_le (show 0≤has[j] by omega)
       have hkr:k<m.r.length:=by omega
       have hmo2:JM.mo has j=some k:=JM.mo_some.2 (by rw [hgd];exact ek)
       have hwv:=wantV_bd HMO.out HO.out.mt (has:=has) hkr j (by omega)
       have hlv:=lost_bd HMO.out HO.out.mt (has:=has) hjb hkr
       have HLO:Hid (∀ w',Below wr.heap.size wr w'→Calls Tryz.prog 58 #[.pointer (some ⟨vb,0,none⟩),.int .i64 (j:Int),.int .i64 (k:Int)] w' fun e w'' => e=.returned (.int .i64 (topW m.r m.b j - (sumV m.r m.b has - JM.gn m.r m.b j k)))∧Below w'.heap.size w' w''):=Lib.hid (fun w' hw' => lost_any vb x m (some ⟨b1,o1,none⟩) hc has pa pc P B w' (HVr.out.below hw') HO.out j k hjb hkr)
       have HW2:=Lib.hid (wantL2_some hmo2 hkr (b:=m.b))
       have hwl:(wantL2 m.r m.b has j)[k]'(by rw [wantL2_length];exact hkr)=wantV m.r m.b has j k:=wantL2_at hkr
       have kw:=(owns_iset HQ.out.1 k (by rw [wantL2_length];exact hkr) 0).2
       rw [hwl] at kw
       obtain ⟨kw1,kw2⟩:=kw
       have HSET:Hid (∀ w',Below wr.heap.size wr w'→∀ v,v=wantV m.r m.b has j k+(topW m.r m.b j - (sumV m.r m.b has - JM.gn m.r m.b j k))→(w'.setCell ⟨g,k,none⟩ (.int .i64 v)).ownsRow w.heap.size 3 1 (.slice (some ⟨g,0,none⟩) m.r.length d1) m.r.length (icells (wantL2 m.r m.b has (j+1)))∧Below w.heap.size w (w'.setCell ⟨g,k,none⟩ (.int .i64 v))∧w'.cell? ⟨g,k,none⟩=some (.int .i64 (wantV m.r m.b has j k))∧w'.frozen? ⟨g,k,none⟩=false):=Lib.hid (fun w' hw' v hv=>by
         have h1:=owns_below HQ.out.1 hw'
         obtain ⟨h2,h3,h4⟩:=owns_iset h1 k (by rw [wantL2_length];exact hkr) v
         rw [hv,HW2.out] at h2
         rw [hwl] at h3
         exact ⟨by rw [hv];exact h2,(HQ.out.2.trans (hw'.mono HQ.out.2.size)).setCell (p:=⟨g,k,none⟩) (owns_base HQ.out.1 g rfl) _,h3,h4⟩)
       rw [ek] at hc1
       generalize wantV m.r m.b has j k=wv at hwv kw1 HSET
       generalize topW m.r m.b j - (sumV m.r m.b has - JM.gn m.r m.b j k)=lv at hlv HLO HSET
       have hsum:IntKind.i64.wrap (wv+lv)=wv+lv:=IntWalk.i64_in _ (by omega)
       clear hgd q1 q2 hz ek hmo2 hwl HW2
       go_wp2_with fail
       go_region_with (go_at_call 58;refine (HLO.out _ (Bel.out (w:=wr))).mono ?_;rintro e wa ⟨rfl,hba⟩;haveI ia:Bel wr wa:=Bel.then inferInstance hba;obtain ⟨s1,s2,s3,s4⟩:=HSET.out wa (Bel.out (w:=wr)) _ rfl)
       all_goals
         try simp only [Act.put,List.getElem_toArray,List.getElem_cons_succ,List.getElem_cons_zero,List.setIfInBounds_toArray,List.set_cons_zero,List.set_cons_succ]
         have HS:=Lib.hid (And.intro s1 s2)
         clear s1 s2 s3 s4 kw1 kw2 hba HLO
         go_wp2_with fail
         go_roundw
         case rel=>exact ⟨j+1,by omega,by go_num,by first | exact HS | exact Lib.hid ⟨owns_below HS.out.1 (Below.refl _ _).drew,HS.out.2.drew⟩⟩
         case measure=>have:=HN.out;simp [intOf];omega
   · have hjj:j=has.length:=by omega
     have HW:=Lib.hid (by have:=isI_of_owns HQ.out.1 (by rw [wantL2_length]);rwa [hjj,HL.out] at this:IsI wr (some ⟨g,0,none⟩) m.r.length d1 (wantL2 m.r m.b has m.b.length))
     obtain ⟨f0,f1,f2,f3,f4,f5⟩:=HVr.out.cells
     have HB:=Lib.hid HQ.out.2
     clear f0 f1 f2 f3 f5 hjj
     go_wp2_with fail
     refine (eqI_any _ pa _ _ _ pc _ P wr HW.out HVr.out.pr).mono ?_
     rintro e w9 ⟨rfl,q9,rfl⟩
     have HB9:=Lib.hid (HB.out.trans ((below_drewN (Below.refl wr.heap.size wr) q9).mono HB.out.size))
     clear f4
     generalize wr.drewN q9=w10 at HB9 ⊢
     obtain ⟨dd,hdd⟩:∃ dd,decide (wantL2 m.r m.b has m.b.length=P)=dd:=⟨_,rfl⟩
     have HD:=Lib.hid hdd
     rw [hdd]
     clear hdd
     go_wp2_with fail
     go_ret
     exact ⟨by rw [HD.out];rfl,HB9.out⟩
end
end Go.Proofs.YtmmmjohoihpbeaaGreat
