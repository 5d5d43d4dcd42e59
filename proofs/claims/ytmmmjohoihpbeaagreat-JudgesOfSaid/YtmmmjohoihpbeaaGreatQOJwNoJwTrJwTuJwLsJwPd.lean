/- Markets that may not be: Gains,Of;conditions: those typed. -/
import Derived.Test.YtmmmjohoihpbeaaGreatQOJmiJwOfJwEvJwVw
import Derived.Test.YtmmmjohoihpbeaaGreatQOJwWo
import Derived.Test.YtmmmjohoihpbeaaGreatQOGStOrdGStRecJwAJwBJwGJwEq
import Derived.Test.YtmmmjohoihpbeaaGreatQOJwEwJrK
import Derived.Test.YtmmmjohoihpbeaaGreatQOJwZJwZfJwZs
namespace Go.Proofs.YtmmmjohoihpbeaaGreat
section
open Go.RowKit Go.Shelf
set_option linter.unusedVariables false
set_option linter.unusedSimpArgs false
attribute [local go_sem] Oper.semAt_some
set_option maxRecDepth 100000 in
set_option maxHeartbeats 4000000 in
theorem gains_not (x:MkA) (m:MkC) (w:World) (h:IsMk w (fun _=>True) x m) (hrm:m.r.length≤17592186044416) (hq:mktB m=false) :
   Calls Tryz.prog 31 #[.agg x.cells.toArray] w fun e W=>e=.returned (.tuple #[.slice none 0 0,.int .i64 1])∧Below w.heap.size w W:=by
 obtain ⟨ra,rn,rc,ba,bn,bc,bv,oa,on,oc⟩:=x
 have hr:=h.r.1
 have hbb:=h.b
 have ho:=h.o.1
 unfold MkA.cells
 dsimp only at hr hbb ho ⊢
 obtain rfl:=hr.1
 obtain rfl:=hbb.1
 obtain rfl:=ho.1
 have HQ:=Lib.hid hq
 have HRM:=Lib.hid hrm
 have hb0:Below w.heap.size w (w.alloc (.cells #[.slice ra m.r.length rc,.slice ba m.b.length bc,.slice oa m.o.length oc] 25)):=(Below.refl _ _).alloc (Nat.le_refl _) _
 have hv:=heap_new w (.cells #[.slice ra m.r.length rc,.slice ba m.b.length bc,.slice oa m.o.length oc] 25 (0,0))
 have HV:=Lib.hid (h.below hb0)
 clear h hr hbb ho hq hrm
 go_enter Tryz.func31,Tryz.ntmps31
 go_wp2_with fail
 generalize w.alloc (.cells #[.slice ra m.r.length rc,.slice ba m.b.length bc,.slice oa m.o.length oc] 25)=W at hb0 hv HV ⊢
 have c0:W.cell? ⟨w.heap.size,0,none⟩=some (.slice ra m.r.length rc):=by rw [cell_of_block hv];rfl
 have c1:W.cell? ⟨w.heap.size,1,none⟩=some (.slice ba m.b.length bc):=by rw [cell_of_block hv];rfl
 have c2:W.cell? ⟨w.heap.size,2,none⟩=some (.slice oa m.o.length oc):=by rw [cell_of_block hv];rfl
 have HB0:=Lib.hid hb0
 clear hb0 hv
 go_wp2_with fail
 refine (mcheck_any _ ⟨ra,m.r.length,rc,ba,m.b.length,bc,bv,oa,m.o.length,oc⟩ m W HV.out (by have:=HRM.out;omega)).mono ?_;rintro e w1 ⟨rfl,hb1⟩
 rw [HQ.out]
 have HB1:=Lib.hid (HB0.out.trans (hb1.mono HB0.out.size))
 clear hb1 c0 c1 c2
 go_wp2_with fail
 go_ret2
 exact ⟨rfl,HB1.out⟩
end
section
open Go.RowKit Go.Shelf
set_option linter.unusedVariables false
set_option linter.unusedSimpArgs false
attribute [local go_sem] Oper.semAt_some
set_option maxHeartbeats 1000000 in
theorem iiclone_any (P:Nat→Prop) (a:Option Addr) (n c:Nat) (vs:List Value) (L:List (List Int)) (w:World) (h:IsIIp w P a n c vs L) (hm:L.length≤100000) :
   Calls Tryz.prog 26 #[.slice a n c] w fun e w' => ∃ a' c',e=.returned (.slice a' L.length c')∧Below w.heap.size w w'∧w'.ownsRow w.heap.size 22 1 (.slice a' L.length c') L.length vs:=by
 have hq:∀ (w:World) (a:Option Addr) (n c:Nat),(binOp .eql 23 (.slice a n c) (.slice none 0 0)).run Tryz.prog w=.ok (.bool a.isNone) w:=fun w a n c=>Lib.run_eql_slice_nil w _ _ a n c 0 0 Tryz.underlying23
 obtain rfl:=h.1
 have hvl:=h.2.2.2.1.1
 cases a with
 | none =>
   have hnil:L=[]:=by
     obtain ⟨_,_,_,_,h | ⟨_,_,h,_⟩⟩:=h
     · exact h
     · cases h
   have hv0:vs=[]:=List.eq_nil_of_length_eq_zero (by rw [hvl,hnil];rfl)
   subst hnil hv0
   clear h
   go_enter Tryz.func26,Tryz.ntmps26
   go_wp2
   go_ret
   exact ⟨none,0,rfl,Below.refl _ _,World.ownsRow_nil _ _ _ _⟩
 | some x =>
   have hat:=(h.below ((Below.refl _ w).alloc (Nat.le_refl _) (.cells #[] 22))).at
   have hone:=h.2.2.2.1.one
   clear h
   have HVL:=Lib.hid hvl
   clear hvl
   go_enter Tryz.func26,Tryz.ntmps26
   go_wp2_with (at_builtin;refine wpList_append_any rowII rfl _ _ rfl w.heap.size _ 0 [] rfl (World.ownsRow_made w #[] 0 (Nat.le_refl _) (Nat.zero_le _) rfl) (some x) L.length c vs rfl (by rw [HVL.out];omega) hat hone (by unfold maxLen;omega) (by omega) (by simp) ?_;intro b2 c2 w2 hown2 hg2 hat2;simp only [Nat.zero_add,List.nil_append] at hown2 hat2)
   go_ret
   refine ⟨b2,c2,rfl,((Below.refl _ w).alloc (Nat.le_refl _) _).grown hg2 (by simp) (fun j hj => ?_),hown2⟩
   have hj':some w.heap.size=some j:=hj
   cases hj'
   exact Nat.le_refl _
set_option maxRecDepth 100000 in
set_option maxHeartbeats 4000000 in
theorem jhas_any (x:MkA) (m:MkC) (i:Nat) (ba:Option Addr) (bn bc:Nat) (bid:List Int) (w:World) (h:MkT w x m) (hi:i<m.b.length) (hb:IsI w ba bn bc bid) (hbl:bid.length=m.r.length) (hbd:∀ z ∈ bid,0≤z∧z≤1000000) :
   Calls Tryz.prog 27 #[.agg x.cells.toArray,.int .i64 (i:Int),.slice ba bn bc] w fun e W => ∃ has P,e=.returned (.int .i64 (JM.gval (fun _ k=>bid.getD k 0 - P.getD k 0) (JM.mo has) i))∧Below w.heap.size w W∧JM.OutOk m.r m.b has P:=by
 obtain ⟨ra,rn,rc,ba0,bn0,bc0,bv,oa,on,oc⟩:=x
 have hr:=h.r
 have hbb:=h.b
 have ho:=h.o
 unfold MkA.cells
 dsimp only at hr hbb ho ⊢
 obtain rfl:=hr.1
 obtain rfl:=hbb.1
 obtain rfl:=ho.1
 obtain rfl:=hb.1
 have hmo:=mktB_ok h.ok
 have hk8:=hmo.hk.2
 have hn8:=hmo.hn.2
 have hb0:Below w.heap.size w (w.alloc (.cells #[.slice ra m.r.length rc,.slice ba0 m.b.length bc0,.slice oa m.o.length oc] 25)):=(Below.refl _ _).alloc (Nat.le_refl _) _
 have hv:=heap_new w (.cells #[.slice ra m.r.length rc,.slice ba0 m.b.length bc0,.slice oa m.o.length oc] 25 (0,0))
 have HM:=Lib.hid (h.below hb0)
 have HBI:=Lib.hid hb
 have HBD:=Lib.hid hbd
 have HBL:=Lib.hid hbl
 clear h hr hbb ho hmo hb hbd hbl
 go_enter Tryz.func27,Tryz.ntmps27
 go_wp2_with fail
 generalize w.alloc (.cells #[.slice ra m.r.length rc,.slice ba0 m.b.length bc0,.slice oa m.o.length oc] 25)=W at hb0 hv HM ⊢
 have c0:W.cell? ⟨w.heap.size,0,none⟩=some (.slice ra m.r.length rc):=by rw [cell_of_block hv];rfl
 have c1:W.cell? ⟨w.heap.size,1,none⟩=some (.slice ba0 m.b.length bc0):=by rw [cell_of_block hv];rfl
 have c2:W.cell? ⟨w.heap.size,2,none⟩=some (.slice oa m.o.length oc):=by rw [cell_of_block hv];rfl
 have HB0:=Lib.hid hb0
 clear hb0 hv
 go_wp2_with fail
 refine (outOf_any ⟨ra,m.r.length,rc,ba0,m.b.length,bc0,bv,oa,m.o.length,oc⟩ m W HM.out).mono ?_
 rintro e w1 ⟨ha,hc,pa,pc,has,P,rfl,hb1,hh1,hp1,hok⟩
 have HB1:=Lib.hid (HB0.out.trans (hb1.mono HB0.out.size))
 have HOK:=Lib.hid hok
 have hbA:Below w1.heap.size w1 (w1.alloc (.cells #[.slice ha m.b.length hc,.slice pa m.r.length pc] 27)):=(Below.refl _ _).alloc (Nat.le_refl _) _
 have hvA:=heap_new w1 (.cells #[.slice ha m.b.length hc,.slice pa m.r.length pc] 27 (0,0))
 have HBA:=Lib.hid hbA
 have HHA:=Lib.hid (hh1.below hbA)
 have HPA:=Lib.hid (hp1.below hbA)
 have HBB:=Lib.hid ((HBI.out.below HB1.out).below hbA)
 have hll:=hok.hl
 have hpl:=hok.pl
 have hih:i<has.length:=by omega
 have y0:(w1.alloc (.cells #[.slice ha m.b.length hc,.slice pa m.r.length pc] 27)).cell? ⟨w1.heap.size,0,none⟩=some (.slice ha m.b.length hc):=by rw [cell_of_block hvA];rfl
 have y1:(w1.alloc (.cells #[.slice ha m.b.length hc,.slice pa m.r.length pc] 27)).cell? ⟨w1.heap.size,1,none⟩=some (.slice pa m.r.length pc):=by rw [cell_of_block hvA];rfl
 obtain ⟨b5,o5,rfl,_,c5⟩:=HHA.out.at i hih
 have hlow:=hok.low i hi
 have hgd:has.getD i (-1)=has[i]:=getD_get hih
 rw [hgd] at hlow
 have HLL:=Lib.hid hll
 have HPL:=Lib.hid hpl
 clear hb1 hh1 hp1 hok hbA hvA c0 c1 c2 hll hpl
 by_cases hz:has[i] = -1
 · have HV:Hid (JM.gval (fun _ k=>bid.getD k 0 - P.getD k 0) (JM.mo has) i=0):=Lib.hid (JM.gval_none (JM.mo_none.2 (by rw [hgd];omega)))
   rw [hz] at c5
   clear hz hgd hlow
   go_wp2_with fail
   go_ret
   exact ⟨has,P,by rw [HV.out];rfl,HB1.out.trans (HBA.out.mono HB1.out.size),HOK.out⟩
 · obtain ⟨k,ek⟩:=Int.eq_ofNat_of_zero_le (show 0≤has[i] by omega)
   have hmo2:JM.mo has i=some k:=JM.mo_some.2 (by rw [hgd];exact ek)
   have hkr:=HOK.out.mt.lt i k hi hmo2
   have hkb:k<bid.length:=by rw [HBL.out];exact hkr
   have hkp:k<P.length:=by rw [HPL.out];exact hkr
   have HV:Hid (JM.gval (fun _ k=>bid.getD k 0 - P.getD k 0) (JM.mo has) i=bid[k] - P[k]):=Lib.hid (by rw [JM.gval_some hmo2,getD_get hkb,getD_get hkp])
   have hpb:0≤P[k]∧P[k]≤2000000:=by
     have h1:=HOK.out.even.p k hkr
     have h2:=(mktB_ok HM.out.ok).hr k hkr
     rw [getD_get hkp] at h1
     omega
   have hbb:=HBD.out _ (List.getElem_mem hkb)
   obtain ⟨b6,o6,rfl,_,c6⟩:=HBB.out.at k hkb
   obtain ⟨b7,o7,rfl,_,c7⟩:=HPA.out.at k hkp
   have hdl:(k:Int)<m.r.length:=by omega
   have hbl2:=HBL.out
   rw [ek] at c5
   generalize bid[k]=xv at c6 hbb HV
   generalize P[k]=pv at c7 hpb HV
   have hw1:IntKind.i64.wrap (xv - pv)=xv - pv:=IntWalk.i64_in _ (by omega)
   have hw2:wrap64 (xv - pv)=xv - pv:=by unfold wrap64;omega
   have dk:((k:Int) != -1)=true:=by rw [bne_iff_ne];omega
   clear hz hgd hlow ek hmo2
   go_wp2_with fail
   go_quiet (fail)
   go_wp2_with fail
   go_ret
   exact ⟨has,P,by rw [HV.out];rfl,(HB1.out.trans (HBA.out.mono HB1.out.size)).trans ((below_drewN (Below.refl _ _) nq).mono (HB1.out.trans (HBA.out.mono HB1.out.size)).size),HOK.out⟩
end
section
open Go.RowKit Go.Shelf
set_option linter.unusedVariables false
set_option linter.unusedSimpArgs false
attribute [local go_sem] Oper.semAt_some
def HdY (wB w:World) (b:Nat) (L:List (List Int)):Prop:=∃ C:Array Value,w.heap[b]?=some (.cells C 22 (0,0))∧L.length≤C.size∧∀ i (h:i<L.length),∃ x y z,C[i]?=some (.slice x y z)∧IsI wB x y z L[i]
theorem HdY.of {wB w:World} {P:Nat→Prop} {B g c:Nat} {vs:List Value} {L:List (List Int)} (ho:w.ownsRow B 22 1 (.slice (some ⟨g,0,none⟩) L.length c) L.length vs) (hv:IIv wB P vs L):HdY wB w g L:=by
 rcases ho.2 with ⟨h,_⟩ | ⟨g',cap,cur,h,hb,hg,hnc,hcm,hcs,htk⟩
 · cases h
 · cases h
   refine ⟨cur,hg,by rw [hcs];omega,fun i hi => ?_⟩
   obtain ⟨x,y,z,h1,h2⟩:=hv.2 i hi
   refine ⟨x,y,z,?_,h2.1⟩
   rw [← htk,Nat.mul_one,List.getElem?_take_of_lt hi,Array.getElem?_toList] at h1
   exact h1
theorem HdY.cell {wB w:World} {b:Nat} {L:List (List Int)} (h:HdY wB w b L) {i:Nat} (hi:i<L.length):(∃ x y z,w.cell? ⟨b,i,none⟩=some (.slice x y z))∧w.frozen? ⟨b,i,none⟩=false:=by
 obtain ⟨C,h1,h2,h3⟩:=h
 obtain ⟨x,y,z,h4,_⟩:=h3 i hi
 exact ⟨⟨x,y,z,by rw [cell_of_block h1];exact h4⟩,blk_free h1⟩
theorem HdY.other {wB w w':World} {b:Nat} {L:List (List Int)} (h:HdY wB w b L) (hh:w'.heap[b]?=w.heap[b]?):HdY wB w' b L:=by
 obtain ⟨C,h1,h2⟩:=h
 exact ⟨C,hh.trans h1,h2⟩
theorem HdY.set {wB w:World} {b:Nat} {L:List (List Int)} (h:HdY wB w b L) {i:Nat} (hi:i<L.length) {x:Option Addr} {y z:Nat} {l:List Int} (hl:IsI wB x y z l):HdY wB (w.setCell ⟨b,i,none⟩ (.slice x y z)) b (L.set i l):=by
 obtain ⟨C,h1,h2,h3⟩:=h
 refine ⟨_,heap_setCell_same _ b i _ _ _ h1,by simp [h2],fun j hj => ?_⟩
 have hj':j<L.length:=by simpa using hj
 by_cases e:i=j
 · subst e
   have hiC:i<C.size:=by omega
   exact ⟨x,y,z,by simp [hiC],by rw [List.getElem_set_self];exact hl⟩
 · obtain ⟨x',y',z',h4,h5⟩:=h3 j hj'
   exact ⟨x',y',z',by rw [Array.getElem?_setIfInBounds,if_neg e];exact h4,by rw [List.getElem_set_ne e];exact h5⟩
theorem HdY.isIIp {wB w:World} {b c:Nat} {L:List (List Int)} (h:HdY wB w b L) (hb:Below wB.heap.size wB w) (hc:L.length≤c) (hm:c≤maxLen):∃ vs,IsIIp w (fun _=>True) (some ⟨b,0,none⟩) L.length c vs L:=by
 obtain ⟨C,h1,h2,h3⟩:=h
 refine ⟨C.toList.take L.length,rfl,hc,hm,⟨by simp [h2],fun i hi => ?_⟩,.inr ⟨b,0,rfl,trivial,lt_of_heap h1,fun i hi => ?_⟩⟩
 · obtain ⟨x,y,z,h4,h5⟩:=h3 i hi
   exact ⟨x,y,z,by rw [List.getElem?_take_of_lt hi,Array.getElem?_toList];exact h4,h5.below hb,fun _ _ _ _=>trivial⟩
 · have hi':i<L.length:=by simp at hi;omega
   rw [cell_of_block h1,Nat.zero_add,Array.getElem?_eq_getElem (by omega)];simp
def TruC (m:MkC) (i:Int) (bid:List Int):Prop:=mktB m=true∧0≤i∧i<m.b.length∧m.b.getD i.toNat []≠[]∧mktB ⟨m.r,m.b.set i.toNat bid,m.o⟩=true
def TruQ (m:MkC) (i:Int) (bid:List Int) (w:World) (e:Ending) (W:World):Prop:=∃ v:Bool,e=.returned (.tuple #[.bool v,.int .i64 (if v then 0 else 1)])∧(v=true↔TruC m i bid)∧Below w.heap.size w W
def HasQ (m:MkC) (i:Nat) (bid:List Int) (w:World) (e:Ending) (W:World):Prop:=∃ has P,e=.returned (.int .i64 (JM.gval (fun _ k=>bid.getD k 0 - P.getD k 0) (JM.mo has) i))∧Below w.heap.size w W∧JM.OutOk m.r m.b has P
set_option maxRecDepth 100000 in
set_option maxHeartbeats 8000000 in
theorem true_any (x:MkA) (m:MkC) (i:Int) (da:Option Addr) (dn dc:Nat) (bid:List Int) (w:World) (h:IsMk w (fun _=>True) x m) (hrm:m.r.length≤17592186044416) (hi:-9223372036854775808≤i∧i≤9223372036854775807) (hd:IsI w da dn dc bid) :
   Calls Tryz.prog 12 #[.agg x.cells.toArray,.int .i64 i,.slice da dn dc] w (TruQ m i bid w):=by
 obtain ⟨ra,rn,rc,ba,bn,bc,bv,oa,on,oc⟩:=x
 have hr:=h.r.1
 have hbb:=h.b
 have ho:=h.o.1
 unfold MkA.cells
 dsimp only at hr hbb ho ⊢
 obtain rfl:=hr.1
 obtain rfl:=hbb.1
 obtain rfl:=ho.1
 obtain rfl:=hd.1
 have hml:=hbb.2.1
 have hml2:=hbb.2.2.1
 have hb0:Below w.heap.size w (w.alloc (.cells #[.slice ra m.r.length rc,.slice ba m.b.length bc,.slice oa m.o.length oc] 25)):=(Below.refl _ _).alloc (Nat.le_refl _) _
 have hv:=heap_new w (.cells #[.slice ra m.r.length rc,.slice ba m.b.length bc,.slice oa m.o.length oc] 25 (0,0))
 have HM:=Lib.hid (h.below hb0)
 have HD:=Lib.hid (hd.below hb0)
 have HRM:=Lib.hid hrm
 clear h hr hbb ho hd hrm
 go_enter Tryz.func12,Tryz.ntmps12
 go_wp2_with fail
 generalize w.alloc (.cells #[.slice ra m.r.length rc,.slice ba m.b.length bc,.slice oa m.o.length oc] 25)=W at hb0 hv HM HD ⊢
 have c0:W.cell? ⟨w.heap.size,0,none⟩=some (.slice ra m.r.length rc):=by rw [cell_of_block hv];rfl
 have c1:W.cell? ⟨w.heap.size,1,none⟩=some (.slice ba m.b.length bc):=by rw [cell_of_block hv];rfl
 have c2:W.cell? ⟨w.heap.size,2,none⟩=some (.slice oa m.o.length oc):=by rw [cell_of_block hv];rfl
 have HB0:=Lib.hid hb0
 have HV0:=Lib.hid hv
 clear hb0 hv
 go_wp2_with fail
 refine (mcheck_any _ ⟨ra,m.r.length,rc,ba,m.b.length,bc,bv,oa,m.o.length,oc⟩ m W HM.out (by have:=HRM.out;omega)).mono ?_;rintro e w1 ⟨rfl,hb1⟩
 have HB1:=Lib.hid (HB0.out.trans (hb1.mono HB0.out.size))
 have HM1:=Lib.hid (HM.out.below hb1)
 have HD1:=Lib.hid (HD.out.below hb1)
 have HV1:=Lib.hid (below_heap hb1 HV0.out (lt_of_heap HV0.out))
 have k0:=cell_later hb1 c0
 have k1:=cell_later hb1 c1
 have k2:=cell_later hb1 c2
 clear hb1 c0 c1 c2
 cases hq:mktB m with
 | false =>
   have HNO:Hid (¬ TruC m i bid):=Lib.hid (fun e=>by rw [e.1] at hq;cases hq)
   clear hq
   go_wp2_with fail
   go_ret2
   exact ⟨false,rfl,⟨(fun e=>by cases e),fun e=>absurd e HNO.out⟩,HB1.out⟩
 | true =>
 have HQ:=Lib.hid hq
 have hmo:=mktB_ok hq
 have HMO:=Lib.hid hmo
 have hn8:=hmo.hn
 have hk8:=hmo.hk
 clear hq hmo
 by_cases i1:i<0
 case pos =>
   have d1:decide (i<0)=true:=decide_eq_true i1
   have HNO:Hid (¬ TruC m i bid):=Lib.hid (fun e=>by have:=e.2.1;omega)
   clear i1
   go_wp2_with fail
   go_ret2
   exact ⟨false,rfl,⟨(fun e=>by cases e),fun e=>absurd e HNO.out⟩,HB1.out⟩
 case neg =>
 have d1:decide (i<0)=false:=decide_eq_false i1
 by_cases i2:(m.b.length:Int)≤i
 case pos =>
   have d2:decide ((m.b.length:Int)≤i)=true:=decide_eq_true i2
   have HNO:Hid (¬ TruC m i bid):=Lib.hid (fun e=>by have:=e.2.2.1;omega)
   clear i1 i2
   go_wp2_with fail
   go_ret2
   exact ⟨false,rfl,⟨(fun e=>by cases e),fun e=>absurd e HNO.out⟩,HB1.out⟩
 case neg =>
 have d2:decide ((m.b.length:Int)≤i)=false:=decide_eq_false i2
 obtain ⟨q,rfl⟩:=Int.eq_ofNat_of_zero_le (show 0≤i by omega)
 have hqn:q<m.b.length:=by omega
 have d3:decide (m.b.length≤q)=false:=decide_eq_false (by omega)
 have hnq:¬ m.b.length≤q:=by omega
 have HMT:Hid (MkT w1 ⟨ra,m.r.length,rc,ba,m.b.length,bc,bv,oa,m.o.length,oc⟩ m):=Lib.hid ⟨HM1.out,HQ.out⟩
 obtain ⟨b4,o4,x4,y4,z4,e4,hb4,hc4,hI4⟩:=HMT.out.b.at q hqn
 dsimp only at e4
 subst e4
 have HBI:=Lib.hid hI4
 have HGQ:Hid (m.b.getD q []=m.b[q]):=Lib.hid (getD_get hqn)
 clear hI4 i1 i2
 by_cases hbe:m.b[q]=[]
 case pos =>
   have hy:y4=0:=by rw [HBI.out.1,hbe];rfl
   subst hy
   have HNO:Hid (¬ TruC m (q:Int) bid):=Lib.hid (fun e=>e.2.2.2.1 (by rw [Int.toNat_natCast,HGQ.out];exact hbe))
   clear hbe
   go_wp2_with fail
   go_ret2
   exact ⟨false,rfl,⟨(fun e=>by cases e),fun e=>absurd e HNO.out⟩,HB1.out⟩
 case neg =>
 have hbb:=(mktB_bd HQ.out).2.2.2.2 _ (List.getElem_mem hqn)
 obtain ⟨_,hb2,hb3⟩:=bidB_bd hbb
 have hbl:m.b[q].length=m.r.length:=(okB_bd (hb2 (fun e=>hbe (List.eq_nil_of_length_eq_zero e)))).2.2.1
 have hy:y4=m.r.length:=by rw [HBI.out.1,hbl]
 subst hy
 have HBE:=Lib.hid hbe
 have HBL:=Lib.hid hbl
 have HBD:=Lib.hid hb3
 have dl:((m.r.length:Int) == 0)=false:=by rw [beq_eq_false_iff_ne];omega
 clear hbb hb2 hb3 hbe hbl
 have k1A:=cell_alloc k1 (.cells #[.slice ra m.r.length rc,.slice (some ⟨b4,o4,none⟩) m.b.length bc,.slice oa m.o.length oc] 25 (0,0))
 go_wp2_with fail
 have hbA:Below w1.heap.size w1 (w1.alloc (.cells #[.slice ra m.r.length rc,.slice (some ⟨b4,o4,none⟩) m.b.length bc,.slice oa m.o.length oc] 25 (0,0))):=(Below.refl _ _).alloc (Nat.le_refl _) _
 have hvA:=heap_new w1 (.cells #[.slice ra m.r.length rc,.slice (some ⟨b4,o4,none⟩) m.b.length bc,.slice oa m.o.length oc] 25 (0,0))
 have hsA:(w1.alloc (.cells #[.slice ra m.r.length rc,.slice (some ⟨b4,o4,none⟩) m.b.length bc,.slice oa m.o.length oc] 25 (0,0))).heap.size=w1.heap.size+1:=by simp
 generalize (w1.alloc (.cells #[.slice ra m.r.length rc,.slice (some ⟨b4,o4,none⟩) m.b.length bc,.slice oa m.o.length oc] 25 (0,0)))=w2 at hbA hvA hsA ⊢
 obtain ⟨O,hO⟩:∃ O,w1.heap.size=O:=⟨_,rfl⟩
 have HO1:Hid (w1.heap.size≤O∧O<w2.heap.size):=Lib.hid ⟨by omega,by omega⟩
 rw [hO] at hvA ⊢
 have HM2b:=HM1.out.b.below hbA
 dsimp only at HM2b
 refine (iiclone_any _ (some ⟨b4,o4,none⟩) m.b.length bc bv m.b w2 HM2b (by omega)).mono ?_
 rintro e w3 ⟨a5,d5,rfl,hb3,ho3⟩
 obtain ⟨g,rfl⟩:∃ g,a5=some ⟨g,0,none⟩:=by
   rcases ho3.2 with ⟨_,h0⟩ | ⟨g,cap,cur,hv,_⟩
   · omega
   · cases hv;exact ⟨g,rfl⟩
 have hgb:=owns_base ho3 g rfl
 obtain ⟨hcap1,hcap2,_⟩:=owns_caps ho3
 have hY3:HdY w1 w3 g m.b:=HdY.of ho3 HM1.out.b.2.2.2.1
 have HGO:Hid (w1.heap.size≤g∧O≠g):=Lib.hid ⟨by have:=HO1.out;have:=hbA.size;omega,by have:=HO1.out;omega⟩
 have hv3:=below_heap hb3 hvA (lt_of_heap hvA)
 have cO1:w3.cell? ⟨O,1,none⟩=some (.slice (some ⟨b4,o4,none⟩) m.b.length bc):=by rw [cell_of_block hv3];rfl
 have zO1:w3.frozen? ⟨O,1,none⟩=false:=blk_free hv3
 have hb13:Below w1.heap.size w1 w3:=hbA.trans (hb3.mono hbA.size)
 have k13:w3.cell? ⟨w.heap.size,1,none⟩=some (.slice (some ⟨b4,o4,none⟩) m.b.length bc):=cell_later hb13 k1
 have hv4:(w3.setCell ⟨O,1,none⟩ (.slice (some ⟨g,0,none⟩) m.b.length d5)).heap[O]?=some (.cells #[.slice ra m.r.length rc,.slice (some ⟨g,0,none⟩) m.b.length d5,.slice oa m.o.length oc] 25 (0,0)):=by
   rw [heap_setCell_same w3 O 1 _ _ _ hv3];rfl
 have cO4:(w3.setCell ⟨O,1,none⟩ (.slice (some ⟨g,0,none⟩) m.b.length d5)).cell? ⟨O,1,none⟩=some (.slice (some ⟨g,0,none⟩) m.b.length d5):=by rw [cell_of_block hv4];rfl
 have hY4:HdY w1 (w3.setCell ⟨O,1,none⟩ (.slice (some ⟨g,0,none⟩) m.b.length d5)) g m.b:=hY3.other (Below.heap_setCell w3 ⟨O,1,none⟩ _ g (fun e=>HGO.out.2 e.symm))
 obtain ⟨⟨xg,yg,zg,cg⟩,zg4⟩:=hY4.cell hqn
 have hb14:Below w1.heap.size w1 (w3.setCell ⟨O,1,none⟩ (.slice (some ⟨g,0,none⟩) m.b.length d5)):=hb13.setCell (p:=⟨O,1,none⟩) HO1.out.1 _
 have hY5:=hY4.set hqn HD1.out
 have hb15:Below w1.heap.size w1 ((w3.setCell ⟨O,1,none⟩ (.slice (some ⟨g,0,none⟩) m.b.length d5)).setCell ⟨g,q,none⟩ (.slice da bid.length dc)):=hb14.setCell (p:=⟨g,q,none⟩) HGO.out.1 _
 have hv5:((w3.setCell ⟨O,1,none⟩ (.slice (some ⟨g,0,none⟩) m.b.length d5)).setCell ⟨g,q,none⟩ (.slice da bid.length dc)).heap[O]?=some (.cells #[.slice ra m.r.length rc,.slice (some ⟨g,0,none⟩) m.b.length d5,.slice oa m.o.length oc] 25 (0,0)):=(Below.heap_setCell _ ⟨g,q,none⟩ _ O HGO.out.2).trans hv4
 have s0:((w3.setCell ⟨O,1,none⟩ (.slice (some ⟨g,0,none⟩) m.b.length d5)).setCell ⟨g,q,none⟩ (.slice da bid.length dc)).cell? ⟨O,0,none⟩=some (.slice ra m.r.length rc):=by rw [cell_of_block hv5];rfl
 have s1:((w3.setCell ⟨O,1,none⟩ (.slice (some ⟨g,0,none⟩) m.b.length d5)).setCell ⟨g,q,none⟩ (.slice da bid.length dc)).cell? ⟨O,1,none⟩=some (.slice (some ⟨g,0,none⟩) m.b.length d5):=by rw [cell_of_block hv5];rfl
 have s2:((w3.setCell ⟨O,1,none⟩ (.slice (some ⟨g,0,none⟩) m.b.length d5)).setCell ⟨g,q,none⟩ (.slice da bid.length dc)).cell? ⟨O,2,none⟩=some (.slice oa m.o.length oc):=by rw [cell_of_block hv5];rfl
 clear hvA hsA HM2b hb3 ho3 hgb hY3 hv3 hb13 hv4 hY4 hb14 hO hbA
 go_wp2_with fail
 generalize ((w3.setCell ⟨O,1,none⟩ (.slice (some ⟨g,0,none⟩) m.b.length d5)).setCell ⟨g,q,none⟩ (.slice da bid.length dc))=w5 at hY5 hb15 hv5 s0 s1 s2 ⊢
 obtain ⟨vs,hvs⟩:=hY5.isIIp hb15 (by rw [List.length_set];exact hcap1) hcap2
 rw [List.length_set] at hvs
 have HB5:=Lib.hid (HB1.out.trans (hb15.mono HB1.out.size))
 have HB15:=Lib.hid hb15
 have HMO5:Hid (IsMk w5 (fun _=>True) ⟨ra,m.r.length,rc,some ⟨g,0,none⟩,m.b.length,d5,vs,oa,m.o.length,oc⟩ ⟨m.r,m.b.set q bid,m.o⟩):=Lib.hid ⟨⟨HM1.out.r.1.below hb15,fun _ _ _ _=>trivial⟩,hvs,⟨HM1.out.o.1.below hb15,fun _ _ _ _=>trivial⟩⟩
 have HV5:=Lib.hid hv5
 have j0:=cell_later hb15 k0
 have j1:=cell_later hb15 k1
 have j2:=cell_later hb15 k2
 have jb:w5.cell? ⟨b4,o4+q,none⟩=some (.slice x4 m.r.length z4):=(hb15.cell (p:=⟨b4,o4+q,none⟩) hb4).trans hc4
 clear hvs hY5 hb15 hv5 k0 k1 k2 hc4 k1A cO1 zO1 k13 cO4 cg zg4
 refine (mcheck_any _ ⟨ra,m.r.length,rc,some ⟨g,0,none⟩,m.b.length,d5,vs,oa,m.o.length,oc⟩ ⟨m.r,m.b.set q bid,m.o⟩ w5 HMO5.out (by have:=HRM.out;show m.r.length≤_;omega)).mono ?_;rintro e w6 ⟨rfl,hb6⟩
 have HB6:=Lib.hid (HB5.out.trans (hb6.mono HB5.out.size))
 have HB16:=Lib.hid (HB15.out.trans (hb6.mono HB15.out.size))
 cases hq2:mktB ⟨m.r,m.b.set q bid,m.o⟩ with
 | false =>
   have HNO:Hid (¬ TruC m (q:Int) bid):=Lib.hid (fun e=>by have:=e.2.2.2.2;rw [Int.toNat_natCast,hq2] at this;cases this)
   clear hq2 hb6 s0 s1 s2 j0 j1 j2 jb
   go_wp2_with fail
   go_ret2
   exact ⟨false,rfl,⟨(fun e=>by cases e),fun e=>absurd e HNO.out⟩,HB6.out⟩
 | true =>
 have HYES:Hid (TruC m (q:Int) bid):=Lib.hid ⟨HQ.out,by omega,by omega,by rw [Int.toNat_natCast,HGQ.out];exact HBE.out,by rw [Int.toNat_natCast];exact hq2⟩
 have HMO6:Hid (MkT w6 ⟨ra,m.r.length,rc,some ⟨g,0,none⟩,m.b.length,d5,vs,oa,m.o.length,oc⟩ ⟨m.r,m.b.set q bid,m.o⟩):=Lib.hid ⟨HMO5.out.below hb6,hq2⟩
 have HMT6:Hid (MkT w6 ⟨ra,m.r.length,rc,some ⟨b4,o4,none⟩,m.b.length,bc,bv,oa,m.o.length,oc⟩ m):=Lib.hid (HMT.out.below HB16.out)
 have HBI6:=Lib.hid (HBI.out.below HB16.out)
 have HV6:=Lib.hid (below_heap hb6 HV5.out (lt_of_heap HV5.out))
 have l0:=cell_later hb6 j0
 have l1:=cell_later hb6 j1
 have l2:=cell_later hb6 j2
 have lb:=cell_later hb6 jb
 have r0:w6.cell? ⟨O,0,none⟩=some (.slice ra m.r.length rc):=by rw [cell_of_block HV6.out];rfl
 have r1:w6.cell? ⟨O,1,none⟩=some (.slice (some ⟨g,0,none⟩) m.b.length d5):=by rw [cell_of_block HV6.out];rfl
 have r2:w6.cell? ⟨O,2,none⟩=some (.slice oa m.o.length oc):=by rw [cell_of_block HV6.out];rfl
 clear hq2 hb6 s0 s1 s2 j0 j1 j2 jb
 have HHAS:Hid (∀ w',Below w6.heap.size w6 w'→Calls Tryz.prog 27 #[.agg #[.slice ra m.r.length rc,.slice (some ⟨b4,o4,none⟩) m.b.length bc,.slice oa m.o.length oc],.int .i64 (q:Int),.slice x4 m.r.length z4] w' (HasQ m q m.b[q] w')):=Lib.hid (fun w' hw' => jhas_any ⟨ra,m.r.length,rc,some ⟨b4,o4,none⟩,m.b.length,bc,bv,oa,m.o.length,oc⟩ m q x4 m.r.length z4 m.b[q] w' (HMT6.out.below hw') hqn (HBI6.out.below hw') HBL.out HBD.out)
 have HHAS2:Hid (∀ w',Below w6.heap.size w6 w'→Calls Tryz.prog 27 #[.agg #[.slice ra m.r.length rc,.slice (some ⟨g,0,none⟩) m.b.length d5,.slice oa m.o.length oc],.int .i64 (q:Int),.slice x4 m.r.length z4] w' (HasQ ⟨m.r,m.b.set q bid,m.o⟩ q m.b[q] w')):=Lib.hid (fun w' hw' => jhas_any ⟨ra,m.r.length,rc,some ⟨g,0,none⟩,m.b.length,d5,vs,oa,m.o.length,oc⟩ ⟨m.r,m.b.set q bid,m.o⟩ q x4 m.r.length z4 m.b[q] w' (HMO6.out.below hw') (by show q<(m.b.set q bid).length;rw [List.length_set];exact hqn) (HBI6.out.below hw') HBL.out HBD.out)
 have HE1:Hid (∀ (mm:Nat→Option Nat) (PP:List Int),JM.gval (fun i k=>(m.b.getD i []).getD k 0 - PP.getD k 0) mm q=JM.gval (fun _ k=>m.b[q].getD k 0 - PP.getD k 0) mm q):=Lib.hid (fun mm PP=>by
   have hgq:=HGQ.out
   cases hm:mm q with
   | none=>rw [JM.gval_none hm,JM.gval_none hm]
   | some k=>rw [JM.gval_some hm,JM.gval_some hm,hgq])
 have HNE:Hid (m.b.getD q []≠[]):=Lib.hid (by have hgq:=HGQ.out;rw [hgq];exact HBE.out)
 have HNN:Hid (∀ has P,JM.OutOk m.r m.b has P→0≤JM.gval (fun _ k=>m.b[q].getD k 0 - P.getD k 0) (JM.mo has) q):=Lib.hid (fun has P h1=>by
   have a1:=(h1.even.now q hqn HNE.out).1
   rw [HE1.out] at a1
   exact a1)
 have HHON:Hid (∀ has P has2 P2,JM.OutOk m.r m.b has P→JM.OutOk m.r (m.b.set q bid) has2 P2→JM.gval (fun _ k=>m.b[q].getD k 0 - P2.getD k 0) (JM.mo has2) q≤JM.gval (fun _ k=>m.b[q].getD k 0 - P.getD k 0) (JM.mo has) q):=Lib.hid (fun has P has2 P2 h1 h2=>by
   have a2:=JM.honest h1 h2 (by rw [List.length_set]) hqn HNE.out (fun x hx=>by
     rw [List.getD_eq_getElem?_getD,List.getD_eq_getElem?_getD,List.getElem?_set_ne (fun e=>hx e.symm)])
   rw [HE1.out,HE1.out] at a2
   exact a2)
 go_wp2_with fail
 go_cut [9] (fun s wx => ∃ (nv:Int) (has P:List Int),s=.int .i64 nv∧Hid (Below w6.heap.size w6 wx∧JM.gval (fun _ k=>m.b[q].getD k 0 - P.getD k 0) (JM.mo has) q=nv∧JM.OutOk m.r m.b has P))
 case first =>
   go_region_with (go_at_call 27;refine (HHAS.out _ (Bel.out (w:=w6))).mono ?_;rintro e w7 ⟨has,P,rfl,hb7,hok⟩)
   all_goals
     have HR:Hid (Below w6.heap.size w6 w7∧JM.OutOk m.r m.b has P):=Lib.hid ⟨((Below.refl _ w6).drew).trans hb7,hok⟩
     clear hb7 hok
     try simp only [Act.put,List.getElem_toArray,List.getElem_cons_succ,List.getElem_cons_zero,List.setIfInBounds_toArray,List.set_cons_zero,List.set_cons_succ]
     go_wp2_with fail
     go_meet
     exact ⟨_,has,P,rfl,Lib.hid ⟨HR.out.1,rfl,HR.out.2⟩⟩
 case rest =>
   obtain ⟨nv,has,P,rfl,HR⟩:=hcut
   obtain ⟨w7,rfl⟩:∃ w7:World,w7=wc:=⟨_,rfl⟩
   have hb7:=HR.out.1
   have n0:=cell_later hb7 l0
   have n1:=cell_later hb7 l1
   have n2:=cell_later hb7 l2
   have nb:=cell_later hb7 lb
   have s0:=cell_later hb7 r0
   have s1:=cell_later hb7 r1
   have s2:=cell_later hb7 r2
   have hnn:0≤nv:=by rw [← HR.out.2.1];exact HNN.out has P HR.out.2.2
   have dn:decide (0≤nv)=true:=decide_eq_true hnn
   clear l0 l1 l2 lb r0 r1 r2 hb7
   haveI ib:Bel w6 w7:=⟨HR.out.1⟩
   have HB7:=Lib.hid (HB6.out.trans (HR.out.1.mono HB6.out.size))
   go_wp2_with fail
   go_region_held3 (fun w' => w'.cell? ⟨w.heap.size,1,none⟩=some (.slice (some ⟨b4,o4,none⟩) m.b.length bc)∧w'.cell? ⟨b4,o4+q,none⟩=some (.slice x4 m.r.length z4)∧w'.cell? ⟨O,0,none⟩=some (.slice ra m.r.length rc)∧w'.cell? ⟨O,1,none⟩=some (.slice (some ⟨g,0,none⟩) m.b.length d5)∧w'.cell? ⟨O,2,none⟩=some (.slice oa m.o.length oc)) (first
       | with_reducible exact ⟨cell_later (Bel.out (w:=w7)) n1,cell_later (Bel.out (w:=w7)) nb,cell_later (Bel.out (w:=w7)) s0,cell_later (Bel.out (w:=w7)) s1,cell_later (Bel.out (w:=w7)) s2⟩
       | fail) (first
     | (go_at_call 27;((with_reducible refine (HHAS2.out _ (Bel.out (w:=w6))).mono ?_);rintro e w8 ⟨has2,P2,rfl,hb8,hok2⟩;haveI i8:Bel w7 w8:=Bel.then inferInstance hb8;have hle:JM.gval (fun _ k=>m.b[q].getD k 0 - P2.getD k 0) (JM.mo has2) q≤nv:=Int.le_trans (HHON.out has P has2 P2 HR.out.2.2 hok2) (Int.le_of_eq HR.out.2.1);have dle:decide (JM.gval (fun _ k=>m.b[q].getD k 0 - P2.getD k 0) (JM.mo has2) q≤nv)=true:=decide_eq_true hle;have dle2:decide (JM.gval (fun x k=>m.b[q][k]?.getD 0 - P2[k]?.getD 0) (JM.mo has2) q≤nv)=true:=dle;have dle3:JM.gval (fun x k=>m.b[q][k]?.getD 0 - P2[k]?.getD 0) (JM.mo has2) q≤nv:=hle))
     | fail)
   all_goals
     have HB8:Hid (Below w.heap.size w w8):=Lib.hid (HB7.out.trans (((Below.refl _ w7).drew.trans hb8).mono HB7.out.size))
     clear hb8
     try simp only [Act.put,List.getElem_toArray,List.getElem_cons_succ,List.getElem_cons_zero,List.setIfInBounds_toArray,List.set_cons_zero,List.set_cons_succ]
     go_wp2_with fail
     go_ret2
     exact ⟨true,rfl,⟨fun _=>HYES.out,fun _=>rfl⟩,HB8.out⟩
end
section
open Go.RowKit Go.Shelf
set_option linter.unusedVariables false
set_option linter.unusedSimpArgs false
attribute [local go_sem] Oper.semAt_some
set_option maxRecDepth 100000 in
set_option maxHeartbeats 8000000 in
theorem lost_any (vb:Nat) (x:MkA) (m:MkC) (ha:Option Addr) (hc:Nat) (has:List Int) (pa:Option Addr) (pc:Nat) (P:List Int) (B:Nat) (w:World) (h:VwT w vb x m ha hc has pa pc P B) (ho:HasOk m.r m.b has) (i k:Nat) (hi:i<m.b.length) (hk:k<m.r.length) :
   Calls Tryz.prog 58 #[.pointer (some ⟨vb,0,none⟩),.int .i64 (i:Int),.int .i64 (k:Int)] w fun e w' => e=.returned (.int .i64 (topW m.r m.b i - (sumV m.r m.b has - JM.gn m.r m.b i k)))∧Below w.heap.size w w':=by
 obtain ⟨ra,rn,rc,ba,bn,bc,bv,oa,on,oc⟩:=x
 have hr:=h.mm.r
 have hbb:=h.mm.b
 have hoo:=h.mm.o
 dsimp only at hr hbb hoo
 obtain rfl:=hr.1
 obtain rfl:=hbb.1
 obtain rfl:=hoo.1
 obtain ⟨c0,c1,c2,c3,c4,c5⟩:=h.cells
 dsimp only at c0 c1 c2
 have hmo:=mktB_ok h.mm.ok
 have HMO:=Lib.hid hmo
 have HV:=Lib.hid h
 have HO:=Lib.hid ho
 have hkb:=gn_bd hmo hi hk
 have htw:=topW_bd hmo i
 have hsv:=sumV_bd hmo ho.mt
 clear h ho hr hbb hoo hmo c3 c4
 go_enter Tryz.func58,Tryz.ntmps58
 go_wp2_with fail
 refine (without_any ⟨ra,m.r.length,rc,ba,m.b.length,bc,bv,oa,m.o.length,oc⟩ m i w HV.out.mm hi).mono ?_
 rintro e w1 ⟨y,rfl,hb1,hy1⟩
 obtain ⟨ra2,rn2,rc2,ba2,bn2,bc2,bv2,oa2,on2,oc2⟩:=y
 have hr2:=hy1.r.1
 have hb2:=hy1.b.1
 have ho2:=hy1.o.1
 dsimp only at hr2 hb2 ho2
 have hb2':bn2=m.b.length:=by rw [hb2];simp
 subst hr2 hb2' ho2
 unfold MkA.cells
 dsimp only
 have HB1:=Lib.hid hb1
 have HV1:=Lib.hid (HV.out.below hb1)
 have hbA:Below w1.heap.size w1 (w1.alloc (.cells #[.slice ra2 m.r.length rc2,.slice ba2 m.b.length bc2,.slice oa2 m.o.length oc2] 25)):=(Below.refl _ _).alloc (Nat.le_refl _) _
 have HBA:=Lib.hid hbA
 have HY:=Lib.hid (hy1.below hbA)
 have hvA:=heap_new w1 (.cells #[.slice ra2 m.r.length rc2,.slice ba2 m.b.length bc2,.slice oa2 m.o.length oc2] 25 (0,0))
 clear hb1 hy1 hb2 c0 c1 c2 c5
 go_wp2_with fail
 revert HBA HY hvA
 generalize w1.alloc (.cells #[.slice ra2 m.r.length rc2,.slice ba2 m.b.length bc2,.slice oa2 m.o.length oc2] 25)=w2
 intro HBA HY hvA
 have HB2:=Lib.hid (HB1.out.trans (HBA.out.mono HB1.out.size))
 have HV2:=Lib.hid (HV1.out.below HBA.out)
 have y0:w2.cell? ⟨w1.heap.size,0,none⟩=some (.slice ra2 m.r.length rc2):=by rw [cell_of_block hvA];rfl
 have y1:w2.cell? ⟨w1.heap.size,1,none⟩=some (.slice ba2 m.b.length bc2):=by rw [cell_of_block hvA];rfl
 have y2:w2.cell? ⟨w1.heap.size,2,none⟩=some (.slice oa2 m.o.length oc2):=by rw [cell_of_block hvA];rfl
 clear hvA hbA
 go_wp2_with fail
 refine (gains_any ⟨ra2,m.r.length,rc2,ba2,m.b.length,bc2,bv2,oa2,m.o.length,oc2⟩ ⟨m.r,m.b.set i [],m.o⟩ w2 HY.out).mono ?_
 rintro e w3 ⟨B3,rfl,hb3,hg3,_⟩
 dsimp only at hg3 ⊢
 rw [List.length_set] at hg3 ⊢
 have HB3:=Lib.hid (HB2.out.trans (hb3.mono HB2.out.size))
 have HV3:=Lib.hid (HV2.out.below hb3)
 have HG3:=Lib.hid hg3
 obtain ⟨d0,d1,d2,d3,d4,d5⟩:=HV3.out.cells
 dsimp only at d0
 clear hb3 hg3 y0 y1 y2 d1 d2 d3 d4 d5
 go_wp2_with fail
 refine (wBest_any (some ⟨B3,0,none⟩) m.b.length m.b.length (gnL m.r (m.b.set i [])) m.r.length w3 HG3.out (gnL_ok (mktB_ok (m:=⟨m.r,m.b.set i [],m.o⟩) HY.out.ok))).mono ?_
 rintro e w4 ⟨rfl,hb4⟩
 have HT:Hid (bestV (gnL m.r (m.b.set i [])).length m.r.length (gL (gnL m.r (m.b.set i [])))=topW m.r m.b i):=Lib.hid (by
   rw [← topV_set,gnL_length];exact bestV_congr fun x k hx hk=>gL_gnL hx hk)
 rw [HT.out]
 have HB4:=Lib.hid (HB3.out.trans (hb4.mono HB3.out.size))
 have HV4:=Lib.hid (HV3.out.below hb4)
 obtain ⟨e0,e1,e2,e3,e4,e5⟩:=HV4.out.cells
 have hkg:i<(gnL m.r m.b).length:=by rw [gnL_length];exact hi
 obtain ⟨b6,o6,x6,y6,z6,e6,hb6,hc6,hI6⟩:=HV4.out.gg.at i hkg
 cases e6
 rw [Nat.zero_add] at hc6
 have hrow:(gnL m.r m.b)[i]=gnR m.r m.b[i]:=by simp [gnL]
 rw [hrow] at hI6
 obtain ⟨b7,o7,rfl,hb7,hc7⟩:=hI6.at k (by rw [gnR_length];exact hk)
 have hv7:(gnR m.r m.b[i])[k]'(by rw [gnR_length];exact hk)=JM.gn m.r m.b i k:=by
   have:=gL_gnL (r:=m.r) hi hk
   rw [← this];unfold gL;rw [gnL_at hi,getD_get (by rw [gnR_length];exact hk)]
 rw [hv7] at hc7
 have hy6:=hI6.1
 rw [gnR_length] at hy6
 subst hy6
 have HSUM:Hid (Calls Tryz.prog 56 #[.pointer (some ⟨vb,0,none⟩)] w4.drew fun e w' => e=.returned (.int .i64 (sumV m.r m.b has))∧w4.drew=w'):=Lib.hid (sum_any vb _ m ha hc has pa pc P B w4.drew (HV4.out.below (Below.refl _ _).drew) HO.out)
 have HRES:Hid (topW m.r m.b i - (sumV m.r m.b has - JM.gn m.r m.b i k)=topW m.r m.b i - (sumV m.r m.b has - JM.gn m.r m.b i k)):=Lib.hid rfl
 have hw1:IntKind.i64.wrap (sumV m.r m.b has - JM.gn m.r m.b i k)=sumV m.r m.b has - JM.gn m.r m.b i k:=IntWalk.i64_in _ (by omega)
 have hw2:IntKind.i64.wrap (topW m.r m.b i - (sumV m.r m.b has - JM.gn m.r m.b i k))=topW m.r m.b i - (sumV m.r m.b has - JM.gn m.r m.b i k):=IntWalk.i64_in _ (by omega)
 clear hb4 e0 e1 e2 e3 e4 hI6 hrow hv7 d0
 go_wp2_with fail
 go_region_with (go_at_call 56;refine HSUM.out.mono ?_;rintro e w' ⟨rfl,rfl⟩)
 all_goals
   simp only [Act.put,List.getElem_toArray,List.getElem_cons_succ,List.getElem_cons_zero,List.setIfInBounds_toArray,List.set_cons_zero,List.set_cons_succ]
   go_wp2_with fail
   go_ret
   exact ⟨rfl,HB4.out.drew⟩
end
section
open Go.RowKit Go.Shelf
set_option linter.unusedVariables false
set_option linter.unusedSimpArgs false
attribute [local go_sem] Oper.semAt_some
set_option maxRecDepth 100000 in
set_option maxHeartbeats 8000000 in
theorem paid_any (vb:Nat) (x:MkA) (m:MkC) (ha:Option Addr) (hc:Nat) (has:List Int) (pa:Option Addr) (pc:Nat) (P:List Int) (B:Nat) (w:World) (h:VwT w vb x m ha hc has pa pc P B) (ho:HasOk m.r m.b has) :
   Calls Tryz.prog 36 #[.pointer (some ⟨vb,0,none⟩)] w fun e w' => e=.returned (.bool (decide (wantL2 m.r m.b has m.b.length=P)))∧Below w.heap.size w w':=by
 obtain ⟨c0,c1,c2,c3,c4,c5⟩:=h.cells
 have hrr:=h.mm.r
 have hrn:=hrr.1
 have hmo:=mktB_ok h.mm.ok
 have hk8:=hmo.hk
 have hn8:=hmo.hn
 have HMO:=Lib.hid hmo
 have HV:=Lib.hid h
 have HO:=Lib.hid ho
 have HL:=Lib.hid ho.l
 have HR:=Lib.hid (by rw [hrn] at hrr;exact hrr:IsI w x.ra m.r.length x.rc m.r)
 obtain ⟨N,hN⟩:∃ N,N=has.length:=⟨_,rfl⟩
 have HN:=Lib.hid hN
 have hH8:has.length≤8:=by have:=ho.l;omega
 clear h ho hrr hrn hmo hN c1 c2 c4 c5
 go_enter Tryz.func36,Tryz.ntmps36
 go_wp2_with fail
 refine (iclone_any x.ra m.r.length x.rc m.r w HR.out (by omega)).mono ?_
 rintro e w1 ⟨a1,d1,rfl,hb1,ho1⟩
 obtain ⟨g,rfl⟩:∃ g,a1=some ⟨g,0,none⟩:=by
   rcases ho1.2 with ⟨_,h0⟩ | ⟨g,cap,cur,hv,_⟩
   · omega
   · cases hv;exact ⟨g,rfl⟩
 have e3:=cell_later hb1 c3
 have HQ0:Hid (w1.ownsRow w.heap.size 3 1 (.slice (some ⟨g,0,none⟩) m.r.length d1) m.r.length (icells (wantL2 m.r m.b has 0))∧Below w.heap.size w w1):=Lib.hid ⟨by rw [wantL2_zero];exact ho1,hb1⟩
 clear c0 c3 hb1 ho1
 go_wp2_with fail
 clear e3
 go_loopw [18] (fun q wr => ∃ j:Nat,j≤has.length∧q=.int .i64 (j:Int)∧Hid (wr.ownsRow w.heap.size 3 1 (.slice (some ⟨g,0,none⟩) m.r.length d1) m.r.length (icells (wantL2 m.r m.b has j))∧Below w.heap.size w wr)) (fun q _=>N - (intOf q).toNat)
 case atStart=>exact ⟨0,Nat.zero_le _,rfl,HQ0⟩
 case round =>
   obtain ⟨j,hj,rfl,HQ⟩:=hrel
   have HVr:=Lib.hid (HV.out.below HQ.out.2)
   by_cases hlt:j<has.length
   · have hjb:j<m.b.length:=by rw [← HL.out];exact hlt
     obtain ⟨b1,o1,e1,hb1,hc1⟩:=HVr.out.hs.at j hlt
     subst e1
     obtain ⟨q1,q2⟩:=HO.out.low j hlt
     have hgd:has.getD j (-1)=has[j]:=by rw [getD_get hlt]
     by_cases hz:has[j] = -1
     · have HE:Hid (wantL2 m.r m.b has (j+1)=wantL2 m.r m.b has j):=Lib.hid (wantL2_none (JM.mo_none.2 (by rw [hgd];omega)))
       rw [hz] at hc1
       clear hgd q1 q2 hz
       go_wp2_with fail
       go_roundw
       case rel=>exact ⟨j+1,by omega,by go_num,by rw [HE.out];exact HQ⟩
       case measure=>have:=HN.out;simp [intOf];omega
     · obtain ⟨k,ek⟩:=Int.eq_ofNat_of_zero_le (show 0≤has[j] by omega)
       have hkr:k<m.r.length:=by omega
       have hmo2:JM.mo has j=some k:=JM.mo_some.2 (by rw [hgd];exact ek)
       have hwv:=wantV_bd HMO.out HO.out.mt (has:=has) hkr j (by omega)
       have hlv:=lost_bd HMO.out HO.out.mt (has:=has) hjb hkr
       have HLO:Hid (∀ w',Below wr.heap.size wr w'→Calls Tryz.prog 58 #[.pointer (some ⟨vb,0,none⟩),.int .i64 (j:Int),.int .i64 (k:Int)] w' fun e w'' => e=.returned (.int .i64 (topW m.r m.b j - (sumV m.r m.b has - JM.gn m.r m.b j k)))∧Below w'.heap.size w' w''):=Lib.hid (fun w' hw' => lost_any vb x m (some ⟨b1,o1,none⟩) hc has pa pc P B w' (HVr.out.below hw') HO.out j k hjb hkr)
       have HW2:=Lib.hid (wantL2_some hmo2 hkr (b:=m.b))
       have hwl:(wantL2 m.r m.b has j)[k]'(by rw [wantL2_length];exact hkr)=wantV m.r m.b has j k:=wantL2_at hkr
       have kw:=(owns_iset HQ.out.1 k (by rw [wantL2_length];exact hkr) 0).2
       rw [hwl] at kw
       obtain ⟨kw1,kw2⟩:=kw
       have HSET:Hid (∀ w',Below wr.heap.size wr w'→∀ v,v=wantV m.r m.b has j k+(topW m.r m.b j - (sumV m.r m.b has - JM.gn m.r m.b j k))→(w'.setCell ⟨g,k,none⟩ (.int .i64 v)).ownsRow w.heap.size 3 1 (.slice (some ⟨g,0,none⟩) m.r.length d1) m.r.length (icells (wantL2 m.r m.b has (j+1)))∧Below w.heap.size w (w'.setCell ⟨g,k,none⟩ (.int .i64 v))∧w'.cell? ⟨g,k,none⟩=some (.int .i64 (wantV m.r m.b has j k))∧w'.frozen? ⟨g,k,none⟩=false):=Lib.hid (fun w' hw' v hv=>by
         have h1:=owns_below HQ.out.1 hw'
         obtain ⟨h2,h3,h4⟩:=owns_iset h1 k (by rw [wantL2_length];exact hkr) v
         rw [hv,HW2.out] at h2
         rw [hwl] at h3
         exact ⟨by rw [hv];exact h2,(HQ.out.2.trans (hw'.mono HQ.out.2.size)).setCell (p:=⟨g,k,none⟩) (owns_base HQ.out.1 g rfl) _,h3,h4⟩)
       rw [ek] at hc1
       generalize wantV m.r m.b has j k=wv at hwv kw1 HSET
       generalize topW m.r m.b j - (sumV m.r m.b has - JM.gn m.r m.b j k)=lv at hlv HLO HSET
       have hsum:IntKind.i64.wrap (wv+lv)=wv+lv:=IntWalk.i64_in _ (by omega)
       clear hgd q1 q2 hz ek hmo2 hwl HW2
       go_wp2_with fail
       go_region_with (go_at_call 58;refine (HLO.out _ (Bel.out (w:=wr))).mono ?_;rintro e wa ⟨rfl,hba⟩;haveI ia:Bel wr wa:=Bel.then inferInstance hba;obtain ⟨s1,s2,s3,s4⟩:=HSET.out wa (Bel.out (w:=wr)) _ rfl)
       all_goals
         try simp only [Act.put,List.getElem_toArray,List.getElem_cons_succ,List.getElem_cons_zero,List.setIfInBounds_toArray,List.set_cons_zero,List.set_cons_succ]
         have HS:=Lib.hid (And.intro s1 s2)
         clear s1 s2 s3 s4 kw1 kw2 hba HLO
         go_wp2_with fail
         go_roundw
         case rel=>exact ⟨j+1,by omega,by go_num,by first | exact HS | exact Lib.hid ⟨owns_below HS.out.1 (Below.refl _ _).drew,HS.out.2.drew⟩⟩
         case measure=>have:=HN.out;simp [intOf];omega
   · have hjj:j=has.length:=by omega
     have HW:=Lib.hid (by have:=isI_of_owns HQ.out.1 (by rw [wantL2_length]);rwa [hjj,HL.out] at this:IsI wr (some ⟨g,0,none⟩) m.r.length d1 (wantL2 m.r m.b has m.b.length))
     obtain ⟨f0,f1,f2,f3,f4,f5⟩:=HVr.out.cells
     have HB:=Lib.hid HQ.out.2
     clear f0 f1 f2 f3 f5 hjj
     go_wp2_with fail
     refine (eqI_any _ pa _ _ _ pc _ P wr HW.out HVr.out.pr).mono ?_
     rintro e w9 ⟨rfl,q9,rfl⟩
     have HB9:=Lib.hid (HB.out.trans ((below_drewN (Below.refl wr.heap.size wr) q9).mono HB.out.size))
     clear f4
     generalize wr.drewN q9=w10 at HB9 ⊢
     obtain ⟨dd,hdd⟩:∃ dd,decide (wantL2 m.r m.b has m.b.length=P)=dd:=⟨_,rfl⟩
     have HD:=Lib.hid hdd
     rw [hdd]
     clear hdd
     go_wp2_with fail
     go_ret
     exact ⟨by rw [HD.out];rfl,HB9.out⟩
end
end Go.Proofs.YtmmmjohoihpbeaaGreat
