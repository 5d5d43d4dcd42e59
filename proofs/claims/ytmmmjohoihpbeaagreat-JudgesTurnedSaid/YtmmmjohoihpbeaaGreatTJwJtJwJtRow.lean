/- JudgesTurned: for every input it returns true;conditions: those typed. -/
import Derived.Test.YtmmmjohoihpbeaaGreatTJwLeJwLi
import Derived.Test.YtmmmjohoihpbeaaGreatTStMktJwEJwTm
import Derived.Test.YtmmmjohoihpbeaaGreatTMChkJwAr
import Derived.Test.YtmmmjohoihpbeaaGreatTGOpened
namespace Go.Proofs.YtmmmjohoihpbeaaGreat
section
open Go.RowKit Go.Shelf
set_option linter.unusedVariables false
set_option linter.unusedSimpArgs false
attribute [local go_sem] Oper.semAt_some
def trn (o:List Int) (t k:Nat):List Int:=(List.range o.length).map fun i=>if i<k then o.getD ((i+t) % o.length) 0 else o.getD i 0
theorem trn_length (o:List Int) (t k:Nat):(trn o t k).length=o.length:=by simp [trn]
theorem trn_get (o:List Int) (t k i:Nat) (h:i<o.length):(trn o t k)[i]?=some (if i<k then o.getD ((i+t) % o.length) 0 else o.getD i 0):=by
 unfold trn;rw [List.getElem?_map,List.getElem?_range h];rfl
theorem trn_zero (o:List Int) (t:Nat):trn o t 0=o:=by
 apply List.ext_getElem?
 intro i
 by_cases h:i<o.length
 · rw [trn_get o t 0 i h,if_neg (by omega),List.getD_eq_getElem?_getD,List.getElem?_eq_getElem h];rfl
 · rw [List.getElem?_eq_none (by rw [trn_length];omega),List.getElem?_eq_none (by omega)]
theorem trn_set (o:List Int) (t k:Nat) (h:k<o.length):(trn o t k).set k (o.getD ((k+t) % o.length) 0)=trn o t (k+1):=by
 apply List.ext_getElem?
 intro i
 by_cases hi:i<o.length
 · rw [trn_get o t (k+1) i hi,List.getElem?_set]
   by_cases e:k=i
   · subst e
     rw [if_pos rfl,if_pos (by rw [trn_length];exact hi),if_pos (by omega)]
   · rw [if_neg e,trn_get o t k i hi]
     by_cases h1:i<k
     · rw [if_pos h1,if_pos (by omega)]
     · rw [if_neg h1,if_neg (by omega)]
 · rw [List.getElem?_eq_none (by rw [List.length_set,trn_length];omega),List.getElem?_eq_none (by rw [trn_length];omega)]
theorem trn_ord {n:Nat} {o:List Int} (t:Nat) (h:ordC n o=true):ordC n (trn o t o.length)=true:=by
 obtain ⟨h1,_,_,h4⟩:=ord_bd h
 unfold ordC
 rw [Bool.and_eq_true,decide_eq_true_eq,List.all_eq_true]
 refine ⟨by rw [trn_length];exact h1,fun i hi => ?_⟩
 rw [List.mem_range] at hi
 rw [decide_eq_true_eq]
 obtain ⟨j,hj,e⟩:=List.getElem_of_mem (h4 i hi)
 have hn:0<o.length:=by omega
 have hq:((j+(o.length - t % o.length)) % o.length+t) % o.length=j:=by
   have ht:=Nat.mod_lt t hn
   rw [Nat.add_mod,Nat.mod_mod,← Nat.add_mod,Nat.add_assoc]
   have:o.length - t % o.length+t=o.length*(t / o.length+1):=by
     have:=Nat.div_add_mod t o.length
     rw [Nat.mul_add];omega
   rw [this,Nat.add_mul_mod_self_left]
   exact Nat.mod_eq_of_lt hj
 have hl:=Nat.mod_lt (j+(o.length - t % o.length)) hn
 have:=trn_get o t o.length _ hl
 rw [if_pos hl,hq,List.getD_eq_getElem?_getD,List.getElem?_eq_getElem hj,Option.getD_some,e] at this
 exact List.mem_of_getElem? this
theorem mktB_trn {m:MkC} (h:mktB m=true) (t:Nat):mktB ⟨m.r,m.b,trn m.o t m.o.length⟩=true:=by
 unfold mktB at h ⊢
 simp only [Bool.and_eq_true] at h ⊢
 exact ⟨h.1,h.2.1,h.2.2.1,trn_ord t h.2.2.2.1,h.2.2.2.2⟩
theorem smMk_of {m:MkC} (h:mktB m=true):SmMk m:=by
 obtain ⟨h1,h2,h3,h4,h5⟩:=mktB_bd h
 obtain ⟨k1,k2,_,k3⟩:=okB_bd h1
 refine ⟨by omega,by omega,fun l hl => ?_,by have:=(ord_bd h4).1;omega⟩
 obtain ⟨_,q2,q3⟩:=bidB_bd (h5 l hl)
 by_cases e:l.length=0
 · omega
 · have:=(okB_bd (q2 e)).2.2.1
   omega
theorem TwK.isIIp {w:World} {B g gz:Nat} {gs:List Nat} {L:List (List Int)} (h:TwK w B g gs gz L) (hm:L.length≤1000000) (hl:∀ l ∈ L,l.length≤1000000) (P:Nat→Prop) (hg:P g) (hgs:∀ i (hi:i<gs.length),P gs[i]) :
   IsIIp w P (some ⟨g,0,none⟩) L.length (L.length+1) (uslices gs L) L:=by
 refine ⟨rfl,by omega,by unfold maxLen;omega,⟨uslices_length gs L h.len,fun i hi => ?_⟩,.inr ⟨g,0,rfl,hg,lt_of_heap h.row,fun i hi => ?_⟩⟩
 · have hi':i<gs.length:=by rw [h.len];exact hi
   exact ⟨_,_,_,uslices_get gs L i hi' hi,(h.each i hi' hi).1.isI (by have:=hl _ (List.getElem_mem hi);omega),fun b off e _=>by cases e;exact hgs i hi'⟩
 · rw [cell_of_block h.row,List.getElem?_toArray,Nat.zero_add,List.getElem?_append_left hi,List.getElem?_eq_getElem hi]
theorem leastSame {m:MkC} {o:List Int} {has P:List Int} {v1 v2:Bool} (h:mktB m=true) (h':mktB ⟨m.r,m.b,o⟩=true) (h2:v2=true↔mktB m=true∧LeastC m.r m.b has P) (h1:v1=true↔mktB ⟨m.r,m.b,o⟩=true∧LeastC m.r m.b has P):v2=v1:=by
 rw [Bool.eq_iff_iff,h2,h1]
 exact ⟨fun e=>⟨h',e.2⟩,fun e=>⟨h,e.2⟩⟩
set_option maxRecDepth 100000 in
set_option maxHeartbeats 8000000 in
theorem jturned_any (x:MkA) (m:MkC) (ha pa:Option Addr) (hn hc pn pc:Nat) (has P:List Int) (tq:UInt8) (w:World) (h:IsMk w (fun _=>True) x m) (hrm:m.r.length≤17592186044416) (hh:IsI w ha hn hc has) (hp:IsI w pa pn pc P) :
   Calls Tryz.prog 6 #[.agg x.cells.toArray,.agg #[.slice ha hn hc,.slice pa pn pc],.int .u8 tq.toNat] w fun e w' => e=.returned (.bool true)∧Below w.heap.size w w':=by
 obtain ⟨ra,rn,rc,ba,bn,bc,bv,oa,on,oc⟩:=x
 have hr:=h.r.1
 have hbb:=h.b
 have ho:=h.o.1
 unfold MkA.cells
 dsimp only at hr hbb ho ⊢
 obtain rfl:=hr.1
 obtain rfl:=hbb.1
 obtain rfl:=ho.1
 obtain rfl:=hh.1
 obtain rfl:=hp.1
 have htq:tq.toNat<256:=tq.toNat_lt
 generalize tq.toNat=T at htq ⊢
 obtain ⟨hb0,m0,m1⟩:=alloc2_facts w (.cells #[.slice ra m.r.length rc,.slice ba m.b.length bc,.slice oa m.o.length oc] 25 (0,0)) (.cells #[.slice ha has.length hc,.slice pa P.length pc] 27 (0,0))
 have HM:=Lib.hid h
 have HH:=Lib.hid hh
 have HP:=Lib.hid hp
 have HRM:=Lib.hid hrm
 clear h hr hbb ho hh hp hrm
 go_enter Tryz.func6,Tryz.ntmps6
 go_wp2_with fail
 generalize ((w.alloc (.cells #[.slice ra m.r.length rc,.slice ba m.b.length bc,.slice oa m.o.length oc] 25)).alloc (.cells #[.slice ha has.length hc,.slice pa P.length pc] 27))=W at hb0 m0 m1 ⊢
 have CM:Hid (∀ W',Below W.heap.size W W'→W'.cell? ⟨w.heap.size,0,none⟩=some (.slice ra m.r.length rc)∧W'.cell? ⟨w.heap.size,1,none⟩=some (.slice ba m.b.length bc)∧W'.cell? ⟨w.heap.size,2,none⟩=some (.slice oa m.o.length oc)):=Lib.hid (fun W' hW=>by
   have:=below_heap hW m0 (lt_of_heap m0)
   refine ⟨?_,?_,?_⟩ <;> (rw [cell_of_block this];rfl))
 have CO:Hid (∀ W',Below W.heap.size W W'→W'.cell? ⟨w.heap.size+1,0,none⟩=some (.slice ha has.length hc)∧W'.cell? ⟨w.heap.size+1,1,none⟩=some (.slice pa P.length pc)):=Lib.hid (fun W' hW=>by
   have:=below_heap hW m1 (lt_of_heap m1)
   refine ⟨?_,?_⟩ <;> (rw [cell_of_block this];rfl))
 have HB0:=Lib.hid hb0
 have HL1:=Lib.hid (lt_of_heap m1)
 obtain ⟨c0,c1,c2⟩:=CM.out W (Below.refl _ _)
 clear hb0 m0 m1
 go_wp2_with fail
 refine (mcheck_any _ ⟨ra,m.r.length,rc,ba,m.b.length,bc,bv,oa,m.o.length,oc⟩ m W (HM.out.below HB0.out) (by have:=HRM.out;omega)).mono ?_;rintro e w1 ⟨rfl,hb1⟩
 have HB1:=Lib.hid hb1
 clear hb1 c0 c1 c2
 cases hq:mktB m with
 | false =>
   clear hq
   go_wp2_with fail
   refine (lives_any w1).mono ?_
   rintro e w4 ⟨rfl,hb4⟩
   have HB4:=Lib.hid (HB0.out.trans ((HB1.out.trans (hb4.mono HB1.out.size)).mono HB0.out.size))
   clear hb4
   go_wp2_with fail
   go_ret
   exact ⟨rfl,HB4.out⟩
 | true =>
 have HQ:=Lib.hid hq
 have HS:=Lib.hid (smMk_of hq)
 have hmo:=mktB_ok hq
 have HN8:=Lib.hid hmo.hn
 have HOL:=Lib.hid (ord_bd (mktB_bd hq).2.2.2.1).1
 clear hq hmo
 obtain ⟨k0,k1,k2⟩:=CM.out _ HB1.out
 go_wp2_with fail
 refine (twinMk_any ⟨ra,m.r.length,rc,ba,m.b.length,bc,bv,oa,m.o.length,oc⟩ m w1 (HM.out.below (HB0.out.trans (HB1.out.mono HB0.out.size))) HS.out).mono ?_
 rintro e w2 ⟨gr,gl,gs,gz,go,rfl,hb2,htw⟩
 have HB2:=Lib.hid (HB1.out.trans (hb2.mono HB1.out.size))
 have HTW:=Lib.hid htw
 have HGB:=Lib.hid (Nat.le_trans HB1.out.size (Nat.le_trans htw.rB (Nat.le_of_lt htw.ro)))
 clear hb2 htw k0 k1 k2
 go_wp2_with fail
 have hbA:Below w2.heap.size w2 (w2.alloc (.cells #[.slice (some ⟨gr,0,none⟩) m.r.length (m.r.length+1),.slice (some ⟨gl,0,none⟩) m.b.length (m.b.length+1),.slice (some ⟨go,0,none⟩) m.o.length (m.o.length+1)] 25 (0,0))):=(Below.refl _ _).alloc (Nat.le_refl _) _
 have hvA:=heap_new w2 (.cells #[.slice (some ⟨gr,0,none⟩) m.r.length (m.r.length+1),.slice (some ⟨gl,0,none⟩) m.b.length (m.b.length+1),.slice (some ⟨go,0,none⟩) m.o.length (m.o.length+1)] 25 (0,0))
 have HGO:Hid (go≠w2.heap.size):=Lib.hid (by have:=lt_of_heap HTW.out.o;omega)
 generalize (w2.alloc (.cells #[.slice (some ⟨gr,0,none⟩) m.r.length (m.r.length+1),.slice (some ⟨gl,0,none⟩) m.b.length (m.b.length+1),.slice (some ⟨go,0,none⟩) m.o.length (m.o.length+1)] 25 (0,0)))=w3 at hbA hvA ⊢
 have HB3:Hid (Below W.heap.size W w3):=Lib.hid (HB2.out.trans (hbA.mono HB2.out.size))
 have HTW3:=Lib.hid (HTW.out.below hbA)
 have HX3:Hid (w3.heap[w2.heap.size]?=some (.cells #[.slice (some ⟨gr,0,none⟩) m.r.length (m.r.length+1),.slice (some ⟨gl,0,none⟩) m.b.length (m.b.length+1),.slice (some ⟨go,0,none⟩) m.o.length (m.o.length+1)] 25 (0,0))):=Lib.hid hvA
 have HXW:Hid (W.heap.size≤w2.heap.size):=Lib.hid HB2.out.size
 clear hbA hvA
 generalize w2.heap.size=xb at HGO HX3 HXW ⊢
 obtain ⟨M,hM⟩:∃ M,M=m.o.length:=⟨_,rfl⟩
 have HMM:=Lib.hid hM
 clear hM
 go_loopw [8] (fun i wr => ∃ k:Nat,k≤m.o.length∧i=.int .i64 k∧Hid (Touch (fun j=>j=go) w3 wr∧TwJ wr go (trn m.o T k))) (fun i _=>M - (intOf i).toNat)
 case atStart=>exact ⟨0,Nat.zero_le _,rfl,Lib.hid ⟨Touch.refl _ _,by rw [trn_zero];exact HTW3.out.o⟩⟩
 case round =>
   obtain ⟨k,hk,rfl,HR⟩:=hrel
   have HBR:Hid (Below W.heap.size W wr):=Lib.hid (HB3.out.trans (HR.out.1.below HB3.out.size (fun j hj e=>by have:=HGB.out;omega)))
   have hxr:=HR.out.1.heap HX3.out (fun e=>HGO.out e.symm)
   have q2:wr.cell? ⟨xb,2,none⟩=some (.slice (some ⟨go,0,none⟩) m.o.length (m.o.length+1)):=by rw [cell_of_block hxr];rfl
   obtain ⟨k0,k1,k2⟩:=CM.out _ HBR.out
   by_cases hlt:k<m.o.length
   · have hio:IsI wr oa m.o.length oc m.o:=(HM.out.below (HB0.out.trans (HBR.out.mono HB0.out.size))).o.1
     obtain ⟨ob,off,rfl,hoc⟩:∃ ob off,oa=some ⟨ob,off,none⟩∧∀ i (hi:i<m.o.length),wr.cell? ⟨ob,off+i,none⟩=some (.int .i64 m.o[i]):=by
       obtain ⟨_,_,_,h | ⟨b,off,rfl,_,h⟩⟩:=hio
       · rw [h.1] at hlt;simp at hlt
       · exact ⟨b,off,rfl,h⟩
     have hjl:(k+T) % m.o.length<m.o.length:=Nat.mod_lt _ (by omega)
     have hcell:=hoc _ hjl
     have hgo:=HR.out.2
     unfold TwJ at hgo
     have hrow:wr.cell? ⟨go,k,none⟩=some (.int .i64 ((trn m.o T k)[k]'(by rw [trn_length];exact hlt))):=by
       rw [cell_of_block hgo,List.getElem?_toArray,List.getElem?_append_left (by rw [icells_length,trn_length];exact hlt),icells_get _ _ (by rw [trn_length];exact hlt)]
     have hfree:wr.frozen? ⟨go,k,none⟩=false:=blk_free hgo
     have dj:((k:Int)+(T:Int)) % (m.o.length:Int)=(((k+T) % m.o.length:Nat):Int):=by rw [Int.natCast_emod,Int.natCast_add]
     have hset:Hid (m.o.getD ((k+T) % m.o.length) 0=m.o[(k+T) % m.o.length]):=Lib.hid (getD_get hjl)
     generalize (trn m.o T k)[k]'(by rw [trn_length];exact hlt)=old at hrow
     have HV:Hid (Touch (fun j=>j=go) w3 (wr.setCell ⟨go,k,none⟩ (.int .i64 (m.o[(k+T) % m.o.length]))).drew∧TwJ (wr.setCell ⟨go,k,none⟩ (.int .i64 (m.o[(k+T) % m.o.length]))).drew go (trn m.o T (k+1))):=Lib.hid ⟨(HR.out.1.setCell ⟨go,k,none⟩ _ (.inl rfl)).drew,by
       show (wr.setCell ⟨go,k,none⟩ (.int .i64 (m.o[(k+T) % m.o.length]))).heap[go]?=_
       rw [heap_setCell_same wr go k _ _ _ hgo,← trn_set m.o T k hlt,← icells_set,hset.out]
       congr 2
       rw [List.setIfInBounds_toArray,List.set_append_left _ _ (by rw [icells_length,trn_length];exact hlt)]⟩
     generalize m.o[(k+T) % m.o.length]=vo at hcell HV
     generalize hJ:(k+T) % m.o.length=j at hcell hjl dj
     clear hio hoc hxr hgo hset hJ k0 k1
     have hl8:m.o.length≤8:=by have:=HOL.out;have:=HN8.out;omega
     have hk8:k<8:=by omega
     have hnil:m.o≠[]:=fun e=>by rw [e] at hlt;simp at hlt
     have dt:Int.tmod ((k:Int)+(T:Int)) (m.o.length:Int)=(j:Int):=by rw [Int.tmod_eq_emod_of_nonneg (by omega)];exact dj
     go_wp2_with fail
     go_region
     go_wp2_with fail
     go_roundw
     case rel=>exact ⟨k+1,by omega,by go_num,HV⟩
     case measure=>have:=HMM.out;simp [intOf];omega
   · have hkk:k=m.o.length:=by omega
     subst hkk
     have hlt':¬ m.o.length<m.o.length:=hlt
     have HTX:Hid (IsMk wr (fun _=>True) ⟨some ⟨gr,0,none⟩,m.r.length,m.r.length+1,some ⟨gl,0,none⟩,m.b.length,m.b.length+1,uslices gs m.b,some ⟨go,0,none⟩,m.o.length,m.o.length+1⟩ ⟨m.r,m.b,trn m.o T m.o.length⟩):=Lib.hid (by
       have ht:=HR.out.1
       have hw:=HTW3.out
       have hs:=HS.out
       have hgr:TwJ wr gr m.r:=ht.heap hw.r (fun e=>by have:=hw.ro;omega)
       have hkb:IsIIp w3 (fun j=>j≠go) (some ⟨gl,0,none⟩) m.b.length (m.b.length+1) (uslices gs m.b) m.b:=hw.b.isIIp hs.b hs.e _ (fun e=>by have:=hw.lo;omega) (fun i hi e=>by have:=hw.so i hi;omega)
       refine ⟨⟨hgr.isI (by have:=hs.r;omega),fun _ _ _ _=>trivial⟩,(hkb.touch ht (fun j hj=>hj)).imp (fun _ _=>trivial),⟨?_,fun _ _ _ _=>trivial⟩⟩
       have:=(HR.out.2).isI (by rw [trn_length];have:=hs.o;omega)
       rwa [trn_length] at this)
     have q0:wr.cell? ⟨xb,0,none⟩=some (.slice (some ⟨gr,0,none⟩) m.r.length (m.r.length+1)):=by rw [cell_of_block hxr];rfl
     have q1:wr.cell? ⟨xb,1,none⟩=some (.slice (some ⟨gl,0,none⟩) m.b.length (m.b.length+1)):=by rw [cell_of_block hxr];rfl
     have HXR:=Lib.hid hxr
     clear hxr HR hlt k0 k1 k2
     go_wp2_with fail
     refine (outOf_any ⟨some ⟨gr,0,none⟩,m.r.length,m.r.length+1,some ⟨gl,0,none⟩,m.b.length,m.b.length+1,uslices gs m.b,some ⟨go,0,none⟩,m.o.length,m.o.length+1⟩ ⟨m.r,m.b,trn m.o T m.o.length⟩ wr ⟨HTX.out,mktB_trn HQ.out T⟩).mono ?_
     rintro e w4 ⟨ha2,hc2,pa2,pc2,has2,P2,rfl,hb4,hh2,hp2,hok⟩
     have hb4':=hb4
     have HOK:=Lib.hid hok
     have hbA:Below w4.heap.size w4 (w4.alloc (.cells #[.slice ha2 m.b.length hc2,.slice pa2 m.r.length pc2] 27 (0,0))):=(Below.refl _ _).alloc (Nat.le_refl _) _
     have hvA:=heap_new w4 (.cells #[.slice ha2 m.b.length hc2,.slice pa2 m.r.length pc2] 27 (0,0))
     clear q0 q1 q2
     dsimp only at hh2 hp2 ⊢
     go_wp2_with fail
     generalize (w4.alloc (.cells #[.slice ha2 m.b.length hc2,.slice pa2 m.r.length pc2] 27 (0,0)))=w5 at hbA hvA ⊢
     have HB5:Hid (Below w.heap.size w w5):=Lib.hid (HB0.out.trans ((HBR.out.trans ((hb4.trans (hbA.mono hb4.size)).mono HBR.out.size)).mono HB0.out.size))
     have HMX:Hid (∀ W',Below w5.heap.size w5 W'→IsMk W' (fun _=>True) ⟨ra,m.r.length,rc,ba,m.b.length,bc,bv,oa,m.o.length,oc⟩ m):=Lib.hid (fun W' hW=>HM.out.below (HB5.out.trans (hW.mono HB5.out.size)))
     have HHX:Hid (∀ W',Below w5.heap.size w5 W'→IsI W' ha has.length hc has):=Lib.hid (fun W' hW=>HH.out.below (HB5.out.trans (hW.mono HB5.out.size)))
     have HPX:Hid (∀ W',Below w5.heap.size w5 W'→IsI W' pa P.length pc P):=Lib.hid (fun W' hW=>HP.out.below (HB5.out.trans (hW.mono HB5.out.size)))
     have HXX:Hid (∀ W',Below w5.heap.size w5 W'→IsMk W' (fun _=>True) ⟨some ⟨gr,0,none⟩,m.r.length,m.r.length+1,some ⟨gl,0,none⟩,m.b.length,m.b.length+1,uslices gs m.b,some ⟨go,0,none⟩,m.o.length,m.o.length+1⟩ ⟨m.r,m.b,trn m.o T m.o.length⟩):=Lib.hid (fun W' hW=>HTX.out.below ((hb4.trans (hbA.mono hb4.size)).trans (hW.mono (Nat.le_trans hb4.size hbA.size))))
     have HH2:Hid (∀ W',Below w5.heap.size w5 W'→IsI W' ha2 m.b.length hc2 has2):=Lib.hid (fun W' hW=>hh2.below (hbA.trans (hW.mono hbA.size)))
     have HP2:Hid (∀ W',Below w5.heap.size w5 W'→IsI W' pa2 m.r.length pc2 P2):=Lib.hid (fun W' hW=>hp2.below (hbA.trans (hW.mono hbA.size)))
     have FX:Hid (∀ W',Below w5.heap.size w5 W'→W'.cell? ⟨xb,0,none⟩=some (.slice (some ⟨gr,0,none⟩) m.r.length (m.r.length+1))∧W'.cell? ⟨xb,1,none⟩=some (.slice (some ⟨gl,0,none⟩) m.b.length (m.b.length+1))∧W'.cell? ⟨xb,2,none⟩=some (.slice (some ⟨go,0,none⟩) m.o.length (m.o.length+1))):=Lib.hid (fun W' hW=>by
       have:=below_heap ((hb4.trans (hbA.mono hb4.size)).trans (hW.mono (Nat.le_trans hb4.size hbA.size))) HXR.out (lt_of_heap HXR.out)
       refine ⟨?_,?_,?_⟩ <;> (rw [cell_of_block this];rfl))
     generalize w4.heap.size=pb at hvA ⊢
     have FR:Hid (∀ W',Below w5.heap.size w5 W'→W'.cell? ⟨w.heap.size,0,none⟩=some (.slice ra m.r.length rc)∧W'.cell? ⟨w.heap.size,1,none⟩=some (.slice ba m.b.length bc)∧W'.cell? ⟨w.heap.size,2,none⟩=some (.slice oa m.o.length oc)∧W'.cell? ⟨w.heap.size+1,0,none⟩=some (.slice ha has.length hc)∧W'.cell? ⟨w.heap.size+1,1,none⟩=some (.slice pa P.length pc)∧W'.cell? ⟨xb,0,none⟩=some (.slice (some ⟨gr,0,none⟩) m.r.length (m.r.length+1))∧W'.cell? ⟨xb,1,none⟩=some (.slice (some ⟨gl,0,none⟩) m.b.length (m.b.length+1))∧W'.cell? ⟨xb,2,none⟩=some (.slice (some ⟨go,0,none⟩) m.o.length (m.o.length+1))∧W'.cell? ⟨pb,0,none⟩=some (.slice ha2 m.b.length hc2)∧W'.cell? ⟨pb,1,none⟩=some (.slice pa2 m.r.length pc2)):=Lib.hid (fun W' hW=>by
       have hW0:Below W.heap.size W W':=HBR.out.trans ((hb4.trans ((hbA.trans (hW.mono hbA.size)).mono hb4.size)).mono HBR.out.size)
       obtain ⟨a0,a1,a2⟩:=CM.out _ hW0
       obtain ⟨a3,a4⟩:=CO.out _ hW0
       obtain ⟨a5,a6,a7⟩:=FX.out _ hW
       have:=below_heap hW hvA (lt_of_heap hvA)
       refine ⟨a0,a1,a2,a3,a4,a5,a6,a7,?_,?_⟩ <;> (rw [cell_of_block this];rfl))
     have FR0:=FR.out w5.drew (Below.refl _ _).drew
     clear hb4 hb4' hh2 hp2 hok hbA hvA FX
     obtain ⟨e0,e1,e2,e3,e4,e5,e6,e7,e8,e9⟩:=FR.out w5 (Below.refl _ _)
     have LA:Hid (∀ W',Below w5.heap.size w5 W'→Calls Tryz.prog 14 #[.agg #[.slice ra m.r.length rc,.slice ba m.b.length bc,.slice oa m.o.length oc],.agg #[.slice ha2 m.b.length hc2,.slice pa2 m.r.length pc2]] W' (LstQ m has2 P2 W')):=Lib.hid (fun W' hW=>least_any ⟨ra,m.r.length,rc,ba,m.b.length,bc,bv,oa,m.o.length,oc⟩ m ha2 pa2 m.b.length hc2 m.r.length pc2 has2 P2 W' (HMX.out _ hW) HRM.out (HH2.out _ hW) (HP2.out _ hW))
     have LB:Hid (∀ W',Below w5.heap.size w5 W'→Calls Tryz.prog 14 #[.agg #[.slice (some ⟨gr,0,none⟩) m.r.length (m.r.length+1),.slice (some ⟨gl,0,none⟩) m.b.length (m.b.length+1),.slice (some ⟨go,0,none⟩) m.o.length (m.o.length+1)],.agg #[.slice ha has.length hc,.slice pa P.length pc]] W' (LstQ ⟨m.r,m.b,trn m.o T m.o.length⟩ has P W')):=Lib.hid (fun W' hW=>least_any ⟨some ⟨gr,0,none⟩,m.r.length,m.r.length+1,some ⟨gl,0,none⟩,m.b.length,m.b.length+1,uslices gs m.b,some ⟨go,0,none⟩,m.o.length,m.o.length+1⟩ ⟨m.r,m.b,trn m.o T m.o.length⟩ ha pa has.length hc P.length pc has P W' (HXX.out _ hW) HRM.out (HHX.out _ hW) (HPX.out _ hW))
     have LC:Hid (∀ W',Below w5.heap.size w5 W'→Calls Tryz.prog 14 #[.agg #[.slice ra m.r.length rc,.slice ba m.b.length bc,.slice oa m.o.length oc],.agg #[.slice ha has.length hc,.slice pa P.length pc]] W' (LstQ m has P W')):=Lib.hid (fun W' hW=>least_any ⟨ra,m.r.length,rc,ba,m.b.length,bc,bv,oa,m.o.length,oc⟩ m ha pa has.length hc P.length pc has P W' (HMX.out _ hW) HRM.out (HHX.out _ hW) (HPX.out _ hW))
     have B5:Hid (Below w5.heap.size w5 w5.drew):=Lib.hid (Below.refl _ _).drew
     go_wp2_with fail
     go_region_held3 (fun W' => W'.cell? ⟨w.heap.size,0,none⟩=some (.slice ra m.r.length rc)∧W'.cell? ⟨w.heap.size,1,none⟩=some (.slice ba m.b.length bc)∧W'.cell? ⟨w.heap.size,2,none⟩=some (.slice oa m.o.length oc)∧W'.cell? ⟨w.heap.size+1,0,none⟩=some (.slice ha has.length hc)∧W'.cell? ⟨w.heap.size+1,1,none⟩=some (.slice pa P.length pc)∧W'.cell? ⟨xb,0,none⟩=some (.slice (some ⟨gr,0,none⟩) m.r.length (m.r.length+1))∧W'.cell? ⟨xb,1,none⟩=some (.slice (some ⟨gl,0,none⟩) m.b.length (m.b.length+1))∧W'.cell? ⟨xb,2,none⟩=some (.slice (some ⟨go,0,none⟩) m.o.length (m.o.length+1))∧W'.cell? ⟨pb,0,none⟩=some (.slice ha2 m.b.length hc2)∧W'.cell? ⟨pb,1,none⟩=some (.slice pa2 m.r.length pc2)) (first | with_reducible exact FR0 | with_reducible exact FR6 | with_reducible exact FR7 | with_reducible exact FR8 | with_reducible exact FR9) (first
       | (go_at_call 14;(with_reducible refine (LA.out _ B5.out).mono ?_);rintro e w6 ⟨v,rfl,hv,hb6⟩
          have hvt:v=true:=hv.2 ⟨HQ.out,HOK.out.leastC⟩
          subst hvt
          have B6:Hid (Below w5.heap.size w5 w6):=Lib.hid (B5.out.trans (hb6.mono B5.out.size))
          have FR6:=FR.out w6 B6.out
          clear hv hb6)
       | (go_at_call 14;(with_reducible refine (LB.out _ B6.out).mono ?_);rintro e w7 ⟨v1,rfl,hv1,hb7⟩
          have V1:=Lib.hid hv1
          have B7:Hid (Below w5.heap.size w5 w7):=Lib.hid (B6.out.trans (hb7.mono B6.out.size))
          have FR7:=FR.out w7 B7.out
          clear hv1 hb7)
       | (go_at_call 14;(with_reducible refine (LC.out _ B7.out).mono ?_);rintro e w8 ⟨v2,rfl,hv2,hb8⟩
          have hve:v2=v1:=leastSame HQ.out (mktB_trn HQ.out T) hv2 V1.out
          subst hve
          have B8:Hid (Below w5.heap.size w5 w8):=Lib.hid (B7.out.trans (hb8.mono B7.out.size))
          have FR8:=FR.out w8 B8.out
          clear hv2 hb8)
       | (go_at_call 8;(with_reducible refine (lives_any w8).mono ?_);rintro e w9 ⟨rfl,hb9⟩
          have B9:Hid (Below w5.heap.size w5 w9):=Lib.hid (B8.out.trans (hb9.mono B8.out.size))
          have FR9:=FR.out w9 B9.out
          clear hb9)
       | fail)
     have HB9:Hid (Below w.heap.size w w9):=Lib.hid (HB5.out.trans (B9.out.mono HB5.out.size))
     go_wp2_with fail
     go_ret
     exact ⟨rfl,HB9.out⟩
end
section
open Go.ChangeShapes Go.WideShapes Go.ChangeAt Go.RowKit
set_option linter.unusedVariables false
set_option maxRecDepth 100000 in
theorem judgesTurned_lifted (os:Os) (started:os.Started) (H:Type) (enc:TypeId × Value→H) :
   ReturnsInHanded {} Tryz.checked os 6 .any (Rows.judgesTurnedSpec.pre6 enc Tryz.prog Tryz.f6 Rows.judgesTurnedRow.domain false) (Rows.judgesTurnedSpec.post enc Tryz.prog Tryz.f6 false true false false):=by
 refine returnsInHanded_of_change6 (C:=Tryz.checked) own started (by kernel_rfl) Tryz.func6
   (ChangeSpec.witness6 (enc:=enc) (C:=Tryz.checked) false ⟨#[],#[.agg #[.slice none 0 0,.slice none 0 0,.slice none 0 0],.agg #[.slice none 0 0,.slice none 0 0],.int .u8 0],[]⟩ 8 (by kernel_rfl) (by kernel_rfl) (by kernel_rfl) (by kernel_rfl)) ?_
 intro W base args ds gs before hval0 hW _ hwt _
 have hval:∀ (j:Nat) t v,Tryz.f6.params[j]?=some t→args[j]?=some v→Value.okWide Tryz.prog W .any base t v:=hval0
 have hW':=hW
 obtain ⟨p,q,hA0,hV,rfl,hfz,hnd⟩:=hW
 have hA:DataW.TrodAll enc Tryz.prog W 0 (fun _=>true) true Tryz.f6.params.toList args.toList ds p:=hA0
 rw [Tryz.params6] at hA hval hwt
 obtain ⟨v0,vs0,x0,ds0,p0,q0,hargs0,rfl,rfl,H0,r0⟩:=trodAll_cons hA
 obtain ⟨v1,vs1,x1,ds1,p1,q1,hargs1,rfl,rfl,H1,r1⟩:=trodAll_cons r0
 obtain ⟨v2,vs2,x2,ds2,p2,q2,hargs2,rfl,rfl,H2,r2⟩:=trodAll_cons r1
 obtain ⟨rfl,rfl,rfl⟩:=trodAll_nil r2
 subst hargs2
 subst hargs1
 obtain rfl:args = #[v0,v1,v2]:=by cases args;simp_all
 obtain ⟨rfl,rfl⟩:=trodVars_none hV
 have sm:=small_of_all hwt
 have k0:=H0
 have k1:=H1
 have k2:=H2
 have lt0:∀ x ∈ p0,x.block<W.heap.size:=by obtain ⟨m,hm⟩:=k0;exact DataW.trod_lt m _ _ _ hm
 have lt1:∀ x ∈ p1,x.block<W.heap.size:=by obtain ⟨m,hm⟩:=k1;exact DataW.trod_lt m _ _ _ hm
 have lt2:∀ x ∈ p2,x.block<W.heap.size:=by obtain ⟨m,hm⟩:=k2;exact DataW.trod_lt m _ _ _ hm
 have o0:Opened Tryz.prog W 25 v0.cells.toList:=Opened.of H0 (weightsEach_get _ _ 0 25 _ sm rfl rfl)
 have o1:Opened Tryz.prog W 27 v1.cells.toList:=Opened.of H1 (weightsEach_get _ _ 1 27 _ sm rfl rfl)
 have o2:Opened Tryz.prog W 5 v2.cells.toList:=Opened.of H2 (weightsEach_get _ _ 2 5 _ sm rfl rfl)
 obtain ⟨mx,mm,rfl,hmk,hml⟩:=mkt_arg (hval 0 25 v0 rfl rfl) o0
 obtain ⟨ha,hn,hc,has,pa,pn,pc,P,rfl,hh,hp⟩:=out_arg (hval 1 27 v1 rfl rfl) o1
 obtain ⟨tq,hte⟩:=Opened.u8 o2 Tryz.underlying5
 obtain rfl:v2=.int .u8 tq.toNat:=list_one ((Opened.intV Tryz.underlying5 (hval 2 5 v2 rfl rfl)).symm.trans hte)
 clear hA0 hval0
 refine (jturned_any mx mm ha pa hn hc pn pc has P tq W hmk hml hh hp).mono fun e W' ⟨he,bel⟩ => ?_
 subst he
 exact ⟨_,rfl,_,_,_,[],_,[],hW',trodAll_mk1 (shut_bool Tryz.underlying4 _),(trodAll_cons_mk (Below.trod laidOut (by kernel_rfl) (of_decide_eq_true (by kernel_rfl)) k0 bel lt0) (trodAll_cons_mk (Below.trod laidOut (by kernel_rfl) (of_decide_eq_true (by kernel_rfl)) k1 bel lt1) (trodAll_cons_mk (Below.trod laidOut (by kernel_rfl) (of_decide_eq_true (by kernel_rfl)) k2 bel lt2) trodAll_mk0))),rfl,bel.frame _,fun h=>by cases h⟩
theorem judgesTurned_holds:Rows.JudgesTurnedSaid :=
 OpenClaim.holds_of_wide 6 Tryz.f6 rfl rfl rfl rfl rfl rfl rfl ⟨rfl,rfl,rfl,rfl,rfl⟩ rfl rfl rfl rfl rfl (by kernel_rfl) Tryz.func6 (by kernel_rfl)
   (of_decide_eq_true (by kernel_rfl)) (by unfold Func.isWrapper;first | (rw [if_pos (by decide +kernel)];kernel_rfl) | (rw [if_neg (by decide +kernel)];exact ⟨rfl,rfl⟩))
   (fun os started H enc _=>judgesTurned_lifted os started H enc)
#print axioms judgesTurned_holds
end
end Go.Proofs.YtmmmjohoihpbeaaGreat
