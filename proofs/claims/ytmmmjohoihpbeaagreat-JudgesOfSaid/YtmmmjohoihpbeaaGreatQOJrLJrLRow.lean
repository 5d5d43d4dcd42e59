/- JudgesOf: for every input it returns true;conditions: those typed. -/
import Derived.Test.YtmmmjohoihpbeaaGreatQOJrJJrN
import Derived.Test.YtmmmjohoihpbeaaGreatQOJrM
import Derived.Test.YtmmmjohoihpbeaaGreatQOJrPJrQJrO
import Derived.Test.YtmmmjohoihpbeaaGreatQOJwLeJwLi
import Derived.Test.YtmmmjohoihpbeaaGreatQOGOpened
namespace Go.Proofs.YtmmmjohoihpbeaaGreat
section
open Go.RowKit Go.Shelf
set_option linter.unusedVariables false
set_option linter.unusedSimpArgs false
attribute [local go_sem] Oper.semAt_some
theorem TwK.isIIp2 {w:World} {B g gz:Nat} {gs:List Nat} {L:List (List Int)} (h:TwK w B g gs gz L) (hm:L.length≤1000000) (hl:∀ l ∈ L,l.length≤1000000) (P:Nat→Prop) (hg:P g) (hgs:∀ i (hi:i<gs.length),P gs[i]) :
   IsIIp w P (some ⟨g,0,none⟩) L.length (L.length+1) (uslices gs L) L:=by
 refine ⟨rfl,by omega,by unfold maxLen;omega,⟨uslices_length gs L h.len,fun i hi => ?_⟩,.inr ⟨g,0,rfl,hg,lt_of_heap h.row,fun i hi => ?_⟩⟩
 · have hi':i<gs.length:=by rw [h.len];exact hi
   exact ⟨_,_,_,uslices_get gs L i hi' hi,(h.each i hi' hi).1.isI (by have:=hl _ (List.getElem_mem hi);omega),fun b off e _=>by cases e;exact hgs i hi'⟩
 · rw [cell_of_block h.row,List.getElem?_toArray,Nat.zero_add,List.getElem?_append_left hi,List.getElem?_eq_getElem hi]
set_option maxRecDepth 100000 in
set_option maxHeartbeats 16000000 in
theorem jof_any (x:MkA) (m:MkC) (ha pa da:Option Addr) (hn hc pn pc dn dc:Nat) (has P bid:List Int) (i:Int) (w:World) (h:IsMk w (fun _=>True) x m) (hf:FtMk m) (hh:IsI w ha hn hc has) (hp:IsI w pa pn pc P) (hd:IsI w da dn dc bid)
   (hhf:has.length≤17592186044416) (hpf:P.length≤17592186044416) (hdf:bid.length≤17592186044416) (hi:-9223372036854775808≤i∧i≤9223372036854775807) :
   Calls Tryz.prog 3 #[.agg (x.cells ++ [Value.slice ha hn hc,Value.slice pa pn pc,Value.int .i64 i,Value.slice da dn dc]).toArray] w fun e w' => e=.returned (.bool true)∧Below w.heap.size w w':=by
 obtain ⟨ra,rn,rc,ba,bn,bc,bv,oa,on,oc⟩:=x
 have hr:=h.r.1
 have hbb:=h.b
 have ho:=h.o.1
 unfold MkA.cells
 dsimp only at hr hbb ho ⊢
 obtain rfl:=hr.1
 obtain rfl:=hbb.1
 obtain rfl:=ho.1
 obtain rfl:=hh.1
 obtain rfl:=hp.1
 obtain rfl:=hd.1
 simp only [List.cons_append,List.nil_append]
 have hb0:Below w.heap.size w (w.alloc (.cells #[.slice ra m.r.length rc,.slice ba m.b.length bc,.slice oa m.o.length oc,.slice ha has.length hc,.slice pa P.length pc,.int .i64 i,.slice da bid.length dc] 29)):=(Below.refl _ _).alloc (Nat.le_refl _) _
 have hv:=heap_new w (.cells #[.slice ra m.r.length rc,.slice ba m.b.length bc,.slice oa m.o.length oc,.slice ha has.length hc,.slice pa P.length pc,.int .i64 i,.slice da bid.length dc] 29 (0,0))
 have HM:=Lib.hid (h.below hb0)
 have HH:=Lib.hid (hh.below hb0)
 have HP:=Lib.hid (hp.below hb0)
 have HD:=Lib.hid (hd.below hb0)
 have HF:=Lib.hid hf
 have HI:=Lib.hid hi
 clear h hf hr hbb ho hh hp hd hi
 go_enter Tryz.func3,Tryz.ntmps3
 go_wp2_with fail
 generalize w.alloc (.cells #[.slice ra m.r.length rc,.slice ba m.b.length bc,.slice oa m.o.length oc,.slice ha has.length hc,.slice pa P.length pc,.int .i64 i,.slice da bid.length dc] 29)=W at hb0 hv HM HH HP HD ⊢
 have HC:Hid (∀ W',Below W.heap.size W W'→(W'.cell? ⟨w.heap.size,0,none⟩=some (.slice ra m.r.length rc)∧W'.cell? ⟨w.heap.size,1,none⟩=some (.slice ba m.b.length bc)∧W'.cell? ⟨w.heap.size,2,none⟩=some (.slice oa m.o.length oc))∧W'.cell? ⟨w.heap.size,3,none⟩=some (.slice ha has.length hc)∧W'.cell? ⟨w.heap.size,4,none⟩=some (.slice pa P.length pc)∧W'.cell? ⟨w.heap.size,5,none⟩=some (.int .i64 i)∧W'.cell? ⟨w.heap.size,6,none⟩=some (.slice da bid.length dc)):=Lib.hid (fun W' hW=>by
   have h0:=below_heap hW hv (lt_of_heap hv)
   refine ⟨⟨?_,?_,?_⟩,?_,?_,?_,?_⟩ <;> (rw [cell_of_block h0];rfl))
 have HB0:=Lib.hid hb0
 have HRO:Hid (∀ W',Below W.heap.size W W'→W'.rangeAt w.heap.size 3 [.slice ha has.length hc,.slice pa P.length pc]):=Lib.hid (fun W' hW=>rangeAt_mid (below_heap hW hv (lt_of_heap hv)) rfl)
 obtain ⟨⟨c0,c1,c2⟩,c3,c4,c5,c6⟩:=HC.out W (Below.refl _ _)
 clear hb0 hv
 go_wp2_with fail
 refine (mksize_any ⟨ra,m.r.length,rc,ba,m.b.length,bc,bv,oa,m.o.length,oc⟩ m W HM.out HF.out).mono ?_
 rintro e w1 ⟨z,rfl,hb1,hz0,hz1,hz2⟩
 have HB1:=Lib.hid hb1
 have HZ:=Lib.hid hz2
 clear hb1 hz2 c0 c1 c2 c3 c4 c5 c6
 obtain ⟨⟨c0,c1,c2⟩,c3,c4,c5,c6⟩:=HC.out w1 HB1.out
 by_cases n1:1000<z
 case pos =>
   have d1:decide (1000<z)=true:=decide_eq_true n1
   clear n1
   go_wp2_with fail
   refine (lives_any w1).mono ?_
   rintro e w2 ⟨rfl,hb2⟩
   have HE:=Lib.hid (HB0.out.trans ((HB1.out.trans (hb2.mono HB1.out.size)).mono HB0.out.size))
   clear hb2
   go_wp2_with fail
   go_ret
   exact ⟨rfl,HE.out⟩
 case neg =>
 have d1:decide (1000<z)=false:=decide_eq_false n1
 have HS:=Lib.hid (HZ.out (by omega))
 have hw1:wrap64 ((has.length:Int)+(P.length:Int))=(has.length:Int)+(P.length:Int):=by unfold wrap64;omega
 have hw2:wrap64 ((has.length:Int)+(P.length:Int)+(bid.length:Int))=(has.length:Int)+(P.length:Int)+(bid.length:Int):=by unfold wrap64;omega
 by_cases n2:1000<(has.length:Int)+(P.length:Int)+(bid.length:Int)
 case pos =>
   have d2:decide (1000<(has.length:Int)+(P.length:Int)+(bid.length:Int))=true:=decide_eq_true n2
   clear n1 n2
   go_wp2_with fail
   refine (lives_any w1).mono ?_
   rintro e w2 ⟨rfl,hb2⟩
   have HE:=Lib.hid (HB0.out.trans ((HB1.out.trans (hb2.mono HB1.out.size)).mono HB0.out.size))
   clear hb2
   go_wp2_with fail
   go_ret
   exact ⟨rfl,HE.out⟩
 case neg =>
 have d2:decide (1000<(has.length:Int)+(P.length:Int)+(bid.length:Int))=false:=decide_eq_false n2
 have hs1:has.length≤1000000000:=by omega
 have hs2:P.length≤1000000000:=by omega
 have hs3:bid.length≤1000000000:=by omega
 have hrm:m.r.length≤17592186044416:=HF.out.r
 clear n1 n2 hz0 hz1 hhf hpf hdf
 go_wp2_with fail
 refine (twinMk_any ⟨ra,m.r.length,rc,ba,m.b.length,bc,bv,oa,m.o.length,oc⟩ m w1 (HM.out.below HB1.out) HS.out).mono ?_
 rintro e w2 ⟨gr,gl,gs,gz,go,rfl,hb2,htw⟩
 have HB2:=Lib.hid (HB1.out.trans (hb2.mono HB1.out.size))
 clear d1 d2 hw1 hw2 hb2 c0 c1 c2 c3 c4 c5 c6
 go_upto_region 4 with fail
 have hbA:Below w2.heap.size w2 (w2.alloc (.cells #[.slice (some ⟨gr,0,none⟩) m.r.length (m.r.length+1),.slice (some ⟨gl,0,none⟩) m.b.length (m.b.length+1),.slice (some ⟨go,0,none⟩) m.o.length (m.o.length+1)] 25 (0,0))):=(Below.refl _ _).alloc (Nat.le_refl _) _
 have hvA:=heap_new w2 (.cells #[.slice (some ⟨gr,0,none⟩) m.r.length (m.r.length+1),.slice (some ⟨gl,0,none⟩) m.b.length (m.b.length+1),.slice (some ⟨go,0,none⟩) m.o.length (m.o.length+1)] 25 (0,0))
 generalize (w2.alloc (.cells #[.slice (some ⟨gr,0,none⟩) m.r.length (m.r.length+1),.slice (some ⟨gl,0,none⟩) m.b.length (m.b.length+1),.slice (some ⟨go,0,none⟩) m.o.length (m.o.length+1)] 25 (0,0)))=w3 at hbA hvA ⊢
 have HB3:Hid (Below W.heap.size W w3):=Lib.hid (HB2.out.trans (hbA.mono HB2.out.size))
 have HTW3:=Lib.hid (htw.below hbA)
 have HX3:=Lib.hid hvA
 obtain ⟨xb,hxb⟩:∃ xb,w2.heap.size=xb:=⟨_,rfl⟩
 rw [hxb] at HX3 ⊢
 clear hbA hvA htw hxb
 obtain ⟨⟨c0,c1,c2⟩,c3,c4,c5,c6⟩:=HC.out w3 HB3.out
 go_wp2_with fail
 refine (twinO_any ha pa has.length hc P.length pc has P w3 (HH.out.below HB3.out) (HP.out.below HB3.out) hs1 hs2).mono ?_
 rintro e w4 ⟨gh,gp,rfl,hb4,ht1,ht2⟩
 have HB4:=Lib.hid (HB3.out.trans (hb4.mono HB3.out.size))
 have HTW4:=Lib.hid (HTW3.out.below hb4)
 have HX4:=Lib.hid (below_heap hb4 HX3.out (lt_of_heap HX3.out))
 clear hb4 c0 c1 c2 c3 c4 c5 c6
 go_upto_region 5 with fail
 have hbA:Below w4.heap.size w4 (w4.alloc (.cells #[.slice (some ⟨gh,0,none⟩) has.length (has.length+1),.slice (some ⟨gp,0,none⟩) P.length (P.length+1)] 27 (0,0))):=(Below.refl _ _).alloc (Nat.le_refl _) _
 have hvA:=heap_new w4 (.cells #[.slice (some ⟨gh,0,none⟩) has.length (has.length+1),.slice (some ⟨gp,0,none⟩) P.length (P.length+1)] 27 (0,0))
 generalize (w4.alloc (.cells #[.slice (some ⟨gh,0,none⟩) has.length (has.length+1),.slice (some ⟨gp,0,none⟩) P.length (P.length+1)] 27 (0,0)))=w5 at hbA hvA ⊢
 have HB5:Hid (Below W.heap.size W w5):=Lib.hid (HB4.out.trans (hbA.mono HB4.out.size))
 have HTW5:=Lib.hid (HTW4.out.below hbA)
 have HX5:=Lib.hid (below_heap hbA HX4.out (lt_of_heap HX4.out))
 have HTH5:Hid (TwJ w5 gh has∧TwJ w5 gp P):=Lib.hid ⟨below_heap hbA ht1 (lt_of_heap ht1),below_heap hbA ht2 (lt_of_heap ht2)⟩
 have HO5:=Lib.hid hvA
 obtain ⟨ob,hob⟩:∃ ob,w4.heap.size=ob:=⟨_,rfl⟩
 rw [hob] at HO5 ⊢
 clear hbA hvA ht1 ht2 hob HTW3 HTW4 HX3 HX4
 obtain ⟨⟨c0,c1,c2⟩,c3,c4,c5,c6⟩:=HC.out w5 HB5.out
 go_wp2_with fail
 refine (twinJ_ex da bid.length dc bid w5 hs3 (HD.out.below HB5.out)).mono ?_
 rintro e w6 ⟨gd,rfl,hb6,ht6,_⟩
 have HB6:=Lib.hid (HB5.out.trans (hb6.mono HB5.out.size))
 have HS6:Hid (∀ W',Below w6.heap.size w6 W'→TwMk W' w1.heap.size gr gl gs gz go m∧TwJ W' gh has∧TwJ W' gp P∧TwJ W' gd bid∧W'.heap[xb]?=some (.cells #[.slice (some ⟨gr,0,none⟩) m.r.length (m.r.length+1),.slice (some ⟨gl,0,none⟩) m.b.length (m.b.length+1),.slice (some ⟨go,0,none⟩) m.o.length (m.o.length+1)] 25 (0,0))∧W'.heap[ob]?=some (.cells #[.slice (some ⟨gh,0,none⟩) has.length (has.length+1),.slice (some ⟨gp,0,none⟩) P.length (P.length+1)] 27 (0,0))∧Below W.heap.size W W'):=Lib.hid (fun W' hW=>by
   have h9:=hb6.trans (hW.mono hb6.size)
   exact ⟨HTW5.out.below h9,below_heap h9 HTH5.out.1 (lt_of_heap HTH5.out.1),below_heap h9 HTH5.out.2 (lt_of_heap HTH5.out.2),below_heap hW ht6 (lt_of_heap ht6),below_heap h9 HX5.out (lt_of_heap HX5.out),below_heap h9 HO5.out (lt_of_heap HO5.out),HB5.out.trans (h9.mono HB5.out.size)⟩)
 have HMK:Hid (∀ W',Below w6.heap.size w6 W'→IsMk W' (fun _=>True) ⟨some ⟨gr,0,none⟩,m.r.length,m.r.length+1,some ⟨gl,0,none⟩,m.b.length,m.b.length+1,uslices gs m.b,some ⟨go,0,none⟩,m.o.length,m.o.length+1⟩ m):=Lib.hid (fun W' hW=>by
   have hw:=(HS6.out W' hW).1
   have hs:=HS.out
   exact ⟨⟨hw.r.isI (by have:=hs.r;omega),fun _ _ _ _=>trivial⟩,hw.b.isIIp2 hs.b hs.e _ trivial (fun _ _=>trivial),⟨hw.o.isI (by have:=hs.o;omega),fun _ _ _ _=>trivial⟩⟩)
 have FR:Hid (∀ W',Below w6.heap.size w6 W'→W'.cell? ⟨w.heap.size,0,none⟩=some (.slice ra m.r.length rc)∧W'.cell? ⟨w.heap.size,1,none⟩=some (.slice ba m.b.length bc)∧W'.cell? ⟨w.heap.size,2,none⟩=some (.slice oa m.o.length oc)∧W'.cell? ⟨w.heap.size,3,none⟩=some (.slice ha has.length hc)∧W'.cell? ⟨w.heap.size,4,none⟩=some (.slice pa P.length pc)∧W'.cell? ⟨w.heap.size,5,none⟩=some (.int .i64 i)∧W'.cell? ⟨w.heap.size,6,none⟩=some (.slice da bid.length dc)∧W'.cell? ⟨xb,0,none⟩=some (.slice (some ⟨gr,0,none⟩) m.r.length (m.r.length+1))∧W'.cell? ⟨xb,1,none⟩=some (.slice (some ⟨gl,0,none⟩) m.b.length (m.b.length+1))∧W'.cell? ⟨xb,2,none⟩=some (.slice (some ⟨go,0,none⟩) m.o.length (m.o.length+1))∧W'.cell? ⟨ob,0,none⟩=some (.slice (some ⟨gh,0,none⟩) has.length (has.length+1))∧W'.cell? ⟨ob,1,none⟩=some (.slice (some ⟨gp,0,none⟩) P.length (P.length+1))):=Lib.hid (fun W' hW=>by
   obtain ⟨_,_,_,_,hx,ho,hb⟩:=HS6.out W' hW
   obtain ⟨⟨a0,a1,a2⟩,a3,a4,a5,a6⟩:=HC.out W' hb
   refine ⟨a0,a1,a2,a3,a4,a5,a6,?_,?_,?_,?_,?_⟩ <;> first | (rw [cell_of_block hx];rfl) | (rw [cell_of_block ho];rfl))
 clear hb6 ht6 c0 c1 c2 c3 c4 c5 c6
 obtain ⟨c0,c1,c2,c3,c4,c5,c6,x0,x1,x2,o0,o1⟩:=FR.out w6 (Below.refl _ _)
 go_wp2_with fail
 refine (true_any ⟨some ⟨gr,0,none⟩,m.r.length,m.r.length+1,some ⟨gl,0,none⟩,m.b.length,m.b.length+1,uslices gs m.b,some ⟨go,0,none⟩,m.o.length,m.o.length+1⟩ m i (some ⟨gd,0,none⟩) bid.length (bid.length+1) bid w6 (HMK.out w6 (Below.refl _ _)) hrm HI.out ((HS6.out w6 (Below.refl _ _)).2.2.2.1.isI hs3)).mono ?_
 rintro e w7 ⟨v,rfl,hv1,hb7⟩
 have HB7:=Lib.hid hb7
 have HV1:=Lib.hid hv1
 generalize hec:(if v=true then (0:Int) else 1)=ec
 have HEC:=Lib.hid hec
 clear hb7 hv1 hec c0 c1 c2 c3 c4 c5 c6 x0 x1 x2 o0 o1
 obtain ⟨c0,c1,c2,c3,c4,c5,c6,x0,x1,x2,o0,o1⟩:=FR.out w7 HB7.out
 have HIN:Hid (∀ W',Below w6.heap.size w6 W'→IsMk W' (fun _=>True) ⟨ra,m.r.length,rc,ba,m.b.length,bc,bv,oa,m.o.length,oc⟩ m∧IsI W' ha has.length hc has∧IsI W' pa P.length pc P∧IsI W' da bid.length dc bid):=Lib.hid (fun W' hW=>by
   have hb:=(HS6.out W' hW).2.2.2.2.2.2
   exact ⟨HM.out.below hb,HH.out.below hb,HP.out.below hb,HD.out.below hb⟩)
 go_wp2_with fail
 refine (r28true_any ⟨ra,m.r.length,rc,ba,m.b.length,bc,bv,oa,m.o.length,oc⟩ m i da bid.length dc bid w7 (HIN.out w7 HB7.out).1 hrm HI.out (HIN.out w7 HB7.out).2.2.2).mono ?_
 rintro e w8 ⟨v2,rfl,hv2,hb8⟩
 obtain rfl:v2=v:=by
   have h9:=hv2.trans HV1.out.symm
   cases v2 <;> cases v <;> simp_all
 rw [HEC.out]
 have HB8:Hid (Below w6.heap.size w6 w8):=Lib.hid (HB7.out.trans (hb8.mono HB7.out.size))
 clear hb8 hv2 c0 c1 c2 c3 c4 c5 c6 x0 x1 x2 o0 o1
 have LA:Hid (∀ W',Below w6.heap.size w6 W'→Calls Tryz.prog 14 #[.agg #[.slice (some ⟨gr,0,none⟩) m.r.length (m.r.length+1),.slice (some ⟨gl,0,none⟩) m.b.length (m.b.length+1),.slice (some ⟨go,0,none⟩) m.o.length (m.o.length+1)],.agg #[.slice (some ⟨gh,0,none⟩) has.length (has.length+1),.slice (some ⟨gp,0,none⟩) P.length (P.length+1)]] W' (LstQ m has P W')):=Lib.hid (fun W' hW=>least_any ⟨some ⟨gr,0,none⟩,m.r.length,m.r.length+1,some ⟨gl,0,none⟩,m.b.length,m.b.length+1,uslices gs m.b,some ⟨go,0,none⟩,m.o.length,m.o.length+1⟩ m _ _ _ _ _ _ has P W' (HMK.out W' hW) hrm ((HS6.out W' hW).2.1.isI hs1) ((HS6.out W' hW).2.2.1.isI hs2))
 have LB:Hid (∀ W',Below w6.heap.size w6 W'→Calls Tryz.prog 15 #[.agg #[.slice ra m.r.length rc,.slice ba m.b.length bc,.slice oa m.o.length oc],.agg #[.slice ha has.length hc,.slice pa P.length pc]] W' (LstQ m has P W')):=Lib.hid (fun W' hW=>r28least_any ⟨ra,m.r.length,rc,ba,m.b.length,bc,bv,oa,m.o.length,oc⟩ m _ _ _ _ _ _ has P W' (HIN.out W' hW).1 hrm (HIN.out W' hW).2.1 (HIN.out W' hW).2.2.1)
 have LC:Hid (∀ W',Below w6.heap.size w6 W'→Calls Tryz.prog 16 #[.agg #[.slice (some ⟨gr,0,none⟩) m.r.length (m.r.length+1),.slice (some ⟨gl,0,none⟩) m.b.length (m.b.length+1),.slice (some ⟨go,0,none⟩) m.o.length (m.o.length+1)],.agg #[.slice ra m.r.length rc,.slice ba m.b.length bc,.slice oa m.o.length oc]] W' fun e w' => e=.returned (.bool true)∧Below W'.heap.size W' w'):=Lib.hid (fun W' hW=>leftMk_any w1.heap.size gr gl gs gz go ⟨ra,m.r.length,rc,ba,m.b.length,bc,bv,oa,m.o.length,oc⟩ m W' (HIN.out W' hW).1 HS.out (HS6.out W' hW).1)
 have LD:Hid (∀ W',Below w6.heap.size w6 W'→Calls Tryz.prog 17 #[.agg #[.slice (some ⟨gh,0,none⟩) has.length (has.length+1),.slice (some ⟨gp,0,none⟩) P.length (P.length+1)],.agg #[.slice ha has.length hc,.slice pa P.length pc]] W' fun e w' => e=.returned (.bool true)∧Below W'.heap.size W' w'):=Lib.hid (fun W' hW=>leftO_any gh gp ha pa _ _ _ _ has P W' (HIN.out W' hW).2.1 (HIN.out W' hW).2.2.1 hs1 hs2 (HS6.out W' hW).2.1 (HS6.out W' hW).2.2.1)
 have LE:Hid (∀ W',Below w6.heap.size w6 W'→Calls Tryz.prog 18 #[.slice (some ⟨gd,0,none⟩) bid.length (bid.length+1),.slice da bid.length dc] W' fun e w' => e=.returned (.bool true)∧Below W'.heap.size W' w'):=Lib.hid (fun W' hW=>leftI_any gd da bid.length dc bid W' hs3 (HIN.out W' hW).2.2.2 (HS6.out W' hW).2.2.2.1.twin)
 have FR0:=FR.out w8.drew HB8.out.drew
 have B8:Hid (Below w6.heap.size w6 w8.drew):=Lib.hid HB8.out.drew
 obtain ⟨c0,c1,c2,c3,c4,c5,c6,x0,x1,x2,o0,o1⟩:=FR.out w8 HB8.out
 go_wp2_with fail
 go_region_held3 (fun W' => W'.cell? ⟨w.heap.size, 0, none⟩ = some (.slice ra m.r.length rc) ∧ W'.cell? ⟨w.heap.size, 1, none⟩ = some (.slice ba m.b.length bc) ∧ W'.cell? ⟨w.heap.size, 2, none⟩ = some (.slice oa m.o.length oc) ∧ W'.cell? ⟨w.heap.size, 3, none⟩ = some (.slice ha has.length hc) ∧ W'.cell? ⟨w.heap.size, 4, none⟩ = some (.slice pa P.length pc) ∧ W'.cell? ⟨w.heap.size, 5, none⟩ = some (.int .i64 i) ∧ W'.cell? ⟨w.heap.size, 6, none⟩ = some (.slice da bid.length dc) ∧ W'.cell? ⟨xb, 0, none⟩ = some (.slice (some ⟨gr, 0, none⟩) m.r.length (m.r.length + 1)) ∧ W'.cell? ⟨xb, 1, none⟩ = some (.slice (some ⟨gl, 0, none⟩) m.b.length (m.b.length + 1)) ∧ W'.cell? ⟨xb, 2, none⟩ = some (.slice (some ⟨go, 0, none⟩) m.o.length (m.o.length + 1)) ∧ W'.cell? ⟨ob, 0, none⟩ = some (.slice (some ⟨gh, 0, none⟩) has.length (has.length + 1)) ∧ W'.cell? ⟨ob, 1, none⟩ = some (.slice (some ⟨gp, 0, none⟩) P.length (P.length + 1))) (first | with_reducible exact FR0 | with_reducible exact FR9 | with_reducible exact FR10 | with_reducible exact FR11 | with_reducible exact FR12 | with_reducible exact FR13 | with_reducible exact FR14) (first
       | (go_at_call 14;(with_reducible refine (LA.out _ B8.out).mono ?_);rintro e w9 ⟨u,rfl,hu,hb9⟩
          have HU:=Lib.hid hu
          have B9:Hid (Below w6.heap.size w6 w9):=Lib.hid (B8.out.trans (hb9.mono B8.out.size))
          have FR9:=FR.out w9 B9.out
          clear hu hb9)
       | (go_at_call 15;(with_reducible refine (LB.out _ B9.out).mono ?_);rintro e w10 ⟨u2,rfl,hu2,hb10⟩
          have hue:u2=u:=(by have h9:=hu2.trans HU.out.symm;cases u2 <;> cases u <;> simp_all)
          subst hue
          have B10:Hid (Below w6.heap.size w6 w10):=Lib.hid (B9.out.trans (hb10.mono B9.out.size))
          have FR10:=FR.out w10 B10.out
          clear hu2 hb10)
       | (go_at_call 16;(with_reducible refine (LC.out _ B10.out).mono ?_);rintro e w11 ⟨rfl,hb11⟩
          have B11:Hid (Below w6.heap.size w6 w11):=Lib.hid (B10.out.trans (hb11.mono B10.out.size))
          have FR11:=FR.out w11 B11.out
          clear hb11)
       | (go_at_call 17;(with_reducible refine (LD.out _ B11.out).mono ?_);rintro e w12 ⟨rfl,hb12⟩
          have B12:Hid (Below w6.heap.size w6 w12):=Lib.hid (B11.out.trans (hb12.mono B11.out.size))
          have FR12:=FR.out w12 B12.out
          clear hb12)
       | (go_at_call 18;(with_reducible refine (LE.out _ B12.out).mono ?_);rintro e w13 ⟨rfl,hb13⟩
          have B13:Hid (Below w6.heap.size w6 w13):=Lib.hid (B12.out.trans (hb13.mono B12.out.size))
          have FR13:=FR.out w13 B13.out
          clear hb13)
       | (go_at_call 8;(with_reducible refine (lives_any w13).mono ?_);rintro e w14 ⟨rfl,hb14⟩
          have B14:Hid (Below w6.heap.size w6 w14):=Lib.hid (B13.out.trans (hb14.mono B13.out.size))
          have FR14:=FR.out w14 B14.out
          clear hb14)
       | fail)
 have HEND:Hid (Below w.heap.size w w14):=Lib.hid (HB0.out.trans ((HS6.out w14 B14.out).2.2.2.2.2.2.mono HB0.out.size))
 go_wp2_with fail
 go_ret
 exact ⟨rfl,HEND.out⟩
end
section
open Go.ChangeShapes Go.WideShapes Go.ChangeAt Go.RowKit
set_option linter.unusedVariables false
set_option maxRecDepth 100000 in
theorem judgesOf_lifted (os:Os) (started:os.Started) (H:Type) (enc:TypeId × Value→H) :
   ReturnsInHanded {} Tryz.checked os 3 .any (Rows.judgesOfSpec.pre6 enc Tryz.prog Tryz.f3 Rows.judgesOfRow.domain false) (Rows.judgesOfSpec.post enc Tryz.prog Tryz.f3 false true false false):=by
 refine returnsInHanded_of_change6 (C:=Tryz.checked) own started (by kernel_rfl) Tryz.func3
   (ChangeSpec.witness6 (enc:=enc) (C:=Tryz.checked) false ⟨#[],#[.agg #[.slice none 0 0,.slice none 0 0,.slice none 0 0,.slice none 0 0,.slice none 0 0,.int .i64 0,.slice none 0 0]],[]⟩ 8 (by kernel_rfl) (by kernel_rfl) (by kernel_rfl) (by kernel_rfl)) ?_
 intro W base args ds gs before hval0 hW _ hwt _
 have hval:∀ (j:Nat) t v,Tryz.f3.params[j]?=some t→args[j]?=some v→Value.okWide Tryz.prog W .any base t v:=hval0
 have hW':=hW
 obtain ⟨p,q,hA0,hV,rfl,hfz,hnd⟩:=hW
 have hA:DataW.TrodAll enc Tryz.prog W 0 (fun _=>true) true Tryz.f3.params.toList args.toList ds p:=hA0
 rw [Tryz.params3] at hA hval hwt
 obtain ⟨v0,vs0,x0,ds0,p0,q0,hargs0,rfl,rfl,H0,r0⟩:=trodAll_cons hA
 obtain ⟨rfl,rfl,rfl⟩:=trodAll_nil r0
 obtain rfl:args = #[v0]:=by cases args;simp_all
 obtain ⟨rfl,rfl⟩:=trodVars_none hV
 have sm:=small_of_all hwt
 have k0:=H0
 have lt0:∀ x ∈ p0,x.block<W.heap.size:=by obtain ⟨m,hm⟩:=k0;exact DataW.trod_lt m _ _ _ hm
 have o0:Opened Tryz.prog W 29 v0.cells.toList:=Opened.of H0 (weightsEach_get _ _ 0 29 _ sm rfl rfl)
 obtain ⟨mx,mm,ha,hn,hc,has,pa,pn,pc,P,gi,da,dn,dc,bid,rfl,hmk,hft,hh,hp,hd,hs1,hs2,hs3,hi⟩:=given_arg (hval 0 29 v0 rfl rfl) o0
 clear hA0 hval0
 refine (jof_any mx mm ha pa da hn hc pn pc dn dc has P bid gi W hmk hft hh hp hd hs1 hs2 hs3 hi).mono fun e W' ⟨he,bel⟩ => ?_
 subst he
 exact ⟨_,rfl,_,_,_,[],_,[],hW',trodAll_mk1 (shut_bool Tryz.underlying4 _),(trodAll_cons_mk (Below.trod laidOut (by kernel_rfl) (of_decide_eq_true (by kernel_rfl)) k0 bel lt0) trodAll_mk0),rfl,bel.frame _,fun h=>by cases h⟩
theorem judgesOf_holds:Rows.JudgesOfSaid :=
 OpenClaim.holds_of_wide 3 Tryz.f3 rfl rfl rfl rfl rfl rfl rfl ⟨rfl,rfl,rfl,rfl,rfl⟩ rfl rfl rfl rfl rfl (by kernel_rfl) Tryz.func3 (by kernel_rfl)
   (of_decide_eq_true (by kernel_rfl)) (by unfold Func.isWrapper;first | (rw [if_pos (by decide +kernel)];kernel_rfl) | (rw [if_neg (by decide +kernel)];exact ⟨rfl,rfl⟩))
   (fun os started H enc _=>judgesOf_lifted os started H enc)
#print axioms judgesOf_holds
end
end Go.Proofs.YtmmmjohoihpbeaaGreat
