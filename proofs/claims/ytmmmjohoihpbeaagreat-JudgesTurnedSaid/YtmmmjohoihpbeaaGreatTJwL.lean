/- The package rises: steps,Least;conditions: those typed. -/
import Derived.Test.YtmmmjohoihpbeaaGreatTJwXJwK
import Derived.Test.YtmmmjohoihpbeaaGreatTJwZsJmg
namespace Go.Proofs.YtmmmjohoihpbeaaGreat
section
open Go.RowKit Go.Shelf
set_option linter.unusedVariables false
set_option linter.unusedSimpArgs false
attribute [local go_sem] Oper.semAt_some
noncomputable def leastN (P:Nat→Prop):Nat:=by
 classical
 exact if h:∃ n,P n∧∀ m,P m→n≤m then Classical.choose h else 0
theorem leastN_ex {P:Nat→Prop}:∀ {n:Nat},P n→∃ n,P n∧∀ m,P m→n≤m:=by
 intro n
 induction n using Nat.strongRecOn with
 | ind n ih =>
   intro h
   by_cases hm:∃ m,m<n∧P m
   · obtain ⟨m,h1,h2⟩:=hm;exact ih m h1 h2
   · exact ⟨n,h,fun m hp=>by
       apply Classical.byContradiction
       intro hlt
       exact hm ⟨m,by omega,hp⟩⟩
theorem leastN_spec {P:Nat→Prop} {n:Nat} (h:P n):P (leastN P)∧leastN P≤n:=by
 have hx:=leastN_ex h
 unfold leastN
 rw [dif_pos hx]
 exact ⟨(Classical.choose_spec hx).1,(Classical.choose_spec hx).2 n h⟩
theorem isI_touch_ne {S:Nat→Prop} {W W':World} {a:Option Addr} {n c:Nat} {l:List Int} (h:IsI W a n c l) (ht:Touch S W W') (hs:∀ k off,a=some ⟨k,off,none⟩→¬ S k):IsI W' a n c l:=by
 obtain ⟨h1,h2,h3,h4 | ⟨b,off,rfl,hlt,hc⟩⟩:=h
 · exact ⟨h1,h2,h3,.inl h4⟩
 · exact ⟨h1,h2,h3,.inr ⟨b,off,rfl,Nat.lt_of_lt_of_le hlt ht.size,fun i hi=>ht.cell (hc i hi) (hs b off rfl)⟩⟩
theorem KeepAll.of_below {ob:Nat} {W W':World} (h:Below W.heap.size W W'):KeepAll ob W W':=⟨Touch.of_below h,h.size,fun k o hk _=>below_heap h hk (lt_of_heap hk)⟩
theorem KeepAll.trans {ob:Nat} {A B C:World} (h:KeepAll ob A B) (k:KeepAll ob B C):KeepAll ob A C:=⟨h.1.trans k.1,h.2.trans k.2⟩
theorem KeepAll.below {ob n₀:Nat} {W W':World} (h:KeepAll ob W W') (h1:n₀≤ob) (h2:n₀≤W.heap.size):Below n₀ W W':=h.1.below h2 (fun k hk e=>by omega)
set_option maxHeartbeats 1000000 in
theorem rsteps_any (x:MkA) (w:World) :
   Calls Tryz.prog 68 #[.agg x.cells.toArray] w fun e w' => e=.returned (.func (.func 82) #[] #[.pointer (some ⟨w.heap.size,0,none⟩)])∧w'=w.alloc (.cells x.cells.toArray 25 (0,0)):=by
 obtain ⟨ra,rn,rc,ba,bn,bc,bv,oa,on,oc⟩:=x
 unfold MkA.cells
 dsimp only
 go_enter Tryz.func68,Tryz.ntmps68
 go_wp2
 go_ret
 exact ⟨rfl,rfl⟩
def LastP (m:MkC) (xs:List SlX):Prop:=∃ y,xs.getLast?=some y∧JM.RisP m.r m.b y.l∧JM.Leastp m.b.length m.r.length (JM.gn m.r m.b) (JM.ov m.r y.l)
def StQ (m:MkC) (ob:Nat) (W:World) (J:List SlX→World→Prop) (n:Nat) (v q:Value) (wr:World):Prop :=
 (∃ a c l pre,v=.slice a l.length c∧q=.bool true∧J pre wr∧JM.RisP m.r m.b l∧IsI wr a l.length c l∧(∀ k off,a=some ⟨k,off,none⟩→k≠ob)∧KeepAll ob W wr∧n=1+(8000000 - JM.sumN m.r.length (JM.ov m.r l)).toNat) ∨
 (∃ xs a k c,v=.slice a k c∧q=.bool false∧LastP m xs∧J xs wr∧KeepAll ob W wr∧n=0)
set_option maxRecDepth 100000 in
set_option maxHeartbeats 4000000 in
theorem steps1_ok (x:MkA) (m:MkC) (w0:World) (ob tb:Nat) (w:World) (hM:MkT w0 x m) (hob:w0.heap.size≤ob) (hb:Below w0.heap.size w0 w) (ht:w.heap[tb]?=some (.cells x.cells.toArray 25 (0,0))) (hne:tb≠ob) (hobw:ob<w.heap.size) :
   SeqK Tryz.prog 82 #[.pointer (some ⟨tb,0,none⟩)] SlX.enc (fun y W=>IsI W y.a y.n y.c y.l) (KeepAll ob) (LastP m) w:=by
 intro l J Jx W hW hl hJ hJx hY h0
 have hbW:=hb.trans (hW.mono hb.size)
 have htW:=below_heap hW ht (lt_of_heap ht)
 have htl:=lt_of_heap ht
 have hWs:=hW.size
 obtain ⟨ra,rn,rc,ba,bn,bc,bv,oa,on,oc⟩:=x
 have hr:=hM.r
 have hbb:=hM.b
 have ho:=hM.o
 unfold MkA.cells at htW
 dsimp only at hr hbb ho htW
 obtain rfl:=hr.1
 obtain rfl:=hbb.1
 obtain rfl:=ho.1
 have c0:W.cell? ⟨tb,0,none⟩=some (.slice ra m.r.length rc):=by rw [cell_of_block htW];rfl
 have c1:W.cell? ⟨tb,1,none⟩=some (.slice ba m.b.length bc):=by rw [cell_of_block htW];rfl
 have c2:W.cell? ⟨tb,2,none⟩=some (.slice oa m.o.length oc):=by rw [cell_of_block htW];rfl
 have HMK:=Lib.hid (mktB_ok hM.ok)
 have hr8:=(mktB_ok hM.ok).hk.2
 have HR:=Lib.hid (hr.below hbW)
 have HM:=Lib.hid hM
 have HBW:=Lib.hid hbW
 have HJ:=Lib.hid hJ
 have HJX:=Lib.hid hJx
 have HY:=Lib.hid hY
 have H0:=Lib.hid h0
 clear hM hr hbb ho hJ hJx hY h0 hW hb ht htW
 refine callsIn_of_wp Tryz.func82 rfl trivial ?_ rfl
 simp only [Tryz.ntmps82,List.size_toArray,List.length_cons,List.length_nil,Nat.reduceAdd,Nat.reduceSub,Array.replicate_succ,Array.replicate_zero,List.push_toArray,List.append_toArray,List.nil_append,List.cons_append]
 gi_wp2_with fail
 refine ⟨trivial,rfl,?_⟩
 refine (callsIn_wide.2 (iclone_any ra m.r.length rc m.r W HR.out (by omega))).mono ?_;rintro e w1 ⟨a1,d1,rfl,hb1,ho1⟩
 have HS0:Hid (StQ m ob W J (1+(8000000 - JM.sumN m.r.length (JM.ov m.r m.r)).toNat) (.slice a1 m.r.length d1) (.bool true) w1):=Lib.hid (.inl ⟨a1,d1,m.r,[],rfl,rfl,own_below HJ.out H0.out hb1,JM.RisP.start HMK.out,isI_of_owns ho1 rfl,fun k off e=>by
   subst e
   have:=owns_base ho1 k rfl
   omega,KeepAll.of_below hb1,rfl⟩)
 clear hb1 ho1 H0 HR
 gi_wp2_with fail
 gi_loopw [3,4] (fun v q wr => ∃ n,StQ m ob W J n v q wr) (fun v q wr=>leastN fun n=>StQ m ob W J n v q wr)
 case atStart=>exact ⟨_,HS0.out⟩
 case round =>
   obtain ⟨n,hn⟩:=hrel
   have hs:=(leastN_spec (P:=fun n=>StQ m ob W J n _ _ wr) hn).1
   have HMIN:=Lib.hid (fun (v' q':Value) (w':World) (n':Nat) (h:StQ m ob W J n' v' q' w')=>(leastN_spec (P:=fun n=>StQ m ob W J n v' q' w') h).2)
   clear hn
   rcases hs with ⟨a,c,p,pre,rfl,rfl,hJp,hR,hI,hne2,hk,hnn⟩ | ⟨xs,a,k,c,rfl,rfl,hS,hJp,hk,hnn⟩
   · have HN:=Lib.hid hnn
     obtain ⟨fn,tmps,assign,body,hy,hRd⟩:=HY.out pre ⟨a,p.length,c,p⟩ wr hk.1.size hJp hI
     dsimp only [SlX.enc] at hy hRd
     have HRD:=Lib.hid hRd
     have HRP:=Lib.hid hR
     have HI:=Lib.hid hI
     have HK:=Lib.hid hk
     have HNE:=Lib.hid hne2
     clear hRd hR hI hk hJp hne2 hnn
     gi_wp2_with fail
     refine ⟨rfl,?_⟩
     refine HRD.out.mono ?_
     rintro e W3 (⟨rfl,hJ3,hk3⟩ | ⟨rfl,hJx3,hk3⟩)
     · have HK3:=Lib.hid (HK.out.trans hk3)
       have HI3:=Lib.hid (isI_touch_ne HI.out hk3.1 (fun k off e=>HNE.out k off e))
       have HJ3:=Lib.hid hJ3
       have HB3:=Lib.hid (HBW.out.trans (HK3.out.below hob HBW.out.size))
       have k0:=HK3.out.1.cell c0 (by exact hne)
       have k1:=HK3.out.1.cell c1 (by exact hne)
       have k2:=HK3.out.1.cell c2 (by exact hne)
       clear hJ3 hk3
       gi_wp2_with fail
       refine ⟨trivial,rfl,?_⟩
       refine (callsIn_wide.2 (at_any ⟨ra,m.r.length,rc,ba,m.b.length,bc,bv,oa,m.o.length,oc⟩ m a p.length c p W3 (HM.out.below HB3.out) HI3.out HRP.out.pr HRP.out.m.pl)).mono ?_
       rintro e w5 ⟨S,rfl,hb5,hS5,hv5⟩
       have HV5:=Lib.hid hv5
       have HB5:=Lib.hid hb5
       clear hv5 hb5 k0 k1 k2
       gi_wp2_with fail
       refine ⟨trivial,rfl,?_⟩
       refine (callsIn_wide.2 (rstep_any S _ m p _ _ w5 HV5.out HRP.out.m.gok (by rw [JM.wantL_length];exact HRP.out.m.mustR) HRP.out.m.farH HRP.out.pr)).mono ?_
       rintro e w6 ⟨a6,c6,out,is,rfl,hb6,hi6,hs6,hf6⟩
       have hb36:=HB5.out.trans (hb6.mono HB5.out.size)
       have HJ6:=Lib.hid (own_below HJ.out HJ3.out hb36)
       have HK6:=Lib.hid (HK3.out.trans (KeepAll.of_below (ob:=ob) hb36))
       have HF6:Hid (∀ k off,a6=some ⟨k,off,none⟩→k≠ob):=Lib.hid (fun k off e=>by
         have h1:=hf6 k off e
         have h2:=HB5.out.size
         have h3:=HK3.out.1.size
         omega)
       cases is with
       | true =>
         obtain ⟨r1,r2⟩:=HRP.out.step hs6
         have HT:Hid (StQ m ob W J (1+(8000000 - JM.sumN m.r.length (JM.ov m.r out)).toNat) (.slice a6 p.length c6) (.bool true) w6):=Lib.hid (.inl ⟨a6,c6,out,_,by rw [← hi6.1],rfl,HJ6.out,r1,by have h9:=hi6.1;rw [← h9];exact hi6,HF6.out,HK6.out,rfl⟩)
         have HLT:Hid (1+(8000000 - JM.sumN m.r.length (JM.ov m.r out)).toNat<1+(8000000 - JM.sumN m.r.length (JM.ov m.r p)).toNat):=Lib.hid (by
           have:=r1.sum
           have:=HRP.out.sum
           omega)
         clear r1 r2 hs6 hf6 hi6 hb6 hb36
         gi_wp2_with fail
         go_roundw
         case rel=>exact ⟨_,HT.out⟩
         case measure=>exact Nat.lt_of_le_of_lt (HMIN.out _ _ _ _ HT.out) (by rw [show (leastN fun n=>StQ m ob W J n (Value.slice a p.length c) (Value.bool true) wr)=_ from HN.out];exact HLT.out)
       | false =>
         obtain ⟨r1,r2⟩:=HRP.out.done hs6
         subst r1
         have HT:Hid (StQ m ob W J 0 (.slice a6 out.length c6) (.bool false) w6):=Lib.hid (.inr ⟨_,a6,_,c6,rfl,rfl,⟨_,List.getLast?_concat,HRP.out,r2⟩,HJ6.out,HK6.out,rfl⟩)
         have HLT:Hid (0<1+(8000000 - JM.sumN m.r.length (JM.ov m.r out)).toNat):=Lib.hid (by omega)
         clear r2 hs6 hf6 hi6 hb6 hb36
         gi_wp2_with fail
         go_roundw
         case rel=>exact ⟨_,HT.out⟩
         case measure=>exact Nat.lt_of_le_of_lt (HMIN.out _ _ _ _ HT.out) (by rw [show (leastN fun n=>StQ m ob W J n (Value.slice a out.length c) (Value.bool true) wr)=_ from HN.out];exact HLT.out)
     · gi_wp2_with fail
       refine bodyPost_end (results_none rfl _ _ _) rfl ?_
       exact ⟨⟨_,rfl⟩,.inr ⟨_,hJx3⟩⟩
   · gi_wp2_with fail
     refine ⟨(fun f hf=>by cases hf),?_⟩
     gi_wp2_with fail
     refine bodyPost_end (results_none rfl _ _ _) rfl ?_
     exact ⟨⟨_,rfl⟩,.inl ⟨xs,hS,hJp⟩⟩
def LeI (w:World) (xs:List SlX) (W:World):Prop:=(∃ a n c,W.heap[w.heap.size+1]?=some (.cells #[.slice a n c] 22 (0,0))∧∀ y,xs.getLast?=some y→a=y.a∧n=y.n∧c=y.c∧IsI W y.a y.n y.c y.l)∧Below w.heap.size w W
theorem leI_own (w:World) (C:Nat) (hC:w.heap.size≤C):OwnFrom C (LeI w):=fun s A A' row hs hg hr=>by
 obtain ⟨⟨a,n,c,h1,h2⟩,h3⟩:=hs
 have hr':∀ r,row=some r→∃ o:Obj,A.heap[r]?=some o∧o.isCells=false:=fun r e=>(hr r e).2
 exact ⟨⟨a,n,c,heap_own h1 hg hr',fun y hy=>by obtain ⟨e1,e2,e3,e4⟩:=h2 y hy;exact ⟨e1,e2,e3,isI_own e4 hg hr'⟩⟩,ownFrom_below (β:=Unit) (Nat.le_refl _) hC () A A' row h3 hg hr⟩
set_option maxRecDepth 100000 in
set_option maxHeartbeats 4000000 in
theorem rleast2_any (x:MkA) (m:MkC) (w:World) (h:MkT w x m) :
   Calls Tryz.prog 47 #[.agg x.cells.toArray] w fun e W => ∃ a c p,e=.returned (.tuple #[.slice a m.r.length c,.int .i64 0])∧Below w.heap.size w W∧IsI W a m.r.length c p∧JM.RisP m.r m.b p∧JM.Leastp m.b.length m.r.length (JM.gn m.r m.b) (JM.ov m.r p):=by
 obtain ⟨ra,rn,rc,ba,bn,bc,bv,oa,on,oc⟩:=x
 have hr:=h.r
 have hbb:=h.b
 have ho:=h.o
 unfold MkA.cells
 dsimp only at hr hbb ho ⊢
 obtain rfl:=hr.1
 obtain rfl:=hbb.1
 obtain rfl:=ho.1
 obtain ⟨b0,m0,m1⟩:=alloc2_facts w (.cells #[.slice ra m.r.length rc,.slice ba m.b.length bc,.slice oa m.o.length oc] 25 (0,0)) (.cells #[.slice none 0 0] 22 (0,0))
 have HM:=Lib.hid h
 have HOK:=Lib.hid h.ok
 have hr8:=(mktB_ok h.ok).hk.2
 clear h hr hbb ho
 refine (callsIn_wide (n:=0)).1 ?_
 refine callsIn_of_wp_marks Tryz.func47 rfl trivial ?_ rfl
 simp only [Tryz.ntmps47,List.size_toArray,List.length_cons,List.length_nil,Nat.reduceAdd,Nat.reduceSub,Array.replicate_succ,Array.replicate_zero,List.push_toArray,List.append_toArray,List.nil_append,List.cons_append]
 refine (wpIn_wide (n:=0)).2 ?_
 go_wp2_with fail
 generalize ((w.alloc (.cells #[.slice ra m.r.length rc,.slice ba m.b.length bc,.slice oa m.o.length oc] 25 (0,0))).alloc (.cells #[.slice none 0 0] 22 (0,0)))=W at b0 m0 m1 ⊢
 have c0:W.cell? ⟨w.heap.size,0,none⟩=some (.slice ra m.r.length rc):=by rw [cell_of_block m0];rfl
 have c1:W.cell? ⟨w.heap.size,1,none⟩=some (.slice ba m.b.length bc):=by rw [cell_of_block m0];rfl
 have c2:W.cell? ⟨w.heap.size,2,none⟩=some (.slice oa m.o.length oc):=by rw [cell_of_block m0];rfl
 have HB0:=Lib.hid b0
 have H1:=Lib.hid m1
 clear b0 m0 m1
 refine (mcheck_any _ ⟨ra,m.r.length,rc,ba,m.b.length,bc,bv,oa,m.o.length,oc⟩ m W (HM.out.below HB0.out).v (by omega)).mono ?_;rintro e w1 ⟨rfl,hb1⟩
 rw [HOK.out]
 have HB1:=Lib.hid (HB0.out.trans (hb1.mono HB0.out.size))
 have H11:=Lib.hid (below_heap hb1 H1.out (lt_of_heap H1.out))
 have k0:=cell_later hb1 c0
 have k1:=cell_later hb1 c1
 have k2:=cell_later hb1 c2
 clear hb1 c0 c1 c2 H1 HB0
 go_wp2_with fail
 refine (rsteps_any ⟨ra,m.r.length,rc,ba,m.b.length,bc,bv,oa,m.o.length,oc⟩ w1).mono ?_;rintro e w2 ⟨rfl,rfl⟩
 have hb2:Below w1.heap.size w1 (w1.alloc (.cells (MkA.cells ⟨ra,m.r.length,rc,ba,m.b.length,bc,bv,oa,m.o.length,oc⟩).toArray 25 (0,0))):=(Below.refl _ _).alloc (Nat.le_refl _) _
 have hv2:=heap_new w1 (.cells (MkA.cells ⟨ra,m.r.length,rc,ba,m.b.length,bc,bv,oa,m.o.length,oc⟩).toArray 25 (0,0))
 generalize w1.alloc (.cells (MkA.cells ⟨ra,m.r.length,rc,ba,m.b.length,bc,bv,oa,m.o.length,oc⟩).toArray 25 (0,0))=W2 at hb2 hv2 ⊢
 have HB2:=Lib.hid (HB1.out.trans (hb2.mono HB1.out.size))
 have HV2:=Lib.hid hv2
 have H12:=Lib.hid (below_heap hb2 H11.out (lt_of_heap H11.out))
 have hob1:=lt_of_heap H11.out
 have hob2:=lt_of_heap H12.out
 clear hb2 hv2 k0 k1 k2
 go_wp2_with fail
 refine wp_rangeK (ob:=w.heap.size+1) (X:=SlX) (gf:=82) (lb:=#[.pointer (some ⟨w1.heap.size,0,none⟩)]) rfl (enters_of Tryz.func82 (by kernel_rfl) rfl)
   (steps1_ok ⟨ra,m.r.length,rc,ba,m.b.length,bc,bv,oa,m.o.length,oc⟩ m w (w.heap.size+1) w1.heap.size W2 HM.out (Nat.le_succ _) HB2.out HV2.out (by omega) hob2) (Below.refl _ _) (fun _=>rfl) (fun y W l o o' h1 h2 h3=>isI_put h1 h2 h3)
   (LeI w) (fun _ _ _=>False) (leI_own w W2.heap.size HB2.out.size) (fun _ _ _ _ _ hs _ _=>hs)
   ⟨⟨none,0,0,H12.out,fun y hy=>by cases hy⟩,HB2.out⟩ ?_ ?_ ?_ ?_ ?_
 rotate_left
 · intro l y Wx K hK
   dsimp only [SlX.enc]
   gi_wp2
   exact hK
 · rintro l pre y Wx hsz ⟨⟨a3,n3,d3,h3,_⟩,hB⟩ hI
   have q3:Wx.cell? ⟨w.heap.size+1,0,none⟩=some (.slice a3 n3 d3):=by rw [cell_of_block h3];rfl
   have z3:Wx.frozen? ⟨w.heap.size+1,0,none⟩=false:=blk_free h3
   have HE:Hid (KeepAll (w.heap.size+1) Wx (Wx.setCell ⟨w.heap.size+1,0,none⟩ (.slice y.a y.n y.c))∧LeI w (pre ++ [y]) (Wx.setCell ⟨w.heap.size+1,0,none⟩ (.slice y.a y.n y.c))):=Lib.hid ⟨⟨(Touch.refl _ _).setCell _ _ (.inl rfl),KeepsOthers.setCell _ _ _⟩,⟨y.a,y.n,y.c,heap_setCell_same _ _ 0 _ _ _ h3,fun y' hy' => by
     rw [List.getLast?_concat] at hy'
     cases hy'
     exact ⟨rfl,rfl,rfl,isI_set_other hI h3 _⟩⟩,hB.setCell (p:=⟨w.heap.size+1,0,none⟩) (Nat.le_succ _) _⟩
   clear h3 hI hB
   gi_wp2_with fail
   exact HE.out
 · rintro D ys Wd hD ⟨y,hy,hR,hL⟩ ⟨⟨a3,n3,d3,h3,hl3⟩,hB⟩ hK
   obtain ⟨rfl,rfl,rfl,hI⟩:=hl3 y hy
   have HR:=Lib.hid hR
   have HL:=Lib.hid hL
   have HI:=Lib.hid hI
   have HB:=Lib.hid hB
   have H3:=Lib.hid h3
   have HK:=Lib.hid hK
   have hyn:y.n=m.r.length:=by rw [hI.1];exact hR.m.pl
   have q3:Wd.cell? ⟨w.heap.size+1,0,none⟩=some (.slice y.a y.n y.c):=by rw [cell_of_block h3];rfl
   clear hy hR hL hl3 hI h3 hB hK
   obtain ⟨ya,yn,yc,yl⟩:=y
   dsimp only at hyn HR HL HI H3 q3
   subst hyn
   go_wp2_with fail
   have HYL:Hid (yl.length=m.r.length):=Lib.hid HR.out.m.pl
   refine (iclone_any ya m.r.length yc yl Wd HI.out (by rw [HYL.out];omega)).mono ?_;rintro e w5 ⟨a5,c5,rfl,hb5,ho5⟩
   rw [HYL.out] at ho5 ⊢
   obtain ⟨r1,r2,r3⟩:=owns_caps ho5
   have h5:=below_heap hb5 H3.out (lt_of_heap H3.out)
   have k5:w5.cell? ⟨w.heap.size+1,0,none⟩=some (.slice ya m.r.length yc):=by rw [cell_of_block h5];rfl
   have z5:w5.frozen? ⟨w.heap.size+1,0,none⟩=false:=blk_free h5
   have HO5:=Lib.hid (isI_of_owns ho5 HYL.out.symm)
   have H5:=Lib.hid h5
   have HB5:=Lib.hid (HB.out.trans (hb5.mono HB.out.size))
   have HK5:=Lib.hid (below_heap hb5 HK.out (lt_of_heap HK.out))
   clear ho5 h5 hb5
   go_wp2_with fail
   refine (iclip_any a5 m.r.length c5 w5 r1 r2 r3).mono ?_;rintro e w6 ⟨rfl,rfl⟩
   go_wp2_with fail
   have hM:MkD w.heap.size [D] (w5.setCell ⟨w.heap.size+1,0,none⟩ (.slice a5 m.r.length m.r.length)):=by
     have h9:=(Below.heap_setCell w5 ⟨w.heap.size+1,0,none⟩ (.slice a5 m.r.length m.r.length) D (by show D≠w.heap.size+1;omega)).trans HK5.out
     exact (MkD.nil _ _).cons h9 (by have:=HB2.out.size;omega) (Nat.le_refl _) (fun _ h=>by cases h)
   refine leaves_marks (B:=w.heap.size) (fun W' => W'.heap[w.heap.size+1]?=some (.cells #[.slice a5 m.r.length m.r.length] 22 (0,0))∧IsI W' a5 m.r.length m.r.length yl∧Below w.heap.size w W') ?_ ?_ [D] _ hM ⟨heap_setCell_same _ _ 0 _ _ _ H5.out,isI_set_other HO5.out.clip H5.out _,HB5.out.setCell (p:=⟨w.heap.size+1,0,none⟩) (Nat.le_succ _) _⟩
   · intro W' l' ⟨a1,a2,a3⟩ hl' ho
     exact ⟨by rw [World.putObj_heap_other (fun e=>by rw [e,ho] at a1;cases a1)];exact a1,isI_put a2 ho rfl,below_put a3 hl'⟩
   · intro W' ⟨a1,a2,a3⟩
     have q1:W'.cell? ⟨w.heap.size+1,0,none⟩=some (.slice a5 m.r.length m.r.length):=by rw [cell_of_block a1];rfl
     exact ⟨.tuple #[.slice a5 m.r.length m.r.length,.int .i64 0],by simp [results,Tryz.results47,asAddr,go_sem,q1],a5,m.r.length,yl,rfl,a3,a2,HR.out,HL.out⟩
 · intros
   contradiction
end
end Go.Proofs.YtmmmjohoihpbeaaGreat
