/- The package rises: a market's state at prices;conditions: those typed. -/
import Derived.Test.YtmmmjohoihpbeaaGreatTJwVJwM
namespace Go.Proofs.YtmmmjohoihpbeaaGreat
section
open Go.RowKit Go.Shelf
set_option linter.unusedVariables false
set_option linter.unusedSimpArgs false
attribute [local go_sem] Oper.semAt_some
def mixU (L:List (List Int)) (bs:List Bool) (j:Nat):List (List Int):=(List.range L.length).map fun i=>if i<j∧bs.getD i false=true then [] else L.getD i []
def mustU (bs:List Bool) (j:Nat):List Int:=((List.range j).filter fun i => !bs.getD i false).map Int.ofNat
theorem mixU_length (L:List (List Int)) (bs:List Bool) (j:Nat):(mixU L bs j).length=L.length:=by simp [mixU]
theorem mixU_zero (L:List (List Int)) (bs:List Bool):mixU L bs 0=L:=by
 apply List.ext_getElem
 · simp [mixU]
 · intro i h1 h2;simp [mixU,h2]
theorem mixU_set (L:List (List Int)) (bs:List Bool) (j:Nat) (hj:j<L.length) (hb:bs.getD j false=true):mixU L bs (j+1)=(mixU L bs j).set j []:=by
 apply List.ext_getElem
 · simp [mixU]
 · intro i h1 h2
   have hi:i<L.length:=by simpa [mixU] using h1
   rw [List.getElem_set]
   by_cases e:j=i
   · subst e;simp only [mixU,List.getElem_map,List.getElem_range,if_true];rw [if_pos ⟨by omega,hb⟩]
   · simp only [mixU,List.getElem_map,List.getElem_range,e,if_false]
     by_cases e2:i<j
     · simp only [e2,show i<j+1 by omega,true_and]
     · simp only [e2,show ¬ i<j+1 by omega,false_and,if_false]
theorem mixU_keep (L:List (List Int)) (bs:List Bool) (j:Nat) (hb:bs.getD j false=false):mixU L bs (j+1)=mixU L bs j:=by
 apply List.map_congr_left
 intro i _
 by_cases e:i=j
 · subst e;rw [hb];simp
 · by_cases e2:i<j
   · simp only [e2,show i<j+1 by omega,true_and]
   · simp only [e2,show ¬ i<j+1 by omega,false_and,if_false]
theorem mustU_succ (bs:List Bool) (j:Nat):mustU bs (j+1)=mustU bs j ++ if bs.getD j false=true then [] else [(j:Int)]:=by
 unfold mustU
 rw [List.range_succ,List.filter_append,List.map_append]
 congr 1
 simp only [List.filter_cons,List.filter_nil]
 cases h:bs.getD j false
 · rfl
 · rfl
theorem mustU_len (bs:List Bool) (j:Nat):(mustU bs j).length≤j:=by
 unfold mustU
 rw [List.length_map]
 exact Nat.le_trans (List.length_filter_le _ _) (by simp)
structure StV (W:World) (S:Nat) (x:MkA) (m:MkC) (p:List Int) (L:List (List Int)) (mu:List Int):Prop where
 mv:MkT W x m
 l:L.length=m.b.length
 c:∃ pa pc B ma mc,W.heap[S]?=some (.cells (x.cells ++ [Value.slice pa p.length pc,Value.slice (some ⟨B,0,none⟩) m.b.length m.b.length,Value.slice ma mu.length mc]).toArray 131 (0,0))∧IsI W pa p.length pc p∧HdB W B L∧IsI W ma mu.length mc mu
structure AtQ (W4 wr:World) (S B:Nat) (C5:List Value) (L:List (List Int)) (mu:List Int):Prop where
 s:∃ a c,wr.heap[S]?=some (.cells (C5 ++ [Value.slice a mu.length c]).toArray 131 (0,0))∧wr.ownsRow W4.heap.size 3 1 (.slice a mu.length c) mu.length (icells mu)
 b:∃ C:Array Value,wr.heap[B]?=some (.cells C 22 (0,0))∧C.size=L.length∧∀ i (h:i<L.length),∃ x y z,C[i]?=some (.slice x y z)∧IsI W4 x y z L[i]
 t:Touch (fun k=>k=S∨k=B) W4 wr
theorem isI_touch_ty {S:Nat→Prop} {W W':World} {a:Option Addr} {n c:Nat} {l:List Int} (h:IsI W a n c l) (ht:Touch S W W') (hs:∀ k,S k→∃ C t,W.heap[k]?=some (.cells C t (0,0))∧∀ (i:Nat) (z:Int),C[i]?≠some (.int .i64 z)):IsI W' a n c l:=by
 obtain ⟨h1,h2,h3,h4 | ⟨b,off,rfl,hlt,hc⟩⟩:=h
 · exact ⟨h1,h2,h3,.inl h4⟩
 · refine ⟨h1,h2,h3,.inr ⟨b,off,rfl,Nat.lt_of_lt_of_le hlt ht.size,fun i hi=>ht.cell (hc i hi) (fun hS => ?_)⟩⟩
   obtain ⟨C,t,k1,k2⟩:=hs b hS
   have:=hc i hi
   rw [cell_of_block k1] at this
   exact k2 _ _ this
theorem AtQ.nil {W4 wr:World} {S B:Nat} {C5:List Value} {L:List (List Int)} {mu:List Int} (h:AtQ W4 wr S B C5 L mu) (hne:B≠S) (hB:B<W4.heap.size) (i:Nat):AtQ W4 (wr.setCell ⟨B,i,none⟩ (.slice none 0 0)) S B C5 (L.set i []) mu:=by
 obtain ⟨⟨a,c,s1,s2⟩,⟨C,b1,b2,b3⟩,ht⟩:=h
 refine ⟨⟨a,c,(Below.heap_setCell wr ⟨B,i,none⟩ _ S (fun e=>hne e.symm)).trans s1,owns_touch s2 (touch_set wr B i _) (fun k hk e=>by have:=owns_base s2 k hk;omega)⟩,⟨_,heap_setCell_same wr B i _ _ (.slice none 0 0) b1,by simp [b2],fun k hk => ?_⟩,ht.setCell _ _ (.inl (.inr rfl))⟩
 have hk':k<L.length:=by simpa using hk
 rw [Array.getElem?_setIfInBounds,List.getElem_set]
 by_cases e:i=k
 · subst e
   rw [if_pos rfl,if_pos (by rw [b2];exact hk'),if_pos rfl]
   exact ⟨none,0,0,rfl,IsI.nil _⟩
 · rw [if_neg e,if_neg e]
   exact b3 k hk'
theorem AtQ.app {W4 wr w3:World} {S B:Nat} {C5:List Value} {L:List (List Int)} {mu:List Int} (h:AtQ W4 wr S B C5 L mu) (hC:C5.length=5) (hne:B≠S) (hB:B<W4.heap.size) (hS:S<W4.heap.size) {a b3:Option Addr} {c c3:Nat} {o:Obj} {z:Int} (hs:wr.heap[S]?=some (.cells (C5 ++ [Value.slice a mu.length c]).toArray 131 (0,0))) (ho:wr.ownsRow W4.heap.size 3 1 (.slice a mu.length c) mu.length (icells mu)) (hg:(wr.alloc o).grownBy w3 (Value.slice a mu.length c).ownBlock) (ho3:w3.ownsRow W4.heap.size 3 1 (.slice b3 (mu.length+1) c3) (mu.length+1) (icells mu ++ [.int .i64 z])) :
   AtQ W4 (w3.setCell ⟨S,5,none⟩ (.slice b3 (mu.length+1) c3)) S B C5 L (mu ++ [z])∧w3.cell? ⟨S,5,none⟩=some (.slice a mu.length c)∧w3.frozen? ⟨S,5,none⟩=false:=by
 obtain ⟨_,⟨C,b1,b2,b3'⟩,ht⟩:=h
 have t3:Touch (fun k=>k=S∨k=B) W4 w3:=(ht.alloc o).grown hg (fun k hk=>.inr (owns_base ho k hk))
 have t4:Touch (fun k=>W4.heap.size≤k) wr w3:=((Touch.refl _ wr).alloc o).grown hg (fun k hk=>.inl (owns_base ho k hk))
 have s3:=t4.heap hs (by omega)
 have k3:=t4.heap b1 (by omega)
 have h5:(C5 ++ [Value.slice a mu.length c]).toArray[5]?=some (.slice a mu.length c):=by
   rw [List.getElem?_toArray,List.getElem?_append_right (by omega),hC];rfl
 refine ⟨⟨⟨b3,c3,?_,?_⟩,⟨C,(Below.heap_setCell w3 ⟨S,5,none⟩ _ B hne).trans k3,b2,b3'⟩,t3.setCell _ _ (.inl (.inl rfl))⟩,by rw [cell_of_block s3];exact h5,blk_free s3⟩
 · have e:(C5 ++ [Value.slice a mu.length c]).set 5 (Value.slice b3 (mu.length+1) c3)=C5 ++ [Value.slice b3 (mu.length+1) c3]:=by
     rw [List.set_append_right _ _ (by omega),hC];rfl
   rw [heap_setCell_same w3 S 5 _ _ _ s3,List.setIfInBounds_toArray,e,List.length_append];rfl
 · rw [icells_append,List.length_append]
   exact owns_touch ho3 (touch_set w3 S 5 _) (fun k hk e=>by have:=owns_base ho3 k hk;omega)
set_option maxRecDepth 100000 in
set_option maxHeartbeats 8000000 in
theorem at_any (x:MkA) (m:MkC) (pa:Option Addr) (pn pc:Nat) (p:List Int) (w:World) (h:MkT w x m) (hp:IsI w pa pn pc p) (hpo:PrOk p) (hpl:p.length=m.r.length) :
   Calls Tryz.prog 83 #[.agg x.cells.toArray,.slice pa pn pc] w fun e W => ∃ S,e=.returned (.pointer (some ⟨S,0,none⟩))∧Below w.heap.size w W∧w.heap.size≤S∧StV W S x m p (mixU (wantsD m.b p) (noneD m.b p) m.b.length) (mustU (noneD m.b p) m.b.length):=by
 obtain ⟨ra,rn,rc,ba,bn,bc,bv,oa,on,oc⟩:=x
 have hr:=h.r
 have hbb:=h.b
 have ho:=h.o
 unfold MkA.cells
 dsimp only at hr hbb ho ⊢
 obtain rfl:=hr.1
 obtain rfl:=hbb.1
 obtain rfl:=ho.1
 obtain rfl:=hp.1
 have hp8:=hpo.l8
 obtain ⟨b1,b2,b3,b4,b5⟩:=mktB_bd h.ok
 have HPO:=Lib.hid hpo
 have HPL:=Lib.hid hpl
 have hb0:Below w.heap.size w (w.alloc (.cells #[.slice ra m.r.length rc,.slice ba m.b.length bc,.slice oa m.o.length oc] 25)):=(Below.refl _ _).alloc (Nat.le_refl _) _
 have hv:=heap_new w (.cells #[.slice ra m.r.length rc,.slice ba m.b.length bc,.slice oa m.o.length oc] 25 (0,0))
 have HM:=Lib.hid (h.below hb0)
 have HP:=Lib.hid (hp.below hb0)
 have HMW:=Lib.hid h
 clear h hp hr hbb ho b1 b4 b5 hpo hpl
 go_enter Tryz.func83,Tryz.ntmps83
 go_wp2_with fail
 generalize w.alloc (.cells #[.slice ra m.r.length rc,.slice ba m.b.length bc,.slice oa m.o.length oc] 25)=W at hb0 hv HM HP ⊢
 have c0:W.cell? ⟨w.heap.size,0,none⟩=some (.slice ra m.r.length rc):=by rw [cell_of_block hv];rfl
 have c1:W.cell? ⟨w.heap.size,1,none⟩=some (.slice ba m.b.length bc):=by rw [cell_of_block hv];rfl
 have c2:W.cell? ⟨w.heap.size,2,none⟩=some (.slice oa m.o.length oc):=by rw [cell_of_block hv];rfl
 have HB0:=Lib.hid hb0
 clear hb0 hv
 go_region_with ((go_at_call 57;refine (iclone_any pa p.length pc p _ (HP.out.below (by first | exact Below.refl _ _ | exact (Below.refl _ _).drew)) (by omega)).mono ?_;rintro e w1 ⟨a1,d1,rfl,hb1,ho1⟩;have k0:=cell_later hb1 c0;have k1:=cell_later hb1 c1;have k2:=cell_later hb1 c2))
 all_goals
   have hb1':Below W.heap.size W w1:=by first | exact hb1 | exact (Below.refl _ _).drew.trans hb1
   have ho1':w1.ownsRow W.heap.size 3 1 (.slice a1 p.length d1) p.length (icells p):=ho1
   clear hb1 ho1
   have hb2:Below w1.heap.size w1 (w1.alloc (.cells #[.slice ra m.r.length rc,.slice ba m.b.length bc,.slice oa m.o.length oc,.slice a1 p.length d1,.slice none 0 0,.slice none 0 0] 131)):=(Below.refl _ _).alloc (Nat.le_refl _) _
   have v2:=heap_new w1 (.cells #[.slice ra m.r.length rc,.slice ba m.b.length bc,.slice oa m.o.length oc,.slice a1 p.length d1,.slice none 0 0,.slice none 0 0] 131 (0,0))
   have l0:=cell_later hb2 k0
   have l1:=cell_later hb2 k1
   have l2:=cell_later hb2 k2
   have HP2:=Lib.hid ((isI_of_owns ho1' rfl).below hb2)
   have HPP:=Lib.hid ((HP.out.below hb1').below hb2)
   have HM2:=Lib.hid ((HM.out.below hb1').below hb2)
   have HB2:=Lib.hid (HB0.out.trans ((hb1'.trans (hb2.mono hb1'.size)).mono HB0.out.size))
   have hw1:w.heap.size≤w1.heap.size:=Nat.le_trans HB0.out.size hb1'.size
   clear k0 k1 k2 ho1' hb1' hb2 HM HP HB0
   simp only [Act.put,List.getElem_toArray,List.getElem_cons_succ,List.getElem_cons_zero,List.setIfInBounds_toArray,List.set_cons_zero,List.set_cons_succ]
   revert v2 l0 l1 l2 HP2 HPP HM2 HB2
   generalize (w1.alloc (.cells #[.slice ra m.r.length rc,.slice ba m.b.length bc,.slice oa m.o.length oc,.slice a1 p.length d1,.slice none 0 0,.slice none 0 0] 131))=W2
   intro v2 l0 l1 l2 HP2 HPP HM2 HB2
   have HV2:=Lib.hid v2
   clear v2
   go_wp2_with fail
   refine (dall_any ⟨ra,m.r.length,rc,ba,m.b.length,bc,bv,oa,m.o.length,oc⟩ m pa p.length pc p W2 HM2.out HPP.out HPO.out HPL.out).mono ?_;rintro e W4 ⟨B,N,rfl,hb4,hB,hN,hBN,hd,hn⟩
   have hv4:=below_heap hb4 HV2.out (lt_of_heap HV2.out)
   have hsW:=lt_of_heap HV2.out
   have HP4:=Lib.hid (HP2.out.below hb4)
   have HB4:=Lib.hid (HB2.out.trans (hb4.mono HB2.out.size))
   have HN4:=Lib.hid hn
   have HQ0:Hid (AtQ W4 W4 w1.heap.size B [.slice ra m.r.length rc,.slice ba m.b.length bc,.slice oa m.o.length oc,.slice a1 p.length d1,.slice none 0 0] (mixU (wantsD m.b p) (noneD m.b p) 0) (mustU (noneD m.b p) 0)):=Lib.hid ⟨⟨none,0,hv4,World.ownsRow_nil _ _ _ _⟩,by rw [mixU_zero];exact hd,Touch.refl _ _⟩
   have HD4:=Lib.hid hd
   have HBS:Hid (B≠w1.heap.size∧N≠w1.heap.size∧B≠N∧B<W4.heap.size∧N<W4.heap.size∧w1.heap.size<W4.heap.size):=Lib.hid ⟨by omega,by omega,hBN,hd.lt,lt_of_heap hn,lt_of_heap hv4⟩
   clear l0 l1 l2 hd hn hv4 hb4 HP2 HPP HM2 HV2 HB2
   go_wp2_with fail
   go_loopw [24] (fun i wr => ∃ j:Nat,j≤m.b.length∧i=.int .i64 (j:Int)∧Hid (AtQ W4 wr w1.heap.size B [.slice ra m.r.length rc,.slice ba m.b.length bc,.slice oa m.o.length oc,.slice a1 p.length d1,.slice none 0 0] (mixU (wantsD m.b p) (noneD m.b p) j) (mustU (noneD m.b p) j))) (fun i _=>m.b.length - (intOf i).toNat)
   case atStart=>exact ⟨0,Nat.zero_le _,rfl,HQ0⟩
   case round =>
     obtain ⟨j,hj,rfl,HQ⟩:=hrel
     by_cases hlt:j<m.b.length
     · have hnl:j<(noneD m.b p).length:=by simpa [noneD] using hlt
       have hNw:=HQ.out.t.heap HN4.out (by have:=HBS.out;omega)
       have kn:wr.cell? ⟨N,j,none⟩=some (.bool (noneD m.b p)[j]):=by rw [cell_of_block hNw];exact bocells_get _ _ hnl
       have hwl:j<(mixU (wantsD m.b p) (noneD m.b p) j).length:=by rw [mixU_length];simpa [wantsD] using hlt
       have hgd:(noneD m.b p).getD j false=(noneD m.b p)[j]:=by rw [List.getD_eq_getElem?_getD,List.getElem?_eq_getElem hnl];rfl
       cases hq:(noneD m.b p)[j] with
       | true =>
         rw [hq] at kn hgd
         have HX:Hid (AtQ W4 (wr.setCell ⟨B,j,none⟩ (.slice none 0 0)) w1.heap.size B [.slice ra m.r.length rc,.slice ba m.b.length bc,.slice oa m.o.length oc,.slice a1 p.length d1,.slice none 0 0] (mixU (wantsD m.b p) (noneD m.b p) (j+1)) (mustU (noneD m.b p) (j+1))):=Lib.hid (by
           rw [mixU_set _ _ j (by simpa [wantsD] using hlt) hgd,mustU_succ,hgd,if_pos rfl,List.append_nil]
           exact HQ.out.nil HBS.out.1 HBS.out.2.2.2.1 j)
         obtain ⟨C,b1,b2',b3'⟩:=HQ.out.b
         obtain ⟨x',y',z',q1,q2⟩:=b3' j hwl
         have kb:wr.cell? ⟨B,j,none⟩=some (.slice x' y' z'):=by rw [cell_of_block b1];exact q1
         have zb:wr.frozen? ⟨B,j,none⟩=false:=blk_free b1
         clear q2 hq hgd hNw hnl b1 b2' b3' q1 hwl
         go_wp2_with fail
         go_roundw
         case rel=>exact ⟨j+1,by omega,by go_num,HX⟩
         case measure=>simp [intOf];omega
       | false =>
         rw [hq] at kn hgd
         have HE:Hid (mixU (wantsD m.b p) (noneD m.b p) (j+1)=mixU (wantsD m.b p) (noneD m.b p) j∧mustU (noneD m.b p) (j+1)=mustU (noneD m.b p) j ++ [(j:Int)]):=Lib.hid ⟨mixU_keep _ _ _ hgd,by rw [mustU_succ,hgd];rfl⟩
         have hml:=mustU_len (noneD m.b p) j
         obtain ⟨ma,mc,s1,s2⟩:=HQ.out.s
         generalize mustU (noneD m.b p) j=mu at HQ HE hml s1 s2
         have ks:wr.cell? ⟨w1.heap.size,5,none⟩=some (.slice ma mu.length mc):=by rw [cell_of_block s1];rfl
         have hsz:W4.heap.size≤wr.heap.size:=HQ.out.t.size
         clear hq hgd hNw hwl hnl
         go_wp2_with (at_builtin
                      refine wpList_append_any rowInt rfl (.tmp 38) (.tmp 40) rfl W4.heap.size _ mu.length (icells mu) rfl (s2.alloc _) (some ⟨wr.heap.size,0,none⟩) 1 1 [.int .i64 (j:Int)] rfl rfl (At.one wr _ _) (one_cell _ rfl) (by unfold maxLen;omega) (by omega) (by simp;omega) ?_
                      intro b3 c3 w3 ho3 hg3 _
                      obtain ⟨hX,kX,zX⟩:=HQ.out.app rfl HBS.out.1 HBS.out.2.2.2.1 HBS.out.2.2.2.2.2 s1 s2 hg3 ho3
                      have HX:=Lib.hid hX
                      clear hX ho3 hg3)
         go_roundw
         case rel=>exact ⟨j+1,by omega,by go_num,by rw [HE.out.1,HE.out.2];exact HX⟩
         case measure=>simp [intOf];omega
     · have hjj:j=m.b.length:=by omega
       subst hjj
       obtain ⟨⟨ma,mc,s1,s2⟩,⟨C,b1,b2',b3'⟩,ht⟩:=HQ.out
       have ks:wr.cell? ⟨w1.heap.size,4,none⟩=some (.slice none 0 0):=by rw [cell_of_block s1];rfl
       have zs:wr.frozen? ⟨w1.heap.size,4,none⟩=false:=blk_free s1
       have HS1:=Lib.hid s1
       have HS2:=Lib.hid s2
       have HB1:=Lib.hid b1
       have HB2:=Lib.hid b2'
       have HB3:=Lib.hid b3'
       have HT:=Lib.hid ht
       clear s1 s2 b1 b2' b3' ht
       go_wp2_with fail
       go_ret
       have t5:Touch (fun k=>k=w1.heap.size∨k=B) W4 (wr.setCell ⟨w1.heap.size,4,none⟩ (.slice (some ⟨B,0,none⟩) m.b.length m.b.length)):=HT.out.setCell _ _ (.inl (.inl rfl))
       have hty:∀ k,(k=w1.heap.size∨k=B)→∃ C t,W4.heap[k]?=some (.cells C t (0,0))∧∀ (i:Nat) (z:Int),C[i]?≠some (.int .i64 z):=fun k hk=>by
         rcases hk with rfl | rfl
         · obtain ⟨a0,c0',s0,_⟩:=HQ0.out.s
           refine ⟨_,_,s0,fun i z e => ?_⟩
           rw [List.getElem?_toArray] at e
           have:=List.mem_of_getElem? e
           simp at this
         · obtain ⟨C0,b0,b01,b02⟩:=HD4.out
           refine ⟨_,_,b0,fun i z e => ?_⟩
           have hi:=(Array.getElem?_eq_some_iff.1 e).1
           obtain ⟨x0,y0,z0,e0,_⟩:=b02 i (by omega)
           rw [e] at e0;cases e0
       have hbw:Below w.heap.size w (wr.setCell ⟨w1.heap.size,4,none⟩ (.slice (some ⟨B,0,none⟩) m.b.length m.b.length)):=HB4.out.trans (t5.below HB4.out.size (fun k hk e=>by rcases e with e | e <;> omega))
       refine ⟨w1.heap.size,rfl,hbw,hw1,HMW.out.below hbw,by rw [mixU_length];simp [wantsD],a1,d1,B,ma,mc,?_,isI_touch_ty HP4.out t5 hty,⟨C,?_,HB2.out,fun i hi => ?_⟩,?_⟩
       · rw [heap_setCell_same wr w1.heap.size 4 _ _ _ HS1.out];rfl
       · exact (Below.heap_setCell wr ⟨w1.heap.size,4,none⟩ _ B HBS.out.1).trans HB1.out
       · obtain ⟨x',y',z',q1,q2⟩:=HB3.out i hi
         exact ⟨x',y',z',q1,isI_touch_ty q2 t5 hty⟩
       · exact isI_of_owns (owns_touch HS2.out (touch_set wr w1.heap.size 4 _) (fun k hk e=>by have:=owns_base HS2.out k hk;have:=HBS.out;omega)) rfl
end
end Go.Proofs.YtmmmjohoihpbeaaGreat
