/- A book's lists of the kind Int: filled,grown,looked at;conditions: those typed. (Written by gen_book.py.) -/
import Derived.Test.YtgbikngicidbkaaGreatDoorQKBsKBtKBeKBByte
import Derived.Test.YtgbikngicidbkaaGreatDoorQKBIntList
import Derived.Test.YtgbikngicidbkaaGreatDoorQKBByteList
import Derived.Test.YtgbikngicidbkaaGreatDoorQKBaKBkKBKByteListKBKIntList
namespace Go.Proofs.YtgbikngicidbkaaGreatDoor
open Go.RowKit
set_option linter.unusedVariables false
set_option linter.unusedSimpArgs false
set_option maxRecDepth 100000
theorem markInt_any (m:Nat) (w:World) (hm:m<4611686018427387904):Calls Tryz.prog 168 #[.int .i64 m] w fun e w' => ∃ x:Int,e=.returned (.int .i64 (x))∧Below w.heap.size w w'∧∀ F,F≤w.heap.size→Good .int F w' m (.int .i64 (x)):=by
 go_enter Tryz.func168,Tryz.ntmps168
 go_wp2
 go_ret
 exact ⟨_,rfl,Below.refl _ _,fun F hF=>rfl⟩
theorem isInt_any (m F:Nat) (x:Int) (w:World) (hm:m<4611686018427387904) (hg:Good .int F w m (.int .i64 (x))):Calls Tryz.prog 177 #[(.int .i64 (x)),.int .i64 m] w fun e w' => e=.returned (.bool true)∧∃ q,w'=w.drewN q:=by
 cases hg
 go_enter Tryz.func177,Tryz.ntmps177
 go_wp2
 go_ret
 exact ⟨by simp,0,rfl⟩
theorem goodInt_shape {F m:Nat} {w:World} {v:Value} (h:Good .int F w m v):∃ x:Int,v=(.int .i64 (x)):=by
 first
   | exact ⟨_,h⟩
   | (obtain ⟨g,e,_⟩:=h;exact ⟨g,e⟩)
set_option maxHeartbeats 4000000 in
theorem fillInt_any (w:World) (B bk:Nat) (C:Array Value) (bo:Option Addr) (bc:Nat) (L:List Hl) (hb:w.heap[bk]?=some (.cells C 56 (0,0))) (hC:C[2]?=some (.slice bo L.length bc)) (h:Part .int w B (.slice bo L.length bc) L) (F:Nat) (hF:F≤w.heap.size) (hlow:∀ k,LS L k→k<F) :
   Calls Tryz.prog 97 #[.pointer (some ⟨bk,0,none⟩)] w fun e w' => e=.returned (.tuple #[])∧Touch (LS L) w w'∧Part .int w' B (.slice bo L.length bc) L∧∀ i (hi:i<L.length),HFill .int F w' L[i].l L[i].m:=by
 have hfew:=h.few
 have HC:Hid (∀ (W:World),Touch (LS L) w W→W.cell? ⟨bk,2,none⟩=some (.slice bo L.length bc)):=Lib.hid (fun W ht=>by
   rw [cell_of_block (ht.heap hb (fun e=>by
     obtain ⟨cur,hc,_⟩:=h.ls e
     exact ty_ne hc hb (by decide) rfl))]
   exact hC)
 have HH:=Lib.hid h
 have HLO:=Lib.hid hlow
 have HFF:=Lib.hid hF
 clear h hb hC hlow hF
 go_enter Tryz.func97,Tryz.ntmps97
 go_wp2
 obtain ⟨M,hM⟩:∃ M,M=L.length:=⟨_,rfl⟩
 have HM:=Lib.hid hM
 clear hM
 go_loopw [2] (fun i wr => ∃ j:Nat,j≤L.length∧i=.int .i64 j∧Hid (Touch (LS L) w wr)∧Hid (Part .int wr B (.slice bo L.length bc) L)∧Hid (∀ i (hi:i<L.length),i<j→HFill .int F wr L[i].l L[i].m)) (fun i _=>M - (intOf i).toNat)
 case atStart=>exact ⟨0,Nat.zero_le _,rfl,Lib.hid (Touch.refl _ _),HH,Lib.hid (fun i hi h=>by omega)⟩
 case round =>
   obtain ⟨j,hj,rfl,HT,HK,HF⟩:=hrel
   have f1:wr.cell? ⟨bk,2,none⟩=some (.slice bo L.length bc):=HC.out wr HT.out
   by_cases hlt:j<L.length
   · obtain ⟨gr,c,cur,hbs,hnc,hcm,hgr,_,hra⟩:=HK.out.row_at (by omega)
     obtain ⟨rfl,rfl⟩:bo=some ⟨gr,0,none⟩∧bc=c:=by simpa using hbs
     obtain ⟨xa,xn,xc,ya,yn,yc,m,E⟩:∃ xa xn xc ya yn yc m,Hid (xa=L[j].l.a∧xn=L[j].l.n∧xc=L[j].l.c∧ya=L[j].g.a∧yn=L[j].g.n∧yc=L[j].g.c∧m=L[j].m):=⟨_,_,_,_,_,_,_,Lib.hid ⟨rfl,rfl,rfl,rfl,rfl,rfl,rfl⟩⟩
     have RA:Hid (wr.rangeAt gr (j*3) [.slice xa xn xc,.slice ya yn yc,.int .i64 m]):=Lib.hid (by obtain ⟨e1,e2,e3,e4,e5,e6,e7⟩:=E.out;rw [e1,e2,e3,e4,e5,e6,e7];exact hra j hlt)
     have hm62:m<4611686018427387904:=by rw [E.out.2.2.2.2.2.2];exact HK.out.num j hlt
     have hxn:xn≤maxLen:=by rw [E.out.2.1];exact (HK.out.ok j hlt).len
     have hxm:(xn:Int)≤9223372036854775807:=by unfold maxLen at hxn;omega
     clear hbs hra
     go_wp2_with (first
       | (refine wpList_load_mid rfl 168 (.tmp 19) rfl gr (j*3) rfl [.slice xa xn xc,.slice ya yn yc,.int .i64 m] _ RA.out Tryz.underlying168 rfl (infoH3 .int) ?_)
       | fail)
     have hv:=heap_new wr (.cells #[.slice xa xn xc,.slice ya yn yc,.int .i64 m] 168 (0,0))
     have hbv:Below wr.heap.size wr (wr.alloc (.cells #[.slice xa xn xc,.slice ya yn yc,.int .i64 m] 168)):=(Below.refl _ _).alloc (Nat.le_refl _) _
     generalize wr.alloc (.cells #[.slice xa xn xc,.slice ya yn yc,.int .i64 m] 168)=w1 at hv hbv ⊢
     have HT1:=Lib.hid (HT.out.trans (Touch.of_below hbv))
     have HK1:=Lib.hid (HK.out.below hbv)
     have HF1:Hid (∀ i (hi:i<L.length),i<j→HFill .int F w1 L[i].l L[i].m):=Lib.hid (fun i hi h=>(HF.out i hi h).below hbv)
     have HV1:=Lib.hid hv
     obtain ⟨hv0,hhv⟩:∃ hv0,hv0=wr.heap.size:=⟨_,rfl⟩
     rw [← hhv] at HV1 ⊢
     clear hv hbv HT HK HF f1 hhv hgr
     obtain ⟨P,hP⟩:∃ P,P=xn:=⟨_,rfl⟩
     have HP:=Lib.hid hP
     clear hP
     go_loopw [4] (fun i2 wk => ∃ k:Nat,k≤xn∧i2=.int .i64 k∧Hid (Touch (LS L) w wk)∧Hid (Part .int wk B (.slice (some ⟨gr,0,none⟩) L.length bc) L)∧Hid (∀ i (hi:i<L.length),i<j→HFill .int F wk L[i].l L[i].m)∧Hid (∀ x,x<k→∃ g v,xa=some ⟨g,0,none⟩∧wk.cell? ⟨g,x,none⟩=some v∧Good .int F wk m v)∧Hid (wk.heap[hv0]?=some (.cells #[.slice xa xn xc,.slice ya yn yc,.int .i64 m] 168 (0,0)))) (fun i2 _=>P - (intOf i2).toNat)
     case atStart=>exact ⟨0,Nat.zero_le _,rfl,HT1,HK1,HF1,Lib.hid (fun x hx=>by omega),HV1⟩
     case round =>
       clear HT1 HK1 HF1 HV1
       obtain ⟨k,hk,rfl,HT,HK,HF,HX,HV⟩:=hrel
       have v0:wr.cell? ⟨hv0,0,none⟩=some (.slice xa xn xc):=by rw [cell_of_block HV.out];rfl
       have v2:wr.cell? ⟨hv0,2,none⟩=some (.int .i64 m):=by rw [cell_of_block HV.out];rfl
       by_cases hkl:k<xn
       · obtain ⟨g,cur,hga,hgc,hgk,hgB,hgz⟩:=(HK.out.ok j hlt).at k (by rw [← E.out.2.1];exact hkl)
         have hxa:xa=some ⟨g,0,none⟩:=by rw [E.out.1];exact hga
         subst hxa
         have hgF:Hid (g<F):=Lib.hid (HLO.out g ⟨j,hlt,hga⟩)
         have hFw:Hid (F≤wr.drew.heap.size):=Lib.hid (Nat.le_trans HFF.out HT.out.size)
         obtain ⟨u,c1⟩:∃ u,wr.cell? ⟨g,k,none⟩=some u:=by rw [cell_of_block hgc];exact ⟨_,Array.getElem?_eq_getElem hgk⟩
         have c1':wr.drew.cell? ⟨g,k,none⟩=some u:=c1
         have c2:wr.frozen? ⟨g,k,none⟩=false:=hgz
         have hgd:wr.drew.heap[g]?=some (.cells cur.1 3 cur.2):=hgc
         have HGD:=Lib.hid hgd
         have c2':wr.drew.frozen? ⟨g,k,none⟩=false:=c2
         have hne:g≠hv0:=ty_ne hgc HV.out (by decide)
         have v0d:wr.drew.cell? ⟨hv0,0,none⟩=some (.slice (some ⟨g,0,none⟩) xn xc):=v0
         have v2d:wr.drew.cell? ⟨hv0,2,none⟩=some (.int .i64 m):=v2
         have HGA:=Lib.hid hga
         clear hgc hgd hga hgz
         go_wp2
         go_region_held3 (fun w' => w'.cell? ⟨hv0,0,none⟩=some (.slice (some ⟨g,0,none⟩) xn xc)∧w'.cell? ⟨hv0,2,none⟩=some (.int .i64 m)) (first
             | with_reducible exact ⟨v0d,v2d⟩
             | with_reducible exact q3
             | exact ⟨(World.cell?_setCell_far w3 ⟨g,k,none⟩ ⟨hv0,0,none⟩ _ hne).trans q3.1,(World.cell?_setCell_far w3 ⟨g,k,none⟩ ⟨hv0,2,none⟩ _ hne).trans q3.2⟩) (first
           | (go_at_call 168;((with_reducible refine (markInt_any m wr.drew hm62).mono ?_);rintro e w3 ⟨x,rfl,hb3,hg3⟩;have hgood:=Lib.hid (hg3 F hFw.out);have q3:w3.cell? ⟨hv0,0,none⟩=some (.slice (some ⟨g,0,none⟩) xn xc)∧w3.cell? ⟨hv0,2,none⟩=some (.int .i64 m):=⟨cell_later hb3 v0d,cell_later hb3 v2d⟩;have qc:w3.cell? ⟨g,k,none⟩=some u:=cell_later hb3 c1';have qg:=below_heap hb3 HGD.out (lt_of_heap HGD.out);have qf:w3.frozen? ⟨g,k,none⟩=false:=(by have h0:=c2';unfold World.frozen? at h0 ⊢;rw [HGD.out] at h0;rw [qg];exact h0);have HB3:Hid (Below wr.heap.size wr w3):=Lib.hid (((Below.refl wr.heap.size wr).drew).trans hb3);have HQG:=Lib.hid qg;clear hb3 hg3 qg))
           | fail)
         obtain ⟨w5,hw5⟩:∃ w5,w5=w3.setCell ⟨g,k,none⟩ (.int .i64 (x)):=⟨_,rfl⟩
         have htg:Touch (fun y=>y=g) w3 w5:=by rw [hw5];exact (Touch.refl _ _).setCell _ _ (.inl rfl)
         have hkeep:∀ v,Good .int F w3 m v→Good .int F w5 m v:=fun v hv=>hv.touch htg (fun y hy=>by rw [hy];exact hgF.out)
         have HT2:Hid (Touch (LS L) w w5):=Lib.hid ((HT.out.trans (Touch.of_below HB3.out)).trans (htg.weaken (fun y _ hy=>by rw [hy];exact ⟨j,hlt,HGA.out⟩)))
         have HK2:Hid (Part .int w5 B (.slice (some ⟨gr,0,none⟩) L.length bc) L):=Lib.hid (by rw [hw5];exact (HK.out.below HB3.out).store j hlt k g (by rw [← E.out.2.1];exact hkl) HGA.out (.int .i64 (x)))
         have HF2:Hid (∀ i (hi:i<L.length),i<j→HFill .int F w5 L[i].l L[i].m):=Lib.hid (fun i hi h=>((HF.out i hi h).below HB3.out).touch htg (fun y hy e=>HK.out.apart j i hlt hi (by omega) g HGA.out (by rw [← e];exact hy)) (fun v hv=>hv.touch htg (fun y hy=>by rw [hy];exact hgF.out)))
         have HX2:Hid (∀ x,x<k+1→∃ g' v,(some ⟨g,0,none⟩:Option Addr)=some ⟨g',0,none⟩∧w5.cell? ⟨g',x,none⟩=some v∧Good .int F w5 m v):=Lib.hid (fun y hy=>by
           by_cases hyk:y=k
           · subst hyk
             refine ⟨g,_,rfl,?_,hkeep _ hgood.out⟩
             rw [hw5]
             exact World.cell?_setCell_same' _ _ _ (by rw [qc];rfl)
           · obtain ⟨g',v,e,hc,hv⟩:=HX.out y (by omega)
             cases e
             refine ⟨g,v,rfl,?_,hkeep _ (hv.below HB3.out)⟩
             rw [hw5]
             exact (World.cell?_setCell_other _ _ _ _ (by intro e;cases e;exact hyk rfl)).trans (cell_later HB3.out hc))
         have HV2:Hid (w5.heap[hv0]?=some (.cells #[.slice (some ⟨g,0,none⟩) xn xc,.slice ya yn yc,.int .i64 m] 168 (0,0))):=Lib.hid (htg.heap (below_heap HB3.out HV.out (lt_of_heap HV.out)) (Ne.symm hne))
         have hwx:w3.setCell ⟨g,k,none⟩ (.int .i64 (x))=w5:=hw5.symm
         rw [hwx]
         clear c1 c1' c2 c2' v0 v2 v0d v2d HT HK HF HX HV HGA HGD hgood q3 qc qf HB3 HQG htg hkeep hw5 hwx
         go_wp2
         go_roundw
         case rel=>exact ⟨k+1,by omega,by go_num,HT2,HK2,HF2,HX2,HV2⟩
         case measure=>have:=HP.out;simp [intOf];omega
       · have hke:k=xn:=by omega
         subst hke
         have HF2:Hid (∀ i (hi:i<L.length),i<j+1→HFill .int F wr L[i].l L[i].m):=Lib.hid (fun i hi h=>by
           by_cases hij:i=j
           · subst hij
             intro x hx
             obtain ⟨e1,e2,_,_,_,_,e7⟩:=E.out
             rw [← e2] at hx
             rw [← e1,← e7]
             exact HX.out x hx
           · exact HF.out i hi (by omega))
         clear HF HX HV
         go_wp2
         go_roundw
         case rel=>exact ⟨j+1,by omega,by go_num,HT,HK,HF2⟩
         case measure=>have:=HM.out;simp [intOf];omega
   · have hjl:j=L.length:=by omega
     subst hjl
     go_wp2
     go_end0
     exact ⟨rfl,HT.out,HK.out,fun i hi=>HF.out i hi hi⟩
set_option maxHeartbeats 4000000 in
theorem growInt_any (w:World) (B bk:Nat) (C:Array Value) (bo:Option Addr) (bc:Nat) (L:List Hl) (hb:w.heap[bk]?=some (.cells C 56 (0,0))) (hC:C[2]?=some (.slice bo L.length bc)) (h:Part .int w B (.slice bo L.length bc) L) (F:Nat) (hF:F≤w.heap.size) (hlow:∀ k,LS L k→k<F) (hrow:∀ k,bo=some ⟨k,0,none⟩→k<F) (hf:∀ i (hi:i<L.length),HFill .int F w L[i].l L[i].m) (hsm:∀ i (hi:i<L.length),L[i].l.n≤100000000) :
   Calls Tryz.prog 106 #[.pointer (some ⟨bk,0,none⟩)] w fun e w' => e=.returned (.tuple #[])∧Touch (GS L bo) w w'∧∃ L',L'.length=L.length∧(∀ i (hi:i<L'.length) (hi':i<L.length),L'[i].l=L[i].l∧L'[i].m=L[i].m)∧Part .int w' B (.slice bo L.length bc) L'∧Grown .int F w w' L' L.length:=by
 have hfew:=h.few
 have hrw:∀ k,bo=some ⟨k,0,none⟩→B≤k∧∃ cur,w.heap[k]?=some (.cells cur 168):=fun k hk=>by subst hk;exact ⟨(h.row.lt k rfl).1,owns_block h.row rfl⟩
 have HC:Hid (∀ (W:World),Touch (GS L bo) w W→W.cell? ⟨bk,2,none⟩=some (.slice bo L.length bc)):=Lib.hid (fun W ht=>by
   rw [cell_of_block (ht.heap hb (fun e=>by
     rcases e with e | e
     · obtain ⟨cur,hc,_⟩:=h.ls e
       exact ty_ne hc hb (by decide) rfl
     · obtain ⟨_,cur,hc⟩:=hrw bk e
       exact ty_ne hc hb (by decide) rfl))]
   exact hC)
 have HGB:Hid (∀ k,GS L bo k→B≤k):=Lib.hid (fun k hk=>by
   rcases hk with hk | hk
   · obtain ⟨_,_,e⟩:=h.ls hk;exact e
   · exact (hrw k hk).1)
 have HG0:Hid (Grown .int F w w L 0):=Lib.hid ⟨fun i hi k hk=>by
   obtain ⟨cur,hc,_⟩:=(h.ok i hi).block hk
   exact ⟨lt_of_heap hc,hlow k ⟨i,hi,hk⟩⟩,hf,fun i hi hij=>by omega,Nat.le_refl _⟩
 have HGR:Hid (∀ gr,bo=some ⟨gr,0,none⟩→gr<w.heap.size∧gr<F):=Lib.hid (fun gr e=>by
   obtain ⟨_,cur,hc⟩:=hrw gr e
   exact ⟨lt_of_heap hc,hrow gr e⟩)
 have HH:=Lib.hid h
 have HSM:=Lib.hid hsm
 have HLO:=Lib.hid hlow
 have HFF:=Lib.hid hF
 clear h hf hsm hlow hrow hrw hb hC hF
 go_enter Tryz.func106,Tryz.ntmps106
 go_wp2
 obtain ⟨M,hM⟩:∃ M,M=L.length:=⟨_,rfl⟩
 have HM:=Lib.hid hM
 rw [← hM] at hfew
 clear hM
 go_loopw [2] (fun i wr => ∃ j:Nat,j≤M∧i=.int .i64 j∧Hid (Touch (GS L bo) w wr)∧Hid (∃ L',L'.length=M∧(∀ i (hi:i<L'.length) (hi':i<L.length),L'[i].l=L[i].l∧L'[i].m=L[i].m)∧Part .int wr B (.slice bo M bc) L'∧Grown .int F w wr L' j)) (fun i _=>M - (intOf i).toNat)
 case atStart=>exact ⟨0,Nat.zero_le _,rfl,Lib.hid (Touch.refl _ _),Lib.hid ⟨L,HM.out.symm,fun i _ _=>⟨rfl,rfl⟩,by rw [HM.out];exact HH.out,HG0.out⟩⟩
 case round =>
   obtain ⟨j,hj,rfl,HT,HX⟩:=hrel
   obtain ⟨L',hl',hsame,hk,hgn⟩:=HX.out
   have f1:wr.cell? ⟨bk,2,none⟩=some (.slice bo M bc):=by rw [HM.out];exact HC.out wr HT.out
   by_cases hlt:j<M
   · have hjH:j<L'.length:=by omega
     have hjL:j<L.length:=by have:=HM.out;omega
     obtain ⟨gr,c,cur,hbs,hnc,hcm,hgr,hgB,hra⟩:=hk.row_at (by omega)
     rw [hl'] at hbs hnc
     obtain ⟨rfl,rfl⟩:bo=some ⟨gr,0,none⟩∧bc=c:=by simpa using hbs
     have hgrW:=Lib.hid (HGR.out gr rfl)
     obtain ⟨xa,xn,xc,ya,yn,yc,m,E⟩:∃ xa xn xc ya yn yc m,Hid (xa=L'[j].l.a∧xn=L'[j].l.n∧xc=L'[j].l.c∧ya=L'[j].g.a∧yn=L'[j].g.n∧yc=L'[j].g.c∧m=L'[j].m):=⟨_,_,_,_,_,_,_,Lib.hid ⟨rfl,rfl,rfl,rfl,rfl,rfl,rfl⟩⟩
     have RA:Hid (wr.rangeAt gr (j*3) [.slice xa xn xc,.slice ya yn yc,.int .i64 m]):=Lib.hid (by obtain ⟨e1,e2,e3,e4,e5,e6,e7⟩:=E.out;rw [e1,e2,e3,e4,e5,e6,e7];exact hra j hjH)
     have hm62:m<4611686018427387904:=by rw [E.out.2.2.2.2.2.2];exact hk.num j hjH
     have hxs:xn≤100000000:=by rw [E.out.2.1,(hsame j hjH hjL).1];exact HSM.out j hjL
     clear hbs hra hnc
     go_wp2_with (first
       | (refine wpList_load_mid rfl 168 (.tmp 20) rfl gr (j*3) rfl [.slice xa xn xc,.slice ya yn yc,.int .i64 m] _ RA.out Tryz.underlying168 rfl (infoH3 .int) ?_)
       | fail)
     have hv:=heap_new wr (.cells #[.slice xa xn xc,.slice ya yn yc,.int .i64 m] 168 (0,0))
     have hbv:Below wr.heap.size wr (wr.alloc (.cells #[.slice xa xn xc,.slice ya yn yc,.int .i64 m] 168)):=(Below.refl _ _).alloc (Nat.le_refl _) _
     generalize wr.alloc (.cells #[.slice xa xn xc,.slice ya yn yc,.int .i64 m] 168)=w1 at hv hbv ⊢
     have HT1:=Lib.hid (HT.out.trans (Touch.of_below hbv))
     have HFw1:Hid (F≤w1.heap.size):=Lib.hid (Nat.le_trans HFF.out HT1.out.size)
     have HK1:=Lib.hid (hk.below hbv)
     have HG1:=Lib.hid (grown_below hgn hbv)
     have HV1:=Lib.hid hv
     have HL:=Lib.hid hl'
     have HSA:=Lib.hid hsame
     obtain ⟨hv0,hhv⟩:∃ hv0,hv0=wr.heap.size:=⟨_,rfl⟩
     rw [← hhv] at HV1 ⊢
     have hl0:Hid (∀ k,xa=some ⟨k,0,none⟩→k≠hv0):=Lib.hid (fun k hk2=>by
       rw [E.out.1] at hk2
       obtain ⟨cur2,hg',_⟩:=(HK1.out.ok j hjH).block hk2
       exact ty_ne hg' HV1.out (by decide))
     clear hv hbv HT HX hk hgn hsame f1 hhv hgr
     have hst:GrowSt .int F w1 w1 B L'[j].l L'[j].m 0 L'[j].l.a L'[j].l.c:=GrowSt.start (HK1.out.ok j hjH) (HG1.out.lists j hjH) (fun k hk2=>(HG1.out.low j hjH k hk2).2)
     have HST:=Lib.hid hst
     clear hst
     obtain ⟨P,hP⟩:∃ P,P=40:=⟨_,rfl⟩
     have HP:=Lib.hid hP
     clear hP
     go_wp2
     go_loopw [5,4] (fun i2 s2 wk => ∃ t:Nat,∃ a2 n2 c2,t≤40∧i2=.int .i64 t∧s2=.slice a2 n2 c2∧Hid (n2=xn+t)∧Hid (GrowSt .int F w1 wk B L'[j].l L'[j].m t a2 c2)) (fun i2 _ _=>P - (intOf i2).toNat)
     case atStart=>exact ⟨0,xa,xn,xc,by omega,rfl,rfl,Lib.hid rfl,Lib.hid (by rw [E.out.1,E.out.2.2.1];exact HST.out)⟩
     case round =>
       obtain ⟨t,a2,n2,c2,ht,rfl,rfl,HN2,HS2⟩:=hrel
       have HV:Hid (wr.heap[hv0]?=some (.cells #[.slice xa xn xc,.slice ya yn yc,.int .i64 m] 168 (0,0))):=Lib.hid (HS2.out.2.1.heap HV1.out (fun e=>hl0.out hv0 (by rw [E.out.1];exact e) rfl))
       have v2:wr.cell? ⟨hv0,2,none⟩=some (.int .i64 m):=by rw [cell_of_block HV.out];rfl
       by_cases htl:t<40
       · have hn2:n2≤100000100:=by have:=HN2.out;omega
         have hFr:Hid (F≤wr.heap.size):=Lib.hid (Nat.le_trans HFw1.out HS2.out.2.1.size)
         go_wp2_with fail
         refine (markInt_any m wr hm62).mono ?_
         rintro e w4 ⟨x,rfl,hb4,hg4⟩
         have hs2:=HS2.out
         obtain ⟨_,_,_,_,cur2,s2,_,_⟩:=hs2
         have hnn:L'[j].l.n+t=n2:=by rw [HN2.out,E.out.2.1]
         rw [hnn] at s2
         have HNN:=Lib.hid hnn
         have hba:Below wr.heap.size wr (w4.alloc (.cells #[(.int .i64 (x))] 3)):=hb4.alloc hb4.size _
         have hba4:Below w4.heap.size w4 (w4.alloc (.cells #[(.int .i64 (x))] 3)):=(Below.refl _ _).alloc (Nat.le_refl _) _
         have HA1:Hid (SK 3 (w4.alloc (.cells #[(.int .i64 (x))] 3)) a2 n2 c2 cur2):=Lib.hid (SK.below s2 hba)
         have HA2:Hid ((w4.alloc (.cells #[(.int .i64 (x))] 3)).cell? ⟨w4.heap.size,0,none⟩=some (.int .i64 (x))):=Lib.hid (by rw [cell_of_block (heap_new _ _)];rfl)
         have HA3:=Lib.hid (HS2.out.below hba)
         have HA4:Hid (Good .int F (w4.alloc (.cells #[(.int .i64 (x))] 3)) m (.int .i64 (x))):=Lib.hid ((hg4 F hFr.out).below hba4)
         clear s2 hnn hba hba4 hb4 hg4 HV v2
         go_wp2_with (first
           | (at_builtin;refine wpList_append1 .int rfl (.tmp 28) (.tmp 32) rfl a2 n2 c2 cur2 rfl HA1.out ⟨w4.heap.size,0,none⟩ (.int .i64 (x)) rfl HA2.out rfl (by omega) ?_;intro a3 c3 cur3 w3 hs3 ht3 hd3)
           | fail)
         have hst3:GrowSt .int F w1 w3 B L'[j].l L'[j].m (t+1) a3 c3:=by
           have hs1:=HA1.out
           have hx:=HA3.out
           have hgd:=HA4.out
           rw [← HNN.out] at hs1 hs3 ht3 hd3
           rw [E.out.2.2.2.2.2.2] at hgd
           exact hx.step hgd cur2 hs1 hs3 ht3 hd3
         have HST3:=Lib.hid hst3
         clear hst3 hs3 ht3 hd3 HA1 HA2 HA3 HA4 HS2
         go_wp2
         go_roundw
         case rel=>exact ⟨t+1,a3,n2+1,c3,by omega,by go_num,rfl,Lib.hid (by rw [HN2.out];omega),HST3⟩
         case measure=>have:=HP.out;simp [intOf];omega
       · have hte:t=40:=by omega
         subst hte
         have hk4:Part .int wr B (.slice (some ⟨gr,0,none⟩) L'.length bc) L':=by
           have:=HK1.out.grown j hjH HS2.out
           rw [HL.out];exact this
         obtain ⟨N2,hN2⟩:∃ N2,N2=n2:=⟨_,rfl⟩
         have hn3:N2=L'[j].l.n+40:=by rw [hN2,HN2.out,E.out.2.1]
         obtain ⟨hk5,hBgr,cur5,hgr5,hc5⟩:=hk4.setG j hjH ⟨a2,N2,c2⟩
         rw [hN2] at hk5 hn3
         have c1:∃ u,wr.cell? ⟨gr,j*3+1,none⟩=some u:=by rw [cell_of_block hgr5];exact ⟨_,Array.getElem?_eq_getElem hc5⟩
         obtain ⟨u,c1⟩:=c1
         have c2':wr.frozen? ⟨gr,j*3+1,none⟩=false:=blk_frozen hgr5
         have htw:Touch (GS L (some ⟨gr,0,none⟩)) w wr:=HT1.out.trans (HS2.out.2.1.weaken (fun k _ hk=>.inl ⟨j,hjL,by rw [← (HSA.out j hjH hjL).1];exact hk⟩))
         have f1:wr.cell? ⟨bk,2,none⟩=some (.slice (some ⟨gr,0,none⟩) M bc):=by rw [HM.out];exact HC.out wr htw
         have HK5:=Lib.hid hk5
         have HT5:Hid (Touch (GS L (some ⟨gr,0,none⟩)) w (wr.setCell ⟨gr,j*3+1,none⟩ (.slice a2 n2 c2))):=Lib.hid (htw.setCell _ _ (.inl (.inr rfl)))
         have HG5:Hid (Grown .int F w (wr.setCell ⟨gr,j*3+1,none⟩ (.slice a2 n2 c2)) (L'.set j { L'[j] with g:=⟨a2,n2,c2⟩ }) (j+1)):=Lib.hid (by
           have:=grown_step HG1.out (by have:=HK1.out;rw [← HL.out] at this;exact this) hgrW.out hjH HS2.out
           rw [hn3];exact this)
         have HL5:Hid ((L'.set j { L'[j] with g:=⟨a2,n2,c2⟩ }).length=M):=Lib.hid (by rw [List.length_set];exact HL.out)
         have HS5:Hid (∀ i (hi:i<(L'.set j { L'[j] with g:=⟨a2,n2,c2⟩ }).length) (hi':i<L.length),(L'.set j { L'[j] with g:=⟨a2,n2,c2⟩ })[i].l=L[i].l∧(L'.set j { L'[j] with g:=⟨a2,n2,c2⟩ })[i].m=L[i].m):=Lib.hid (fun i hi hi' => by
           have hi2:i<L'.length:=by simpa using hi
           rw [(setL L' j hjH _ i hi hi2).1,(setL L' j hjH _ i hi hi2).2.1]
           exact HSA.out i hi2 hi')
         rw [← hN2] at hn3
         clear hk4 hk5 hgr5 hc5 hn3 hN2 v2 HV htw
         have esl:Value.slice (some ⟨gr,0,none⟩) L'.length bc=.slice (some ⟨gr,0,none⟩) M bc:=by rw [HL.out]
         have hk6:=HK5.out
         rw [esl] at hk6
         have HK6:=Lib.hid hk6
         clear hk6 esl HK5
         go_wp2
         go_roundw
         case rel=>exact ⟨j+1,by omega,by go_num,HT5,Lib.hid ⟨_,HL5.out,HS5.out,HK6.out,HG5.out⟩⟩
         case measure=>have:=HM.out;simp [intOf];omega
   · have hje:j=M:=by omega
     subst hje
     go_wp2
     go_end0
     exact ⟨rfl,HT.out,L',by rw [hl',HM.out],hsame,by rw [← HM.out];exact hk,by rw [← HM.out];exact hgn⟩
set_option maxHeartbeats 4000000 in
theorem lookInt_any (w:World) (B bk:Nat) (C:Array Value) (bo:Option Addr) (bc:Nat) (L:List Hl) (hb:w.heap[bk]?=some (.cells C 56 (0,0))) (hC:C[2]?=some (.slice bo L.length bc)) (h:Part .int w B (.slice bo L.length bc) L) (F:Nat) (hf:∀ i (hi:i<L.length),HFill .int F w L[i].l L[i].m) (hg:∀ i (hi:i<L.length),HFill .int F w L[i].g L[i].m∧L[i].g.n=L[i].l.n+40) (hsm:∀ i (hi:i<L.length),L[i].l.n≤100000000) :
   Calls Tryz.prog 115 #[.pointer (some ⟨bk,0,none⟩)] w fun e w' => e=.returned (.bool true)∧Below w.heap.size w w':=by
 have hfew:=h.few
 have HC:Hid (∀ (W:World),Below w.heap.size w W→W.cell? ⟨bk,2,none⟩=some (.slice bo L.length bc)):=Lib.hid (fun W ht=>by
   rw [cell_of_block (below_heap ht hb (lt_of_heap hb))]
   exact hC)
 have HH:=Lib.hid h
 have HF:=Lib.hid hf
 have HG:=Lib.hid hg
 have HSM:=Lib.hid hsm
 clear h hf hg hsm hb hC
 go_enter Tryz.func115,Tryz.ntmps115
 go_wp2
 obtain ⟨M,hM⟩:∃ M,M=L.length:=⟨_,rfl⟩
 have HM:=Lib.hid hM
 rw [← hM] at hfew
 clear hM
 go_loopw [3] (fun i wr => ∃ j:Nat,j≤M∧i=.int .i64 j∧Hid (Below w.heap.size w wr)) (fun i _=>M - (intOf i).toNat)
 case atStart=>exact ⟨0,Nat.zero_le _,rfl,Lib.hid (Below.refl _ _)⟩
 case round =>
   obtain ⟨j,hj,rfl,HB⟩:=hrel
   have HKR:Hid (Part .int wr B (.slice bo L.length bc) L):=Lib.hid (HH.out.below HB.out)
   have f1:wr.cell? ⟨bk,2,none⟩=some (.slice bo M bc):=by rw [HM.out];exact HC.out wr HB.out
   by_cases hlt:j<M
   · have hjH:j<L.length:=by have:=HM.out;omega
     obtain ⟨gr,c,cur,hbs,hnc,hcm,hgr,_,hra⟩:=HKR.out.row_at (by omega)
     rw [← HM.out] at hnc
     obtain ⟨rfl,rfl⟩:bo=some ⟨gr,0,none⟩∧bc=c:=by simpa using hbs
     obtain ⟨xa,xn,xc,ya,yn,yc,m,E⟩:∃ xa xn xc ya yn yc m,Hid (xa=L[j].l.a∧xn=L[j].l.n∧xc=L[j].l.c∧ya=L[j].g.a∧yn=L[j].g.n∧yc=L[j].g.c∧m=L[j].m):=⟨_,_,_,_,_,_,_,Lib.hid ⟨rfl,rfl,rfl,rfl,rfl,rfl,rfl⟩⟩
     have RA:Hid (wr.rangeAt gr (j*3) [.slice xa xn xc,.slice ya yn yc,.int .i64 m]):=Lib.hid (by obtain ⟨e1,e2,e3,e4,e5,e6,e7⟩:=E.out;rw [e1,e2,e3,e4,e5,e6,e7];exact hra j hjH)
     have hm62:m<4611686018427387904:=by rw [E.out.2.2.2.2.2.2];exact HKR.out.num j hjH
     have hxs:xn≤100000000:=by rw [E.out.2.1];exact HSM.out j hjH
     have hyx:yn=xn+40:=by rw [E.out.2.1,E.out.2.2.2.2.1];exact (HG.out j hjH).2
     have HL:Hid (∀ k,k<xn→∃ g v,xa=some ⟨g,0,none⟩∧w.cell? ⟨g,k,none⟩=some v∧Good .int F w m v):=Lib.hid (by
       obtain ⟨e1,e2,_,_,_,_,e7⟩:=E.out
       rw [e1,e2,e7];exact HF.out j hjH)
     have HY:Hid (∀ k,k<yn→∃ g v,ya=some ⟨g,0,none⟩∧w.cell? ⟨g,k,none⟩=some v∧Good .int F w m v):=Lib.hid (by
       obtain ⟨_,_,_,e4,e5,_,e7⟩:=E.out
       rw [e4,e5,e7];exact (HG.out j hjH).1)
     clear hbs hra hnc
     subst hyx
     go_wp2_with (first
       | (refine wpList_load_mid rfl 168 (.tmp 20) rfl gr (j*3) rfl [.slice xa xn xc,.slice ya (xn+40) yc,.int .i64 m] _ RA.out Tryz.underlying168 rfl (infoH3 .int) ?_)
       | fail)
     have hv:=heap_new wr (.cells #[.slice xa xn xc,.slice ya (xn+40) yc,.int .i64 m] 168 (0,0))
     have hbv:Below wr.heap.size wr (wr.alloc (.cells #[.slice xa xn xc,.slice ya (xn+40) yc,.int .i64 m] 168)):=(Below.refl _ _).alloc (Nat.le_refl _) _
     have HB1:Hid (Below w.heap.size w (wr.alloc (.cells #[.slice xa xn xc,.slice ya (xn+40) yc,.int .i64 m] 168))):=Lib.hid (HB.out.trans (hbv.mono HB.out.size))
     have HV1:=Lib.hid hv
     obtain ⟨hv0,hhv⟩:∃ hv0,hv0=wr.heap.size:=⟨_,rfl⟩
     rw [← hhv] at HV1 ⊢
     generalize wr.alloc (.cells #[.slice xa xn xc,.slice ya (xn+40) yc,.int .i64 m] 168)=w1 at HB1 HV1 ⊢
     clear hv hbv HB HKR f1 hhv hgr RA
     obtain ⟨P,hP⟩:∃ P,P=xn+40:=⟨_,rfl⟩
     have HP:=Lib.hid hP
     clear hP
     go_loopw [5] (fun i2 wk => ∃ k q:Nat,k≤xn+40∧i2=.int .i64 k∧wk=w1.drewN q) (fun i2 _=>P - (intOf i2).toNat)
     case atStart=>exact ⟨0,0,Nat.zero_le _,rfl,rfl⟩
     case round =>
       obtain ⟨k,q,hk,rfl,hwr⟩:=hrel
       have HW:=Lib.hid hwr
       have HBR:Hid (Below w.heap.size w wr):=Lib.hid (by rw [hwr];exact below_drewN HB1.out _)
       have v0:wr.cell? ⟨hv0,0,none⟩=some (.slice xa xn xc):=by rw [hwr,World.cell?_drewN,cell_of_block HV1.out];rfl
       have v1:wr.cell? ⟨hv0,1,none⟩=some (.slice ya ((xn+40:Nat)) yc):=by rw [hwr,World.cell?_drewN,cell_of_block HV1.out];rfl
       have v2:wr.cell? ⟨hv0,2,none⟩=some (.int .i64 m):=by rw [hwr,World.cell?_drewN,cell_of_block HV1.out];rfl
       by_cases hkl:k<xn+40
       · obtain ⟨gy,vy,rfl,hcy,hgy⟩:=HY.out k hkl
         have hgy':=hgy.below' HBR.out
         obtain ⟨y,rfl⟩:=goodInt_shape hgy'
         have c1:wr.cell? ⟨gy,k,none⟩=some (.int .i64 (y)):=cell_later HBR.out hcy
         have HGY:=Lib.hid hgy'
         by_cases hkx:k<xn
         · obtain ⟨gx,vx,rfl,hcx,hgx⟩:=HL.out k hkx
           have hgx':=hgx.below' HBR.out
           obtain ⟨z,rfl⟩:=goodInt_shape hgx'
           have HGX:=Lib.hid hgx'
           have c0:wr.cell? ⟨gx,k,none⟩=some (.int .i64 (z)):=cell_later HBR.out hcx
           clear hcx hcy hwr hgy hgx hgy' hgx'
           go_wp2_with fail
           go_quiet ((go_at_call 177;exact Calls.quiet_of (isInt_any m F _ _ hm62 (by first | with_reducible exact HGY.out.quiet _ | with_reducible exact HGX.out.quiet _))))
           go_wp2_with fail
           go_roundw
           case rel=>exact ⟨k+1,q+nq,by omega,by go_num,by rw [HW.out];simp⟩
           case measure=>have:=HP.out;simp [intOf];omega
         · clear hcy hwr hgy hgy'
           go_wp2_with fail
           go_quiet ((go_at_call 177;exact Calls.quiet_of (isInt_any m F y _ hm62 (HGY.out.quiet _))))
           go_wp2_with fail
           go_roundw
           case rel=>exact ⟨k+1,q+nq,by omega,by go_num,by rw [HW.out];simp⟩
           case measure=>have:=HP.out;simp [intOf];omega
       · have hke:k=xn+40:=by omega
         subst hke
         clear hwr
         go_wp2
         go_roundw
         case rel=>exact ⟨j+1,by omega,by go_num,HBR⟩
         case measure=>have:=HM.out;simp [intOf];omega
   · have hje:j=M:=by omega
     subst hje
     go_wp2
     go_ret
     exact ⟨rfl,HB.out⟩
theorem bookC_at (N:Nat) (bs:Kd→Value) (κ:Kd):(bookC N bs)[κ.ix]?=some (bs κ):=by cases κ <;> rfl
theorem fillByte_fs {F:Nat} {w0 w:World} {B bk N:Nat} {bs:Kd→Value} {H:Kd→List Hl} {done:Kd→Prop} (h:Fs F w0 w B bk N bs H done) :
   Calls Tryz.prog 96 #[.pointer (some ⟨bk,0,none⟩)] w fun e w' => e=.returned (.tuple #[])∧Fs F w0 w' B bk N bs H (fun k=>k=.byte∨done k):=by
 obtain ⟨bo,bc,hbs⟩:=owns_shape (h.book.part .byte).row
 have hp:=h.book.part .byte
 rw [hbs] at hp
 have hC:=bookC_at N bs .byte
 rw [hbs] at hC
 refine (fillByte_any w B bk (bookC N bs) bo bc (H .byte) h.book.book hC hp F h.size (h.low .byte)).mono ?_
 rintro e w' ⟨he,ht,hp',hf⟩
 exact ⟨he,h.fills .byte ht (by rw [hbs];exact hp') hf⟩
theorem growByte_fs {F:Nat} {w0 w:World} {B bk N:Nat} {bs:Kd→Value} {H:Kd→List Hl} {done:Kd→Prop} (h:GSt F w0 w B bk N bs H done) :
   Calls Tryz.prog 105 #[.pointer (some ⟨bk,0,none⟩)] w fun e w' => e=.returned (.tuple #[])∧∃ H',GSt F w0 w' B bk N bs H' (fun k=>k=.byte∨done k):=by
 obtain ⟨bo,bc,hbs⟩:=owns_shape (h.book.part .byte).row
 have hp:=h.book.part .byte
 rw [hbs] at hp
 have hC:=bookC_at N bs .byte
 rw [hbs] at hC
 refine (growByte_any w B bk (bookC N bs) bo bc (H .byte) h.book.book hC hp F h.size (h.low .byte) (fun k hk=>h.row .byte k (by rw [hbs,hk];rfl)) (h.fill .byte) (h.small .byte)).mono ?_
 rintro e w' ⟨he,ht,L,hl,hs,hp',hg⟩
 exact ⟨he,_,h.grows .byte hbs ht hl hs hp' hg⟩
theorem lookByte_fs {F:Nat} {w0 w:World} {B bk N:Nat} {bs:Kd→Value} {H:Kd→List Hl} {done:Kd→Prop} (h:GSt F w0 w B bk N bs H done) (hd:done .byte) :
   Calls Tryz.prog 114 #[.pointer (some ⟨bk,0,none⟩)] w fun e w' => e=.returned (.bool true)∧GSt F w0 w' B bk N bs H done:=by
 obtain ⟨bo,bc,hbs⟩:=owns_shape (h.book.part .byte).row
 have hp:=h.book.part .byte
 rw [hbs] at hp
 have hC:=bookC_at N bs .byte
 rw [hbs] at hC
 refine (lookByte_any w B bk (bookC N bs) bo bc (H .byte) h.book.book hC hp F (h.fill .byte) (fun i hi=>⟨(h.long .byte hd i hi).1,(h.long .byte hd i hi).2.1⟩) (h.small .byte)).mono ?_
 rintro e w' ⟨he,hb⟩
 exact ⟨he,h.after hb⟩
theorem fillInt_fs {F:Nat} {w0 w:World} {B bk N:Nat} {bs:Kd→Value} {H:Kd→List Hl} {done:Kd→Prop} (h:Fs F w0 w B bk N bs H done) :
   Calls Tryz.prog 97 #[.pointer (some ⟨bk,0,none⟩)] w fun e w' => e=.returned (.tuple #[])∧Fs F w0 w' B bk N bs H (fun k=>k=.int∨done k):=by
 obtain ⟨bo,bc,hbs⟩:=owns_shape (h.book.part .int).row
 have hp:=h.book.part .int
 rw [hbs] at hp
 have hC:=bookC_at N bs .int
 rw [hbs] at hC
 refine (fillInt_any w B bk (bookC N bs) bo bc (H .int) h.book.book hC hp F h.size (h.low .int)).mono ?_
 rintro e w' ⟨he,ht,hp',hf⟩
 exact ⟨he,h.fills .int ht (by rw [hbs];exact hp') hf⟩
theorem growInt_fs {F:Nat} {w0 w:World} {B bk N:Nat} {bs:Kd→Value} {H:Kd→List Hl} {done:Kd→Prop} (h:GSt F w0 w B bk N bs H done) :
   Calls Tryz.prog 106 #[.pointer (some ⟨bk,0,none⟩)] w fun e w' => e=.returned (.tuple #[])∧∃ H',GSt F w0 w' B bk N bs H' (fun k=>k=.int∨done k):=by
 obtain ⟨bo,bc,hbs⟩:=owns_shape (h.book.part .int).row
 have hp:=h.book.part .int
 rw [hbs] at hp
 have hC:=bookC_at N bs .int
 rw [hbs] at hC
 refine (growInt_any w B bk (bookC N bs) bo bc (H .int) h.book.book hC hp F h.size (h.low .int) (fun k hk=>h.row .int k (by rw [hbs,hk];rfl)) (h.fill .int) (h.small .int)).mono ?_
 rintro e w' ⟨he,ht,L,hl,hs,hp',hg⟩
 exact ⟨he,_,h.grows .int hbs ht hl hs hp' hg⟩
theorem lookInt_fs {F:Nat} {w0 w:World} {B bk N:Nat} {bs:Kd→Value} {H:Kd→List Hl} {done:Kd→Prop} (h:GSt F w0 w B bk N bs H done) (hd:done .int) :
   Calls Tryz.prog 115 #[.pointer (some ⟨bk,0,none⟩)] w fun e w' => e=.returned (.bool true)∧GSt F w0 w' B bk N bs H done:=by
 obtain ⟨bo,bc,hbs⟩:=owns_shape (h.book.part .int).row
 have hp:=h.book.part .int
 rw [hbs] at hp
 have hC:=bookC_at N bs .int
 rw [hbs] at hC
 refine (lookInt_any w B bk (bookC N bs) bo bc (H .int) h.book.book hC hp F (h.fill .int) (fun i hi=>⟨(h.long .int hd i hi).1,(h.long .int hd i hi).2.1⟩) (h.small .int)).mono ?_
 rintro e w' ⟨he,hb⟩
 exact ⟨he,h.after hb⟩
theorem fillIntList_fs {F:Nat} {w0 w:World} {B bk N:Nat} {bs:Kd→Value} {H:Kd→List Hl} {done:Kd→Prop} (h:Fs F w0 w B bk N bs H done) :
   Calls Tryz.prog 99 #[.pointer (some ⟨bk,0,none⟩)] w fun e w' => e=.returned (.tuple #[])∧Fs F w0 w' B bk N bs H (fun k=>k=.il∨done k):=by
 obtain ⟨bo,bc,hbs⟩:=owns_shape (h.book.part .il).row
 have hp:=h.book.part .il
 rw [hbs] at hp
 have hC:=bookC_at N bs .il
 rw [hbs] at hC
 refine (fillIntList_any w B bk (bookC N bs) bo bc (H .il) h.book.book hC hp F h.size (h.low .il)).mono ?_
 rintro e w' ⟨he,ht,hp',hf⟩
 exact ⟨he,h.fills .il ht (by rw [hbs];exact hp') hf⟩
theorem growIntList_fs {F:Nat} {w0 w:World} {B bk N:Nat} {bs:Kd→Value} {H:Kd→List Hl} {done:Kd→Prop} (h:GSt F w0 w B bk N bs H done) :
   Calls Tryz.prog 108 #[.pointer (some ⟨bk,0,none⟩)] w fun e w' => e=.returned (.tuple #[])∧∃ H',GSt F w0 w' B bk N bs H' (fun k=>k=.il∨done k):=by
 obtain ⟨bo,bc,hbs⟩:=owns_shape (h.book.part .il).row
 have hp:=h.book.part .il
 rw [hbs] at hp
 have hC:=bookC_at N bs .il
 rw [hbs] at hC
 refine (growIntList_any w B bk (bookC N bs) bo bc (H .il) h.book.book hC hp F h.size (h.low .il) (fun k hk=>h.row .il k (by rw [hbs,hk];rfl)) (h.fill .il) (h.small .il)).mono ?_
 rintro e w' ⟨he,ht,L,hl,hs,hp',hg⟩
 exact ⟨he,_,h.grows .il hbs ht hl hs hp' hg⟩
theorem lookIntList_fs {F:Nat} {w0 w:World} {B bk N:Nat} {bs:Kd→Value} {H:Kd→List Hl} {done:Kd→Prop} (h:GSt F w0 w B bk N bs H done) (hd:done .il) :
   Calls Tryz.prog 117 #[.pointer (some ⟨bk,0,none⟩)] w fun e w' => e=.returned (.bool true)∧GSt F w0 w' B bk N bs H done:=by
 obtain ⟨bo,bc,hbs⟩:=owns_shape (h.book.part .il).row
 have hp:=h.book.part .il
 rw [hbs] at hp
 have hC:=bookC_at N bs .il
 rw [hbs] at hC
 refine (lookIntList_any w B bk (bookC N bs) bo bc (H .il) h.book.book hC hp F (h.fill .il) (fun i hi=>⟨(h.long .il hd i hi).1,(h.long .il hd i hi).2.1⟩) (h.small .il)).mono ?_
 rintro e w' ⟨he,hb⟩
 exact ⟨he,h.after hb⟩
theorem fillByteList_fs {F:Nat} {w0 w:World} {B bk N:Nat} {bs:Kd→Value} {H:Kd→List Hl} {done:Kd→Prop} (h:Fs F w0 w B bk N bs H done) :
   Calls Tryz.prog 100 #[.pointer (some ⟨bk,0,none⟩)] w fun e w' => e=.returned (.tuple #[])∧Fs F w0 w' B bk N bs H (fun k=>k=.bl∨done k):=by
 obtain ⟨bo,bc,hbs⟩:=owns_shape (h.book.part .bl).row
 have hp:=h.book.part .bl
 rw [hbs] at hp
 have hC:=bookC_at N bs .bl
 rw [hbs] at hC
 refine (fillByteList_any w B bk (bookC N bs) bo bc (H .bl) h.book.book hC hp F h.size (h.low .bl)).mono ?_
 rintro e w' ⟨he,ht,hp',hf⟩
 exact ⟨he,h.fills .bl ht (by rw [hbs];exact hp') hf⟩
theorem growByteList_fs {F:Nat} {w0 w:World} {B bk N:Nat} {bs:Kd→Value} {H:Kd→List Hl} {done:Kd→Prop} (h:GSt F w0 w B bk N bs H done) :
   Calls Tryz.prog 109 #[.pointer (some ⟨bk,0,none⟩)] w fun e w' => e=.returned (.tuple #[])∧∃ H',GSt F w0 w' B bk N bs H' (fun k=>k=.bl∨done k):=by
 obtain ⟨bo,bc,hbs⟩:=owns_shape (h.book.part .bl).row
 have hp:=h.book.part .bl
 rw [hbs] at hp
 have hC:=bookC_at N bs .bl
 rw [hbs] at hC
 refine (growByteList_any w B bk (bookC N bs) bo bc (H .bl) h.book.book hC hp F h.size (h.low .bl) (fun k hk=>h.row .bl k (by rw [hbs,hk];rfl)) (h.fill .bl) (h.small .bl)).mono ?_
 rintro e w' ⟨he,ht,L,hl,hs,hp',hg⟩
 exact ⟨he,_,h.grows .bl hbs ht hl hs hp' hg⟩
theorem lookByteList_fs {F:Nat} {w0 w:World} {B bk N:Nat} {bs:Kd→Value} {H:Kd→List Hl} {done:Kd→Prop} (h:GSt F w0 w B bk N bs H done) (hd:done .bl) :
   Calls Tryz.prog 118 #[.pointer (some ⟨bk,0,none⟩)] w fun e w' => e=.returned (.bool true)∧GSt F w0 w' B bk N bs H done:=by
 obtain ⟨bo,bc,hbs⟩:=owns_shape (h.book.part .bl).row
 have hp:=h.book.part .bl
 rw [hbs] at hp
 have hC:=bookC_at N bs .bl
 rw [hbs] at hC
 refine (lookByteList_any w B bk (bookC N bs) bo bc (H .bl) h.book.book hC hp F (h.fill .bl) (fun i hi=>⟨(h.long .bl hd i hi).1,(h.long .bl hd i hi).2.1⟩) (h.small .bl)).mono ?_
 rintro e w' ⟨he,hb⟩
 exact ⟨he,h.after hb⟩
set_option maxHeartbeats 8000000 in
theorem apart_any (w:World) (B bk N:Nat) (bs:Kd→Value) (H:Kd→List Hl) (h:Bk w B bk N bs H) (hsm:∀ κ i (hi:i<(H κ).length),(H κ)[i].l.n≤100000000) :
   Calls Tryz.prog 46 #[.pointer (some ⟨bk,0,none⟩)] w fun e w' => e=.returned (.bool true)∧Below B w w':=by
 have S0:=Lib.hid (Fs.start h)
 have HS:=Lib.hid hsm
 obtain ⟨F,hF⟩:∃ F,F=w.heap.size:=⟨_,rfl⟩
 rw [← hF] at S0
 clear h hsm hF
 go_enter Tryz.func46,Tryz.ntmps46
 go_wp2_with fail
 refine (fillByte_fs S0.out).mono ?_;rintro e w1 ⟨rfl,hs⟩;have S1:=Lib.hid hs;clear hs
 go_wp2_with fail
 refine (fillInt_fs S1.out).mono ?_;rintro e w2 ⟨rfl,hs⟩;have S2:=Lib.hid hs;clear hs
 go_wp2_with fail
 refine (fillText_nil w2 bk N bs S2.out.book.book).mono ?_;rintro e w' ⟨rfl,rfl⟩
 go_wp2_with fail
 refine (fillIntList_fs S2.out).mono ?_;rintro e w3 ⟨rfl,hs⟩;have S3:=Lib.hid hs;clear hs
 go_wp2_with fail
 refine (fillByteList_fs S3.out).mono ?_;rintro e w4 ⟨rfl,hs⟩;have S4:=Lib.hid hs;clear hs
 go_wp2_with fail
 refine (fillWhy_nil w4 bk N bs S4.out.book.book).mono ?_;rintro e w' ⟨rfl,rfl⟩
 go_wp2_with fail
 refine (fillFrame_nil w4 bk N bs S4.out.book.book).mono ?_;rintro e w' ⟨rfl,rfl⟩
 go_wp2_with fail
 refine (fillReply_nil w4 bk N bs S4.out.book.book).mono ?_;rintro e w' ⟨rfl,rfl⟩
 go_wp2_with fail
 refine (fillRecord_nil w4 bk N bs S4.out.book.book).mono ?_;rintro e w' ⟨rfl,rfl⟩
 have G4:=Lib.hid (GSt.start S4.out (fun κ=>by cases κ <;> simp) HS.out)
 clear S0 S1 S2 S3 S4 HS
 go_wp2_with fail
 refine (growByte_fs G4.out).mono ?_;rintro e w5 ⟨rfl,H5,hs⟩;have G5:=Lib.hid hs;clear hs G4
 go_wp2_with fail
 refine (growInt_fs G5.out).mono ?_;rintro e w6 ⟨rfl,H6,hs⟩;have G6:=Lib.hid hs;clear hs G5
 go_wp2_with fail
 refine (growText_nil w6 bk N bs G6.out.book.book).mono ?_;rintro e w' ⟨rfl,rfl⟩
 go_wp2_with fail
 refine (growIntList_fs G6.out).mono ?_;rintro e w7 ⟨rfl,H7,hs⟩;have G7:=Lib.hid hs;clear hs G6
 go_wp2_with fail
 refine (growByteList_fs G7.out).mono ?_;rintro e w8 ⟨rfl,H8,hs⟩;have G8:=Lib.hid hs;clear hs G7
 go_wp2_with fail
 refine (growWhy_nil w8 bk N bs G8.out.book.book).mono ?_;rintro e w' ⟨rfl,rfl⟩
 go_wp2_with fail
 refine (growFrame_nil w8 bk N bs G8.out.book.book).mono ?_;rintro e w' ⟨rfl,rfl⟩
 go_wp2_with fail
 refine (growReply_nil w8 bk N bs G8.out.book.book).mono ?_;rintro e w' ⟨rfl,rfl⟩
 go_wp2_with fail
 refine (growRecord_nil w8 bk N bs G8.out.book.book).mono ?_;rintro e w' ⟨rfl,rfl⟩
 go_wp2_with fail
 refine (lookByte_fs G8.out (by simp)).mono ?_;rintro e w9 ⟨rfl,hs⟩;have G9:=Lib.hid hs;clear hs G8
 go_wp2_with fail
 refine (lookInt_fs G9.out (by simp)).mono ?_;rintro e w10 ⟨rfl,hs⟩;have G10:=Lib.hid hs;clear hs G9
 go_wp2_with fail
 refine (lookText_nil w10 bk N bs G10.out.book.book).mono ?_;rintro e w' ⟨rfl,rfl⟩
 go_wp2_with fail
 refine (lookIntList_fs G10.out (by simp)).mono ?_;rintro e w11 ⟨rfl,hs⟩;have G11:=Lib.hid hs;clear hs G10
 go_wp2_with fail
 refine (lookByteList_fs G11.out (by simp)).mono ?_;rintro e w12 ⟨rfl,hs⟩;have G12:=Lib.hid hs;clear hs G11
 go_wp2_with fail
 refine (lookWhy_nil w12 bk N bs G12.out.book.book).mono ?_;rintro e w' ⟨rfl,rfl⟩
 go_wp2_with fail
 refine (lookFrame_nil w12 bk N bs G12.out.book.book).mono ?_;rintro e w' ⟨rfl,rfl⟩
 go_wp2_with fail
 refine (lookReply_nil w12 bk N bs G12.out.book.book).mono ?_;rintro e w' ⟨rfl,rfl⟩
 go_wp2_with fail
 refine (lookRecord_nil w12 bk N bs G12.out.book.book).mono ?_;rintro e w' ⟨rfl,rfl⟩
 go_wp2
 go_ret
 exact ⟨rfl,G12.out.below⟩
set_option maxHeartbeats 4000000 in
theorem keepByte_any (w:World) (B bk N:Nat) (bs:Kd→Value) (H:Kd→List Hl) (h:Bk w B bk N bs H) (x:Hd) (hx:HOk .byte w B x) (hap:∀ i (hi:i<(H .byte).length),∀ g,(H .byte)[i].l.a=some ⟨g,0,none⟩→x.a≠some ⟨g,0,none⟩) (hN:N<1000000) (hH:(H .byte).length<1000000) :
   Calls Tryz.prog 144 #[.pointer (some ⟨bk,0,none⟩),x.val] w fun e w' => e=.returned (.tuple #[])∧Touch (BkS w B) w w'∧∃ bs',Bk w' B bk (N+1) bs' (updK H .byte (H .byte ++ [⟨x,⟨none,0,0⟩,N+1⟩])):=by
 obtain ⟨bo,bc,hbs⟩:=owns_shape (h.part .byte).row
 have hP:=h.part .byte
 rw [hbs] at hP
 have hb0:=h.cell .byte
 rw [hbs] at hb0
 have HBS:=Lib.hid hbs
 obtain ⟨L,hL⟩:∃ L,L=H .byte:=⟨_,rfl⟩
 have HL:=Lib.hid hL
 rw [← hL] at hP hb0 hH
 clear hL hbs
 unfold Hd.val
 have f0:w.cell? ⟨bk,0,none⟩=some (.int .i64 N):=by rw [cell_of_block h.book];rfl
 have ff:w.frozen? ⟨bk,0,none⟩=false:=h.frozen 0
 have ht1:Touch (fun k=>k=bk) w (w.setCell ⟨bk,0,none⟩ (.int .i64 ((N:Int)+1))):=(Touch.refl _ _).setCell _ _ (.inl rfl)
 have hb1:(w.setCell ⟨bk,0,none⟩ (.int .i64 ((N:Int)+1))).heap[bk]?=some (.cells (bookC (N+1) bs) 56 (0,0)):=by rw [heap_setCell_same _ _ _ _ _ _ h.book];rfl
 have hrow1:(w.setCell ⟨bk,0,none⟩ (.int .i64 ((N:Int)+1))).ownsRow B 170 3 (.slice bo L.length bc) L.length (hcells L):=owns_touch hP.row ht1 (fun k hk e=>by
   obtain ⟨cur,hc⟩:=owns_block hP.row hk
   exact ty_ne hc h.book (by decide) e)
 have HH:=Lib.hid h
 go_enter Tryz.func144,Tryz.ntmps144
 go_wp2
 generalize w.setCell ⟨bk,0,none⟩ (.int .i64 ((N:Int)+1))=w1 at ht1 hb1 hrow1 ⊢
 have hbx:bs .byte=.slice bo L.length bc:=by rw [HBS.out,← HL.out]
 have hbook:∀ (W:World),W.heap[bk]?=some (.cells (bookC (N+1) bs) 56 (0,0))→W.cell? ⟨bk,1,none⟩=some (.slice bo L.length bc):=fun W h=>by rw [cell_of_block h,← hbx];rfl
 have HBO:=Lib.hid hbook
 clear hbook hbx
 have g0:w1.cell? ⟨bk,0,none⟩=some (.int .i64 ((N:Int)+1)):=by rw [cell_of_block hb1];simp [bookC]
 have g1:w1.cell? ⟨bk,1,none⟩=some (.slice bo L.length bc):=HBO.out w1 hb1
 have k0:(w1.alloc (.cells #[.slice x.a x.n x.c,.slice none 0 0,.int .i64 ((N:Int)+1)] 170)).drew.cell? ⟨bk,0,none⟩=some (.int .i64 ((N:Int)+1)):=cell_later (((Below.refl _ _).alloc (Nat.le_refl _) _).drew) g0
 have k1:(w1.alloc (.cells #[.slice x.a x.n x.c,.slice none 0 0,.int .i64 ((N:Int)+1)] 170)).drew.cell? ⟨bk,1,none⟩=some (.slice bo L.length bc):=cell_later (((Below.refl _ _).alloc (Nat.le_refl _) _).drew) g1
 have HR:=Lib.hid hrow1
 have HB:=Lib.hid hb1
 have HT:=Lib.hid ht1
 have hfew:=Lib.hid hP.few
 have hle:=Lib.hid h.le
 have hsz:Hid (B≤w1.heap.size):=Lib.hid (Nat.le_trans h.le (Nat.le_of_lt (lt_of_heap hb1)))
 have hnb:Hid (∀ k,(Value.slice bo L.length bc).ownBlock=some k→¬ (bk=k)):=Lib.hid (fun k hk e=>by
   obtain ⟨cur,hc⟩:=owns_block HR.out hk
   exact ty_ne hc HB.out (by decide) e.symm)
 clear f0 ff ht1 hb1 hrow1 h hP hb0
 go_region_law (first
   | (refine step_append_any (rowH .byte) rfl (.tmp 15) (.tmp 22) (by rfl) B (.slice bo L.length bc) L.length (hcells L) (by simp [Act.eval,Act.put]) (owns_below HR.out (by first | exact ((Below.refl _ _).alloc (Nat.le_refl _) _).drew | exact ((Below.refl _ _).drew).alloc (by simp) _ | exact ((Below.refl _ _).alloc (Nat.le_refl _) _))) (some ⟨w1.heap.size,0,none⟩) 1 1 [.slice x.a x.n x.c,.slice none 0 0,.int .i64 ((N:Int)+1)] (by simp [Act.eval,Act.put]) rfl (At.row3 _ _ _ _ _) (one3 _ _ _ _) (by unfold maxLen;omega) (by omega) (Nat.le_trans hsz.out (by simp)) ?_;intro b8 c8 w8 hown8 hg8 hat8;have hT8:Touch (fun k=>(Value.slice bo L.length bc).ownBlock=some k) w1 w8:=grown_touch (by first | exact ((Below.refl _ _).alloc (Nat.le_refl _) _).drew | exact ((Below.refl _ _).drew).alloc (by simp) _ | exact ((Below.refl _ _).alloc (Nat.le_refl _) _)) hg8;have hb8:=hT8.heap HB.out (fun e=>hnb.out bk e rfl);have q1:w8.cell? ⟨bk,1,none⟩=some (.slice bo L.length bc):=HBO.out w8 hb8;have qf:w8.frozen? ⟨bk,1,none⟩=false:=blk_frozen hb8)
   | fail)
 all_goals
   have E:Touch (BkS w B) w (w8.setCell ⟨bk,1,none⟩ (.slice b8 (L.length+1) c8))∧Bk (w8.setCell ⟨bk,1,none⟩ (.slice b8 (L.length+1) c8)) B bk (N+1) (updK bs .byte (.slice b8 (L.length+1) c8)) (updK H .byte (H .byte ++ [⟨x,⟨none,0,0⟩,N+1⟩])):=by
     have e:=HL.out
     subst e
     exact bk_keep_end HH.out HBS.out hx hap hN hH HT.out hT8 hb8 hown8
   clear hg8 hat8 hown8 hT8 hb8 q1 qf
   go_end0
   exact ⟨rfl,E.1,_,E.2⟩
def BkP (w:World) (B bk:Nat) (P:Nat→Prop) (c:Nat):Prop:=∃ N bs H,Bk w B bk N bs H∧N≤c∧(∀ κ,(H κ).length≤c)∧(∀ κ i (hi:i<(H κ).length),(H κ)[i].l.n≤100000000)∧∀ κ k,LS (H κ) k→P k
theorem BkP.mono {w:World} {B bk:Nat} {P Q:Nat→Prop} {c d:Nat} (h:BkP w B bk P c) (hpq:∀ k,P k→Q k) (hcd:c≤d):BkP w B bk Q d:=by
 obtain ⟨N,bs,H,h1,h2,h3,h4,h5⟩:=h
 exact ⟨N,bs,H,h1,Nat.le_trans h2 hcd,fun κ=>Nat.le_trans (h3 κ) hcd,h4,fun κ k hk=>hpq k (h5 κ k hk)⟩
theorem BkP.touch {S:Nat→Prop} {w w':World} {B bk:Nat} {P:Nat→Prop} {c:Nat} (h:BkP w B bk P c) (ht:Touch S w w') (hs:Other w S):BkP w' B bk P c:=by
 obtain ⟨N,bs,H,h1,h2,h3,h4,h5⟩:=h
 exact ⟨N,bs,H,h1.touch ht hs,h2,h3,h4,h5⟩
theorem BkP.below {w w':World} {B bk:Nat} {P:Nat→Prop} {c:Nat} (h:BkP w B bk P c) (hb:Below w.heap.size w w'):BkP w' B bk P c:=h.touch (Touch.of_below (S:=fun _=>False) hb) (fun _ h=>h.elim)
theorem BkP.lt {w:World} {B bk:Nat} {P:Nat→Prop} {c:Nat} (h:BkP w B bk P c):B≤w.heap.size:=by
 obtain ⟨N,bs,H,h1,_⟩:=h
 exact h1.lt
theorem BkP.start (w:World) (P:Nat→Prop) (B:Nat) (hB:B≤w.heap.size):BkP (w.alloc (.cells (bookC 0 (fun _=>.slice none 0 0)) 56)) B w.heap.size P 0 :=
 ⟨0,_,fun _=>[],⟨hB,heap_new _ _,fun κ=>⟨World.ownsRow_nil _ _ _ _,fun i hi=>by simp at hi,fun i j hi=>by simp at hi,fun i hi=>by simp at hi,by simp⟩⟩,Nat.le_refl _,fun κ=>by simp,fun κ i hi=>by simp at hi,fun κ k hk=>by obtain ⟨i,hi,_⟩:=hk;simp at hi⟩
theorem BkP.more {κ:Kd} {w':World} {B bk N:Nat} {bs:Kd→Value} {H:Kd→List Hl} {P:Nat→Prop} {c:Nat} {x:Hd} (h2:N≤c) (h3:∀ κ,(H κ).length≤c) (h4:∀ κ i (hi:i<(H κ).length),(H κ)[i].l.n≤100000000) (h5:∀ κ k,LS (H κ) k→P k) (hn:x.n≤100000000)
   (hb:Bk w' B bk (N+1) bs (updK H κ (H κ ++ [⟨x,⟨none,0,0⟩,N+1⟩]))):BkP w' B bk (fun k=>P k∨x.a=some ⟨k,0,none⟩) (c+1):=by
 refine ⟨_,_,_,hb,by omega,fun κ' => ?_,fun κ' i hi => ?_,fun κ' k hk => ?_⟩
 · rcases Kd.dec κ' κ with e | e
   · subst e;rw [updK_self];have:=h3 κ';simp;omega
   · rw [updK_ne _ _ _ _ e];have:=h3 κ';omega
 · rcases Kd.dec κ' κ with e | e
   · subst e
     revert hi
     rw [updK_self]
     intro hi
     by_cases hil:i<(H κ').length
     · rw [List.getElem_append_left hil];exact h4 κ' i hil
     · have:i=(H κ').length:=by simp at hi;omega
       subst this
       rw [List.getElem_append_right (Nat.le_refl _)]
       simpa using hn
   · revert hi
     rw [updK_ne _ _ _ _ e]
     intro hi
     exact h4 κ' i hi
 · rcases Kd.dec κ' κ with e | e
   · subst e
     rw [updK_self] at hk
     obtain ⟨i,hi,e⟩:=hk
     by_cases hil:i<(H κ').length
     · rw [List.getElem_append_left hil] at e;exact .inl (h5 κ' k ⟨i,hil,e⟩)
     · have:i=(H κ').length:=by simp at hi;omega
       subst this
       rw [List.getElem_append_right (Nat.le_refl _)] at e
       simp at e
       exact .inr e
   · rw [updK_ne _ _ _ _ e] at hk
     exact .inl (h5 κ' k hk)
theorem apart_p (w:World) (B bk:Nat) (P:Nat→Prop) (c:Nat) (h:BkP w B bk P c) :
   Calls Tryz.prog 46 #[.pointer (some ⟨bk,0,none⟩)] w fun e w' => e=.returned (.bool true)∧Below B w w':=by
 obtain ⟨N,bs,H,h1,h2,h3,h4,h5⟩:=h
 exact apart_any w B bk N bs H h1 h4
theorem bytes_p (w:World) (B bk:Nat) (P:Nat→Prop) (c:Nat) (h:BkP w B bk P c) (x:Hd) (hx:HOk .byte w B x) (hn:x.n≤100000000) (hap:∀ g,x.a=some ⟨g,0,none⟩→¬ P g) (hc:c<1000000) :
   Calls Tryz.prog 67 #[.pointer (some ⟨bk,0,none⟩),x.val] w fun e w' => e=.returned (.tuple #[])∧Touch (BkS w B) w w'∧BkP w' B bk (fun k=>P k∨x.a=some ⟨k,0,none⟩) (c+1):=by
 obtain ⟨N,bs,H,h1,h2,h3,h4,h5⟩:=h
 have h6:=h3 .byte
 have HK:=keepByte_any w B bk N bs H h1 x hx (fun i hi g e e2=>hap g e2 (h5 .byte g ⟨i,hi,e⟩)) (by omega) (by omega)
 have HE:=Lib.hid (fun (w':World) (bs':Kd→Value) (hb:Bk w' B bk (N+1) bs' (updK H .byte (H .byte ++ [⟨x,⟨none,0,0⟩,N+1⟩])))=>BkP.more h2 h3 h4 h5 hn hb)
 clear h1 h2 h3 h4 h5 h6 hap hx hn hc
 go_enter Tryz.func67,Tryz.ntmps67
 go_wp2_with fail
 refine HK.mono ?_
 rintro e w1 ⟨rfl,t1,bs',b1⟩
 have HT:=Lib.hid t1
 have HB:=Lib.hid (HE.out w1 bs' b1)
 clear t1 b1 HK
 go_wp2_with fail
 go_end0
 exact ⟨rfl,HT.out,HB.out⟩
end Go.Proofs.YtgbikngicidbkaaGreatDoor
