/- The statements' helpers TwinByteLists and LeftByteLists;no condition but those typed. -/
import Derived.Test.YtgbikngicidbkaaGreatDoorQGIntsLeftI
import Derived.Test.YtgbikngicidbkaaGreatDoorQGBaseSumsRefTwinLeftSameB
import Derived.Test.YtgbikngicidbkaaGreatDoorQKBKIntKBpCKBpL
import Derived.Deep.RegionHeld3
import Derived.Test.YtgbikngicidbkaaGreatDoorQGHeapBFz
import Derived.Deep.RegionLaw
namespace Go.Proofs.YtgbikngicidbkaaGreatDoor
open Go.RowKit
set_option linter.unusedVariables false
set_option linter.unusedSimpArgs false
set_option maxRecDepth 100000
def TwB (w:World) (g:Nat) (l:List UInt8):Prop:=w.heap[g]?=some (.cells (bcells l ++ [Value.int .u8 77]).toArray 5 (0,0))
theorem TwB.twin {w:World} {g:Nat} {l:List UInt8} (h:TwB w g l):IsTwin w g l:=by
 refine ⟨lt_of_heap h,fun i hi => ?_,?_⟩
 · rw [cell_of_block h,List.getElem?_toArray,List.getElem?_append_left (by rw [bcells_length];exact hi)]
   simp [bcells,hi]
 · rw [cell_of_block h,List.getElem?_toArray,List.getElem?_append_right (by rw [bcells_length];exact Nat.le_refl _),bcells_length,Nat.sub_self];rfl
theorem row_of_own1 {w:World} {base e size g n:Nat} {xs:List Value} (h:w.ownsRow base e size (.slice (some ⟨g,0,none⟩) n n) n xs):w.heap[g]?=some (.cells xs.toArray e (0,0))∧base≤g:=by
 rcases h.2 with ⟨hv,_⟩ | ⟨g',cap,cur,hv,hb,hg,h1,h2,h3,h4⟩
 · cases hv
 · cases hv
   refine ⟨?_,hb⟩
   rw [hg]
   congr 2
   rw [← h4,List.take_of_length_le (by simp;omega)]
theorem twinB_any (a:Option Addr) (m cap:Nat) (l:List UInt8) (w:World) (hm:l.length≤140737488351232) (h:IsB w a m cap l) :
   Calls Tryz.prog 49 #[.slice a m cap] w fun e w' => e=.returned (.slice (some ⟨w.heap.size,0,none⟩) l.length (l.length+1))∧Below w.heap.size w w'∧TwB w' w.heap.size l:=by
 obtain rfl:=h.1
 refine (twin_any a l.length cap l w hm h).mono ?_
 rintro e w' ⟨he,hb,ho⟩
 exact ⟨he,hb,(row_of_own1 ho).1⟩
def tslices (gs:List Nat) (L:List (List UInt8)):List Value:=List.zipWith (fun g (l:List UInt8)=>Value.slice (some ⟨g,0,none⟩) l.length (l.length+1)) gs L
theorem tslices_length (gs:List Nat) (L:List (List UInt8)) (h:gs.length=L.length):(tslices gs L).length=L.length:=by simp [tslices,h]
theorem tslices_get (gs:List Nat) (L:List (List UInt8)) (i:Nat) (h1:i<gs.length) (h2:i<L.length):(tslices gs L)[i]?=some (.slice (some ⟨gs[i],0,none⟩) L[i].length (L[i].length+1)):=by
 unfold tslices
 rw [List.getElem?_zipWith,List.getElem?_eq_getElem h1,List.getElem?_eq_getElem h2]
theorem tslices_snoc (gs:List Nat) (L:List (List UInt8)) (k g:Nat) (hg:gs.length=k) (h:k<L.length):tslices (gs ++ [g]) (L.take (k+1))=tslices gs (L.take k) ++ [.slice (some ⟨g,0,none⟩) L[k].length (L[k].length+1)]:=by
 unfold tslices
 rw [List.take_succ_eq_append_getElem h,List.zipWith_append (by simp [hg];omega)]
 rfl
structure TwL (w:World) (B g:Nat) (gs:List Nat) (gz:Nat) (L:List (List UInt8)):Prop where
 row:w.heap[g]?=some (.cells (tslices gs L ++ [Value.slice (some ⟨gz,0,none⟩) 1 1]).toArray 24 (0,0))
 len:gs.length=L.length
 each:∀ i (h1:i<gs.length) (h2:i<L.length),TwB w gs[i] L[i]∧B≤gs[i]
 nodup:∀ i j (hi:i<gs.length) (hj:j<gs.length),i≠j→gs[i]≠gs[j]
 z:w.heap[gz]?=some (.cells #[.int .u8 77] 5 (0,0))
 le:B≤g
theorem TwL.touch {S:Nat→Prop} {w w':World} {B g gz:Nat} {gs:List Nat} {L:List (List UInt8)} (h:TwL w B g gs gz L) (ht:Touch S w w') (hs:∀ k,S k→∀ cur t fz,w.heap[k]?=some (.cells cur t fz)→t≠5∧t≠24):TwL w' B g gs gz L :=
 ⟨ht.heap h.row (fun e=>(hs g e _ _ _ h.row).2 rfl),h.len,fun i h1 h2=>⟨ht.heap (h.each i h1 h2).1 (fun e=>(hs _ e _ _ _ (h.each i h1 h2).1).1 rfl),(h.each i h1 h2).2⟩,h.nodup,ht.heap h.z (fun e=>(hs gz e _ _ _ h.z).1 rfl),h.le⟩
theorem TwL.below {w w':World} {B g gz:Nat} {gs:List Nat} {L:List (List UInt8)} (h:TwL w B g gs gz L) (hb:Below w.heap.size w w'):TwL w' B g gs gz L:=h.touch (Touch.of_below (S:=fun _=>False) hb) (fun _ h=>h.elim)
theorem infoBsl:(Tryz.prog.info? 24).map (fun i=>(i.zero,i.size,i.bytes))=some (some (.slice none 0 0),1,24):=by kernel_rfl
set_option maxHeartbeats 2000000 in
theorem twinL_any (a:Option Addr) (m cap:Nat) (L:List (List UInt8)) (w:World) (B0:Nat) (hm:L.length≤2000000) (hl:∀ l ∈ L,l.length≤140737488351232) (h:IsBB w B0 a m cap L) :
   Calls Tryz.prog 48 #[.slice a m cap] w fun e w' => ∃ g gs gz,e=.returned (.slice (some ⟨g,0,none⟩) L.length (L.length+1))∧Below w.heap.size w w'∧TwL w' w.heap.size g gs gz L:=by
 obtain ⟨i0,hi,hz0,hz1,hz2⟩:=info_parts infoBsl
 obtain ⟨rfl,h1,h2,h4⟩:=h
 have H4:=Lib.hid h4
 have HLL:=Lib.hid hl
 clear h4 hl
 go_enter Tryz.func48,Tryz.ntmps48
 go_wp2_with (first
   | (refine wpList_make_own _ rfl _ _ 23 rfl w.heap.size 24 i0 (.slice none 0 0) 1 Tryz.underlying23 hi hz0 hz1 .i64 .i64 _ (L.length+1) rfl rfl (by omega) (by rw [hz2];omega) (by unfold maxLen;omega) (Nat.le_refl _) ?_;intro w1 hown1 hg1)
   | fail)
 have HB1:Hid (Below w.heap.size w w1):=Lib.hid ((Below.refl _ _).grown hg1 (Nat.le_refl _) (by simp))
 have HO1:=Lib.hid hown1
 clear hown1 hg1
 go_wp2_with fail
 obtain ⟨M,hM⟩:∃ M,M=L.length:=⟨_,rfl⟩
 have HM:=Lib.hid hM
 clear hM
 go_loopw [3,4] (fun v i wr => ∃ k:Nat,k≤L.length∧i=.int .i64 k∧v=.slice (some ⟨w.heap.size,0,none⟩) k (L.length+1)∧Hid (Below w.heap.size w wr)∧Hid (∃ gs,gs.length=k∧wr.ownsRow w.heap.size 24 1 (.slice (some ⟨w.heap.size,0,none⟩) k (L.length+1)) k (tslices gs (L.take k))∧(∀ i (h1:i<gs.length) (h2:i<L.length),TwB wr gs[i] L[i]∧w.heap.size≤gs[i])∧(∀ i j (hi:i<gs.length) (hj:j<gs.length),i≠j→gs[i]≠gs[j]))) (fun _ i _=>M - (intOf i).toNat)
 case atStart=>exact ⟨0,Nat.zero_le _,rfl,rfl,HB1,Lib.hid ⟨[],rfl,HO1.out,fun i h1=>by simp at h1,fun i j hi=>by simp at hi⟩⟩
 case round =>
   clear HO1 HB1
   obtain ⟨k,hk,rfl,rfl,HB,HX⟩:=hrel
   obtain ⟨gs,hgl,hown,heach,hnd⟩:=HX.out
   have hsz:=HB.out.size
   by_cases hlt:k<L.length
   · obtain ⟨b,off,rfl,_,hblt,hc⟩:∃ b off,a=some ⟨b,off,none⟩∧B0≤b∧b<w.heap.size∧∀ i (h:i<L.length),∃ u,w.cell? ⟨b,off+i,none⟩=some u∧ReadAs w B0 u L[i]:=by
       rcases H4.out with h | h
       · rw [h] at hlt;simp at hlt
       · exact h
     obtain ⟨u,hu,a1,n1,c1,rfl,hr,_⟩:=hc k hlt
     have hu2:=(HB.out.cell (p:=⟨b,off+k,none⟩) hblt).trans hu
     have HR:=Lib.hid (hr.below HB.out)
     have hll:=HLL.out _ (List.getElem_mem hlt)
     have HOW:=Lib.hid hown
     have HEA:=Lib.hid heach
     have HND:=Lib.hid hnd
     have HGL:=Lib.hid hgl
     clear hc hu hr hown heach hnd hgl HX
     go_wp2_with fail
     refine (twinB_any a1 n1 c1 L[k] wr hll HR.out).mono ?_
     rintro e w2 ⟨rfl,hb2,ht2⟩
     have hown2:=owns_below HOW.out hb2
     have HT2:=Lib.hid ht2
     have HB2:=Lib.hid hb2
     have hsz2:w.heap.size≤w2.heap.size:=Nat.le_trans hsz hb2.size
     clear ht2 hb2
     go_wp2_with (first
       | (at_builtin;refine wpList_append_fits _ rfl _ _ 23 rfl w.heap.size 24 i0 1 Tryz.underlying23 hi hz1 w.heap.size k (L.length+1) _ rfl (hown2.alloc _) ⟨w2.heap.size,0,none⟩ 1 1 [.slice (some ⟨wr.heap.size,0,none⟩) L[k].length (L[k].length+1)] rfl rfl (one_at _ _ _) (one_cell _ rfl) (by omega) ?_;intro w3 hown3 hg3)
       | fail)
     have HB3:Hid (Below w.heap.size w w3):=Lib.hid (((HB.out.trans (HB2.out.mono hsz)).alloc hsz2 _).grown hg3 (by simp;omega) (by simp))
     have hrowlt:w.heap.size<wr.heap.size:=(HOW.out.lt w.heap.size rfl).2
     have HX3:Hid (∃ gs,gs.length=k+1∧w3.ownsRow w.heap.size 24 1 (.slice (some ⟨w.heap.size,0,none⟩) (k+1) (L.length+1)) (k+1) (tslices gs (L.take (k+1)))∧(∀ i (h1:i<gs.length) (h2:i<L.length),TwB w3 gs[i] L[i]∧w.heap.size≤gs[i])∧(∀ i j (hi:i<gs.length) (hj:j<gs.length),i≠j→gs[i]≠gs[j])):=Lib.hid (by
       have hrb:∀ {x:Nat} {l:List UInt8},TwB w2 x l→TwB w3 x l:=fun {x l} hx=>by
         have h1:TwB (w2.alloc (.cells #[.slice (some ⟨wr.heap.size,0,none⟩) L[k].length (L[k].length+1)] 24)) x l:=below_heap ((Below.refl _ _).alloc (Nat.le_refl _) _) hx (lt_of_heap hx)
         refine (hg3.block x (lt_of_heap h1) (fun e => ?_)).trans h1
         have hxe:x=w.heap.size:=by simpa [Value.ownBlock] using e
         obtain ⟨cur,hcu⟩:=owns_block hown2 (k:=w.heap.size) rfl
         rw [← hxe] at hcu
         have hx':w2.heap[x]?=_:=hx
         rw [hcu] at hx'
         have:=(Obj.cells.inj (Option.some.inj hx')).2.1
         revert this;decide
       have hkt:∀ i (hi:i<gs.length),TwB w2 gs[i] (L[i]'(by have:=HGL.out;omega)):=fun i hi=>by
         have hx:=(HEA.out i hi (by have:=HGL.out;omega)).1
         exact below_heap HB2.out hx (lt_of_heap hx)
       refine ⟨gs ++ [wr.heap.size],by simp [HGL.out],?_,fun i h1 h2 => ?_,fun i j hi hj hij => ?_⟩
       · rw [tslices_snoc gs L k _ HGL.out hlt];exact hown3
       · by_cases hik:i<gs.length
         · rw [List.getElem_append_left hik]
           exact ⟨hrb (hkt i hik),(HEA.out i hik h2).2⟩
         · have hik2:i=gs.length:=by simp at h1;omega
           subst hik2
           have e1:(gs ++ [wr.heap.size])[gs.length]=wr.heap.size:=by rw [List.getElem_append_right (Nat.le_refl _)];simp
           rw [e1]
           refine ⟨hrb ?_,hsz⟩
           have:=HT2.out
           have hg:=HGL.out
           subst hg
           exact this
       · have hlt2:∀ i (hi:i<gs.length),gs[i]<wr.heap.size:=fun i hi=>lt_of_heap (HEA.out i hi (by have:=HGL.out;omega)).1
         by_cases hik:i<gs.length
         · rw [List.getElem_append_left hik]
           by_cases hjk:j<gs.length
           · rw [List.getElem_append_left hjk];exact HND.out i j hik hjk hij
           · rw [List.getElem_append_right (by omega)]
             have:=hlt2 i hik
             simp;omega
         · rw [List.getElem_append_right (by omega)]
           have hjk:j<gs.length:=by simp at hi hj;omega
           rw [List.getElem_append_left hjk]
           have:=hlt2 j hjk
           simp;omega)
     clear hown3 hg3 hown2 HB2 HT2 HOW HEA HND HGL
     go_wp2_with fail
     go_roundw
     case rel=>exact ⟨k+1,by omega,by go_num,rfl,HB3,HX3⟩
     case measure=>have:=HM.out;simp [intOf];omega
   · have hkk:k=L.length:=by omega
     subst hkk
     have HGG:=Lib.hid (show True from trivial)
     have hkk:¬ L.length<L.length:=hlt
     have ho2:=((hown.alloc (.cells #[.int .u8 77] 5)).alloc (.cells #[.slice (some ⟨wr.heap.size,0,none⟩) 1 1] 24))
     have HO2:=Lib.hid ho2
     have hGS:Hid (∃ gs:List Nat,wr.ownsRow w.heap.size 24 1 (.slice (some ⟨w.heap.size,0,none⟩) L.length (L.length+1)) L.length (tslices gs (L.take L.length))):=Lib.hid ⟨gs,hown⟩
     clear ho2 HGG hGS
     have hone:∀ j u,[Value.slice (some ⟨wr.heap.size,0,none⟩) 1 1][j]?=some u→((wr.alloc (.cells #[.int .u8 77] 5)).alloc (.cells #[.slice (some ⟨wr.heap.size,0,none⟩) 1 1] 24)).cell? ((⟨wr.heap.size+1,0,none⟩:Addr).add j)=some u:=by
       have:=one_at (wr.alloc (.cells #[.int .u8 77] 5)) (.slice (some ⟨wr.heap.size,0,none⟩) 1 1) 24
       rwa [show (wr.alloc (.cells #[.int .u8 77] 5)).heap.size=wr.heap.size+1 by simp] at this
     have HONE:=Lib.hid hone
     have HOWN:=Lib.hid hown
     have HEA:=Lib.hid heach
     have HND:=Lib.hid hnd
     have HGL:=Lib.hid hgl
     clear hone hown heach hnd hgl HX
     go_wp2_with (first
       | (at_builtin;refine wpList_append_fits _ rfl _ _ 23 rfl w.heap.size 24 i0 1 Tryz.underlying23 hi hz1 w.heap.size L.length (L.length+1) _ rfl HO2.out ⟨wr.heap.size+1,0,none⟩ 1 1 [.slice (some ⟨wr.heap.size,0,none⟩) 1 1] rfl rfl HONE.out (one_cell _ rfl) (by omega) ?_;intro w3 hown3 hg3)
       | fail)
     have hW2:Below wr.heap.size wr ((wr.alloc (.cells #[.int .u8 77] 5)).alloc (.cells #[.slice (some ⟨wr.heap.size,0,none⟩) 1 1] 24)):=((Below.refl _ _).alloc (Nat.le_refl _) _).alloc (by simp) _
     have HB3:Hid (Below w.heap.size w w3):=Lib.hid ((HB.out.trans (hW2.mono hsz)).grown hg3 (Nat.le_trans hsz hW2.size) (by simp))
     have HX3:Hid (∃ g gs gz,Value.slice (some ⟨w.heap.size,0,none⟩) L.length (L.length+1)=.slice (some ⟨g,0,none⟩) L.length (L.length+1)∧TwL w3 w.heap.size g gs gz L):=Lib.hid (by
       have hgl:=HGL.out
       have hown:=HOWN.out
       have heach:=HEA.out
       have hnd:=HND.out
       have hrow3:=row_of_own1 hown3
       have hkeep:∀ {x:Nat} {C:Array Value},wr.heap[x]?=some (.cells C 5 (0,0))→w3.heap[x]?=some (.cells C 5 (0,0)):=fun {x C} hx=>by
         have h1:=below_heap hW2 hx (lt_of_heap hx)
         refine (hg3.block x (lt_of_heap h1) (fun e => ?_)).trans h1
         have hxe:x=w.heap.size:=by simpa [Value.ownBlock] using e
         obtain ⟨cur,hcu⟩:=owns_block hown (k:=w.heap.size) rfl
         rw [← hxe,hx] at hcu
         have:=(Obj.cells.inj (Option.some.inj hcu)).2.1
         revert this;decide
       have hz2:((wr.alloc (.cells #[.int .u8 77] 5)).alloc (.cells #[.slice (some ⟨wr.heap.size,0,none⟩) 1 1] 24)).heap[wr.heap.size]?=some (.cells #[.int .u8 77] 5 (0,0)):=below_heap ((Below.refl _ _).alloc (Nat.le_refl _) _) (heap_new _ _) (lt_of_heap (heap_new _ _))
       have hz3:w3.heap[wr.heap.size]?=some (.cells #[.int .u8 77] 5 (0,0)):=by
         refine (hg3.block _ (lt_of_heap hz2) (fun e => ?_)).trans hz2
         have hxe:wr.heap.size=w.heap.size:=by simpa [Value.ownBlock] using e
         have:=(hown.lt w.heap.size rfl).2
         omega
       rw [List.take_length] at hrow3
       refine ⟨_,gs,wr.heap.size,rfl,⟨?_,hgl,fun i h1 h2=>⟨hkeep (heach i h1 h2).1,(heach i h1 h2).2⟩,hnd,hz3,Nat.le_refl _⟩⟩
       exact hrow3.1)
     clear hown3 hg3 hW2
     go_wp2_with fail
     go_ret
     obtain ⟨g,gs,gz,e,hT⟩:=HX3.out
     exact ⟨g,gs,gz,by rw [← e];rfl,HB3.out,hT⟩
set_option maxHeartbeats 2000000 in
theorem leftL_any (g:Nat) (gs:List Nat) (gz B B0:Nat) (a:Option Addr) (m cap:Nat) (L:List (List UInt8)) (w:World) (hm:L.length≤2000000) (hl:∀ l ∈ L,l.length≤140737488351232) (h:IsBB w B0 a m cap L) (ht:TwL w B g gs gz L) :
   Calls Tryz.prog 64 #[.slice (some ⟨g,0,none⟩) L.length (L.length+1),.slice a m cap] w fun e w' => e=.returned (.bool true)∧Below w.heap.size w w':=by
 obtain ⟨rfl,h1,h2,h4⟩:=h
 have H4:=Lib.hid h4
 have HLL:=Lib.hid hl
 have HT:=Lib.hid ht
 clear h4 hl ht
 have c1:((L.length:Int) != (L.length:Int))=false:=by simp
 have c2:decide ((L.length:Int)+1≤(L.length:Int))=false:=by simp;omega
 have c3:decide (L.length+1≤L.length)=false:=by simp
 go_enter Tryz.func64,Tryz.ntmps64
 go_wp2_with fail
 obtain ⟨M,hM⟩:∃ M,M=L.length:=⟨_,rfl⟩
 have HM:=Lib.hid hM
 clear hM
 go_loopw [5] (fun i wr => ∃ k:Nat,k≤L.length∧i=.int .i64 k∧Hid (Below w.heap.size w wr)) (fun i _=>M - (intOf i).toNat)
 case atStart=>exact ⟨0,Nat.zero_le _,rfl,Lib.hid (Below.refl _ _)⟩
 case round =>
   obtain ⟨k,hk,rfl,HB⟩:=hrel
   have HTR:=Lib.hid (HT.out.below HB.out)
   by_cases hlt:k<L.length
   · obtain ⟨b,off,rfl,_,hblt,hc⟩:∃ b off,a=some ⟨b,off,none⟩∧B0≤b∧b<w.heap.size∧∀ i (h:i<L.length),∃ u,w.cell? ⟨b,off+i,none⟩=some u∧ReadAs w B0 u L[i]:=by
       rcases H4.out with h | h
       · rw [h] at hlt;simp at hlt
       · exact h
     obtain ⟨u,hu,a1,n1,c1',rfl,hr,_⟩:=hc k hlt
     obtain rfl:=hr.1
     have hu2:=(HB.out.cell (p:=⟨b,off+k,none⟩) hblt).trans hu
     have hkg:k<gs.length:=by rw [HT.out.len];exact hlt
     have hrow:wr.cell? ⟨g,k,none⟩=some (.slice (some ⟨gs[k],0,none⟩) L[k].length (L[k].length+1)):=by
       rw [cell_of_block HTR.out.row,List.getElem?_toArray,List.getElem?_append_left (by rw [tslices_length _ _ HT.out.len];exact hlt),tslices_get gs L k hkg hlt]
     have hll:=HLL.out _ (List.getElem_mem hlt)
     have HR:=Lib.hid ((hr.below HB.out).below ((Below.refl wr.heap.size wr).drew))
     have HTB:Hid (IsTwin wr.drew gs[k] L[k]):=Lib.hid ((HTR.out.each k hkg hlt).1.twin.below ((Below.refl wr.heap.size wr).drew))
     have hud:wr.drew.cell? ⟨b,off+k,none⟩=some (.slice a1 L[k].length c1'):=hu2
     have hrd:wr.drew.cell? ⟨g,k,none⟩=some (.slice (some ⟨gs[k],0,none⟩) L[k].length (L[k].length+1)):=hrow
     clear hc hu hr c1 c2 c3
     go_wp2_with fail
     go_region_held3 (fun w' => w'.cell? ⟨b,off+k,none⟩=some (.slice a1 L[k].length c1')∧w'.cell? ⟨g,k,none⟩=some (.slice (some ⟨gs[k],0,none⟩) L[k].length (L[k].length+1))) (first | with_reducible exact ⟨hud,hrd⟩ | exact ⟨cell_later hb3 hud,cell_later hb3 hrd⟩) (first
       | (go_at_call 65;((with_reducible refine (left_any gs[k] a1 L[k].length c1' L[k] wr.drew hll HR.out HTB.out).mono ?_);rintro e w3 ⟨rfl,hb3⟩))
       | fail)
     have HB3:=Lib.hid (HB.out.trans ((((Below.refl wr.heap.size wr).drew).trans hb3).mono HB.out.size))
     clear hb3 hud hrd hu2 hrow HR HTB
     go_wp2_with fail
     go_roundw
     case rel=>exact ⟨k+1,by omega,by go_num,HB3⟩
     case measure=>have:=HM.out;simp [intOf];omega
   · have hkk:k=L.length:=by omega
     subst hkk
     have hkk:¬ L.length<L.length:=hlt
     have hr1:wr.cell? ⟨g,L.length,none⟩=some (.slice (some ⟨gz,0,none⟩) 1 1):=by
       rw [cell_of_block HTR.out.row,List.getElem?_toArray,List.getElem?_append_right (by rw [tslices_length _ _ HT.out.len];exact Nat.le_refl _),tslices_length _ _ HT.out.len,Nat.sub_self];rfl
     have hr2:wr.cell? ⟨gz,0,none⟩=some (.int .u8 77):=by rw [cell_of_block HTR.out.z];rfl
     go_wp2
     go_ret
     exact ⟨rfl,HB.out⟩
def TwI (w:World) (g:Nat) (l:List Int):Prop:=w.heap[g]?=some (.cells (icells l ++ [Value.int .i64 77]).toArray 3 (0,0))
theorem TwI.twin {w:World} {g:Nat} {l:List Int} (h:TwI w g l):IsTwinI w g l:=by
 refine ⟨lt_of_heap h,fun i hi => ?_,?_⟩
 · rw [cell_of_block h,List.getElem?_toArray,List.getElem?_append_left (by rw [icells_length];exact hi)]
   simp [icells,hi]
 · rw [cell_of_block h,List.getElem?_toArray,List.getElem?_append_right (by rw [icells_length];exact Nat.le_refl _),icells_length,Nat.sub_self];rfl
theorem twinI_ex (a:Option Addr) (m cap:Nat) (l:List Int) (w:World) (hm:l.length≤1000000000) (h:IsI w a m cap l) :
   Calls Tryz.prog 13 #[.slice a m cap] w fun e w' => ∃ g,e=.returned (.slice (some ⟨g,0,none⟩) l.length (l.length+1))∧Below w.heap.size w w'∧TwI w' g l∧w.heap.size≤g:=by
 obtain rfl:=h.1
 refine (twinI_any a l.length cap l w hm h).mono ?_
 rintro e w' ⟨he,hb,ho⟩
 exact ⟨_,he,hb,(row_of_own1 ho).1,Nat.le_refl _⟩
theorem twinB_ex (a:Option Addr) (m cap:Nat) (l:List UInt8) (w:World) (hm:l.length≤140737488351232) (h:IsB w a m cap l) :
   Calls Tryz.prog 49 #[.slice a m cap] w fun e w' => ∃ g,e=.returned (.slice (some ⟨g,0,none⟩) l.length (l.length+1))∧Below w.heap.size w w'∧TwB w' g l∧w.heap.size≤g :=
 (twinB_any a m cap l w hm h).mono fun e w' ⟨he,hb,ho⟩ => ⟨_,he,hb,ho,Nat.le_refl _⟩
structure CfgD where
 r:List Int
 s:List (List UInt8)
 a:List UInt8
 u:List UInt8
 t:UInt64
structure CfgA where
 ra:Option Addr
 rn:Nat
 rc:Nat
 sa:Option Addr
 sn:Nat
 sc:Nat
 aa:Option Addr
 an:Nat
 ac:Nat
 ua:Option Addr
 un:Nat
 uc:Nat
def CfgA.cells (x:CfgA) (t:UInt64):List Value:=[.slice x.ra x.rn x.rc,.slice x.sa x.sn x.sc,.slice x.aa x.an x.ac,.slice x.ua x.un x.uc,.int .u64 t.toNat]
structure IsCfg (w:World) (B:Nat) (x:CfgA) (c:CfgD):Prop where
 r:IsI w x.ra x.rn x.rc c.r
 s:IsBB w B x.sa x.sn x.sc c.s
 a:IsB w x.aa x.an x.ac c.a
 u:IsB w x.ua x.un x.uc c.u
theorem IsCfg.below {w w':World} {B:Nat} {x:CfgA} {c:CfgD} (h:IsCfg w B x c) (hb:Below w.heap.size w w'):IsCfg w' B x c:=⟨h.r.below hb,h.s.below hb,h.a.below hb,h.u.below hb⟩
structure CfgSm (c:CfgD) (K:Nat):Prop where
 r:c.r.length≤K
 s:c.s.length≤K
 e:∀ l ∈ c.s,l.length≤K
 a:c.a.length≤K
 u:c.u.length≤K
structure TwC where
 r:Nat
 g:Nat
 gs:List Nat
 gz:Nat
 a:Nat
 u:Nat
def TwC.adr (x:TwC) (c:CfgD):CfgA:=⟨some ⟨x.r,0,none⟩,c.r.length,c.r.length+1,some ⟨x.g,0,none⟩,c.s.length,c.s.length+1,some ⟨x.a,0,none⟩,c.a.length,c.a.length+1,some ⟨x.u,0,none⟩,c.u.length,c.u.length+1⟩
structure TwCfg (w:World) (B:Nat) (x:TwC) (c:CfgD):Prop where
 r:TwI w x.r c.r
 s:TwL w B x.g x.gs x.gz c.s
 a:TwB w x.a c.a
 u:TwB w x.u c.u
 rB:B≤x.r
 aB:B≤x.a
 uB:B≤x.u
 sa:∀ i (hi:i<x.gs.length),x.gs[i]<x.a
 au:x.a<x.u
theorem TwCfg.below {w w':World} {B:Nat} {x:TwC} {c:CfgD} (h:TwCfg w B x c) (hb:Below w.heap.size w w'):TwCfg w' B x c :=
 ⟨below_heap hb h.r (lt_of_heap h.r),h.s.below hb,below_heap hb h.a (lt_of_heap h.a),below_heap hb h.u (lt_of_heap h.u),h.rB,h.aB,h.uB,h.sa,h.au⟩
theorem infoCfg:(Tryz.prog.info? 27).map (·.size)=some 5:=by kernel_rfl
theorem arr5 (C:Array Value) (v0 v1 v2 v3 v4:Value) (h:C.size=5):((((C.setIfInBounds 0 v0).setIfInBounds 1 v1).setIfInBounds 2 v2).setIfInBounds 3 v3).setIfInBounds 4 v4 = #[v0,v1,v2,v3,v4]:=by
 obtain ⟨l⟩:=C
 match l,h with
 | [_,_,_,_,_],_=>rfl
theorem set1 (w:World) (b i:Nat) (C:Array Value) (t:TypeId) (v:Value) (h:w.heap[b]?=some (.cells C t (0,0))):Touch (fun k=>k=b) w (w.setCell ⟨b,i,none⟩ v)∧(w.setCell ⟨b,i,none⟩ v).heap[b]?=some (.cells (C.setIfInBounds i v) t (0,0)) :=
 ⟨(Touch.refl _ w).setCell ⟨b,i,none⟩ v (.inl rfl),heap_setCell_same _ _ _ _ _ _ h⟩
theorem set5 (w:World) (b:Nat) (C:Array Value) (t:TypeId) (v0 v1 v2 v3 v4:Value) (h:w.heap[b]?=some (.cells C t (0,0))) (hC:C.size=5) :
   Touch (fun k=>k=b) w (((((w.setCell ⟨b,0,none⟩ v0).setCell ⟨b,1,none⟩ v1).setCell ⟨b,2,none⟩ v2).setCell ⟨b,3,none⟩ v3).setCell ⟨b,4,none⟩ v4) ∧
   (((((w.setCell ⟨b,0,none⟩ v0).setCell ⟨b,1,none⟩ v1).setCell ⟨b,2,none⟩ v2).setCell ⟨b,3,none⟩ v3).setCell ⟨b,4,none⟩ v4).heap[b]?=some (.cells #[v0,v1,v2,v3,v4] t (0,0)):=by
 obtain ⟨s0,h0⟩:=set1 w b 0 C t v0 h
 generalize w.setCell ⟨b,0,none⟩ v0=w0 at s0 h0 ⊢
 obtain ⟨s1,h1⟩:=set1 w0 b 1 _ t v1 h0
 generalize w0.setCell ⟨b,1,none⟩ v1=w1 at s1 h1 ⊢
 obtain ⟨s2,h2⟩:=set1 w1 b 2 _ t v2 h1
 generalize w1.setCell ⟨b,2,none⟩ v2=w2 at s2 h2 ⊢
 obtain ⟨s3,h3⟩:=set1 w2 b 3 _ t v3 h2
 generalize w2.setCell ⟨b,3,none⟩ v3=w3 at s3 h3 ⊢
 obtain ⟨s4,h4⟩:=set1 w3 b 4 _ t v4 h3
 generalize w3.setCell ⟨b,4,none⟩ v4=w4 at s4 h4 ⊢
 rw [arr5 C v0 v1 v2 v3 v4 hC] at h4
 exact ⟨(((s0.trans s1).trans s2).trans s3).trans s4,h4⟩
set_option maxHeartbeats 8000000 in
theorem twinCfg_any (x:CfgA) (c:CfgD) (B:Nat) (w:World) (h:IsCfg w B x c) (hs:CfgSm c 1048576) :
   Calls Tryz.prog 8 #[.agg (x.cells c.t).toArray] w fun e w' => ∃ y,e=.returned (.agg ((TwC.adr y c).cells c.t).toArray)∧Below w.heap.size w w'∧TwCfg w' w.heap.size y c:=by
 obtain ⟨hs1,hs2,hs3,hs4,hs5⟩:=hs
 obtain ⟨C0,hC0⟩:∃ C0:Array Value,C0 = #[.slice x.ra x.rn x.rc,.slice x.sa x.sn x.sc,.slice x.aa x.an x.ac,.slice x.ua x.un x.uc,.int .u64 c.t.toNat]:=⟨_,rfl⟩
 have HB0:Below w.heap.size w ((w.alloc (.cells #[.slice x.ra x.rn x.rc,.slice x.sa x.sn x.sc,.slice x.aa x.an x.ac,.slice x.ua x.un x.uc,.int .u64 c.t.toNat] 27)).alloc (.cells #[.slice none 0 0,.slice none 0 0,.slice none 0 0,.slice none 0 0,.int .u64 0] 27)):=((Below.refl _ _).alloc (Nat.le_refl _) _).alloc (by simp) _
 unfold CfgA.cells
 go_enter Tryz.func8,Tryz.ntmps8
 go_wp2_with fail
 have hbx:((w.alloc (.cells #[.slice x.ra x.rn x.rc,.slice x.sa x.sn x.sc,.slice x.aa x.an x.ac,.slice x.ua x.un x.uc,.int .u64 c.t.toNat] 27)).alloc (.cells #[.slice none 0 0,.slice none 0 0,.slice none 0 0,.slice none 0 0,.int .u64 0] 27)).heap[w.heap.size]?=some (.cells #[.slice x.ra x.rn x.rc,.slice x.sa x.sn x.sc,.slice x.aa x.an x.ac,.slice x.ua x.un x.uc,.int .u64 c.t.toNat] 27 (0,0)):=below_heap ((Below.refl _ _).alloc (Nat.le_refl _) _) (heap_new _ _) (lt_of_heap (heap_new _ _))
 have hrs:((w.alloc (.cells #[.slice x.ra x.rn x.rc,.slice x.sa x.sn x.sc,.slice x.aa x.an x.ac,.slice x.ua x.un x.uc,.int .u64 c.t.toNat] 27)).alloc (.cells #[.slice none 0 0,.slice none 0 0,.slice none 0 0,.slice none 0 0,.int .u64 0] 27)).heap[w.heap.size+1]?=some (.cells #[.slice none 0 0,.slice none 0 0,.slice none 0 0,.slice none 0 0,.int .u64 0] 27 (0,0)):=by
   have:=heap_new (w.alloc (.cells #[.slice x.ra x.rn x.rc,.slice x.sa x.sn x.sc,.slice x.aa x.an x.ac,.slice x.ua x.un x.uc,.int .u64 c.t.toNat] 27)) (.cells #[.slice none 0 0,.slice none 0 0,.slice none 0 0,.slice none 0 0,.int .u64 0] 27 (0,0))
   rwa [show (w.alloc (.cells #[.slice x.ra x.rn x.rc,.slice x.sa x.sn x.sc,.slice x.aa x.an x.ac,.slice x.ua x.un x.uc,.int .u64 c.t.toNat] 27)).heap.size=w.heap.size+1 by simp] at this
 have HIw0:=Lib.hid (h.below HB0)
 have HBw0:=Lib.hid HB0
 have BXw0:=Lib.hid hbx
 have RSw0:=Lib.hid hrs
 clear h HB0 hC0 C0
 generalize (w.alloc (.cells #[.slice x.ra x.rn x.rc,.slice x.sa x.sn x.sc,.slice x.aa x.an x.ac,.slice x.ua x.un x.uc,.int .u64 c.t.toNat] 27)).alloc (.cells #[.slice none 0 0,.slice none 0 0,.slice none 0 0,.slice none 0 0,.int .u64 0] 27)=w0 at hbx hrs HIw0 HBw0 BXw0 RSw0 ⊢
 have CF:Hid (∀ (W:World),W.heap[w.heap.size]?=some (.cells #[.slice x.ra x.rn x.rc,.slice x.sa x.sn x.sc,.slice x.aa x.an x.ac,.slice x.ua x.un x.uc,.int .u64 c.t.toNat] 27 (0,0))→W.cell? ⟨w.heap.size,0,none⟩=some (.slice x.ra x.rn x.rc)∧W.cell? ⟨w.heap.size,1,none⟩=some (.slice x.sa x.sn x.sc)∧W.cell? ⟨w.heap.size,2,none⟩=some (.slice x.aa x.an x.ac)∧W.cell? ⟨w.heap.size,3,none⟩=some (.slice x.ua x.un x.uc)∧W.cell? ⟨w.heap.size,4,none⟩=some (.int .u64 c.t.toNat)):=Lib.hid (fun W h=>by
   refine ⟨?_,?_,?_,?_,?_⟩ <;> (rw [cell_of_block h];rfl))
 obtain ⟨p0,p1,p2,p3,p4⟩:=CF.out w0 hbx
 obtain ⟨d0,d1,d2,d3,d4⟩:=CF.out w0.drew hbx
 obtain ⟨bx,hbxe⟩:∃ bx,bx=w.heap.size:=⟨_,rfl⟩
 have HBX:=Lib.hid hbxe
 have hd0:Hid (Below w0.heap.size w0 w0.drew):=Lib.hid (Below.refl _ _).drew
 have HSE:=Lib.hid hs3
 clear hbx hrs hbxe hs3
 go_region_held3 (fun W => W.cell? ⟨w.heap.size, 0, none⟩ = some (.slice x.ra x.rn x.rc) ∧ W.cell? ⟨w.heap.size, 1, none⟩ = some (.slice x.sa x.sn x.sc) ∧ W.cell? ⟨w.heap.size, 2, none⟩ = some (.slice x.aa x.an x.ac) ∧ W.cell? ⟨w.heap.size, 3, none⟩ = some (.slice x.ua x.un x.uc) ∧ W.cell? ⟨w.heap.size, 4, none⟩ = some (.int .u64 c.t.toNat)) (first | with_reducible exact ⟨d0, d1, d2, d3, d4⟩ | with_reducible exact CFw1 | with_reducible exact CFw2 | with_reducible exact CFw3 | with_reducible exact CFw4 | with_reducible exact CFw5) (first
       | (go_at_call 13;(with_reducible refine (twinI_ex x.ra x.rn x.rc c.r w0.drew (by omega) (HIw0.out.below hd0.out).r).mono ?_);rintro e w1 ⟨gr,rfl,hbw1,hTr,hgr⟩
          have hboxw1:=below_heap ((Below.refl w0.heap.size w0).drew.trans hbw1) BXw0.out (lt_of_heap BXw0.out)
          have BXw1:=Lib.hid hboxw1
          have RSw1:=Lib.hid (below_heap ((Below.refl w0.heap.size w0).drew.trans hbw1) RSw0.out (lt_of_heap RSw0.out))
          have HIw1:=Lib.hid (HIw0.out.below ((Below.refl w0.heap.size w0).drew.trans hbw1))
          have HBw1:=Lib.hid (HBw0.out.trans (((Below.refl w0.heap.size w0).drew.trans hbw1).mono HBw0.out.size))
          have HBsw1:=Lib.hid hbw1
          have CFw1:=CF.out w1 hboxw1
          clear hboxw1 hbw1)
       | (go_at_call 48;(with_reducible refine (twinL_any x.sa x.sn x.sc c.s w1 B (by omega) (fun l hl=>Nat.le_trans (HSE.out l hl) (by decide)) HIw1.out.s).mono ?_);rintro e w2 ⟨gl,gs,gz,rfl,hbw2,hTs⟩
          have hboxw2:=below_heap hbw2 BXw1.out (lt_of_heap BXw1.out)
          have BXw2:=Lib.hid hboxw2
          have RSw2:=Lib.hid (below_heap hbw2 RSw1.out (lt_of_heap RSw1.out))
          have HIw2:=Lib.hid (HIw1.out.below hbw2)
          have HBw2:=Lib.hid (HBw1.out.trans (hbw2.mono HBw1.out.size))
          have HBsw2:=Lib.hid hbw2
          have CFw2:=CF.out w2 hboxw2
          clear hboxw2 hbw2)
       | (go_at_call 49;(with_reducible refine (twinB_ex x.aa x.an x.ac c.a w2 (by omega) HIw2.out.a).mono ?_);rintro e w3 ⟨ga,rfl,hbw3,hTa,hga⟩
          have hboxw3:=below_heap hbw3 BXw2.out (lt_of_heap BXw2.out)
          have BXw3:=Lib.hid hboxw3
          have RSw3:=Lib.hid (below_heap hbw3 RSw2.out (lt_of_heap RSw2.out))
          have HIw3:=Lib.hid (HIw2.out.below hbw3)
          have HBw3:=Lib.hid (HBw2.out.trans (hbw3.mono HBw2.out.size))
          have HBsw3:=Lib.hid hbw3
          have CFw3:=CF.out w3 hboxw3
          clear hboxw3 hbw3)
       | (go_at_call 49;(with_reducible refine (twinB_ex x.ua x.un x.uc c.u w3 (by omega) HIw3.out.u).mono ?_);rintro e w4 ⟨gu,rfl,hbw4,hTu,hgu⟩
          have hboxw4:=below_heap hbw4 BXw3.out (lt_of_heap BXw3.out)
          have BXw4:=Lib.hid hboxw4
          have RSw4:=Lib.hid (below_heap hbw4 RSw3.out (lt_of_heap RSw3.out))
          have HIw4:=Lib.hid (HIw3.out.below hbw4)
          have HBw4:=Lib.hid (HBw3.out.trans (hbw4.mono HBw3.out.size))
          have HBsw4:=Lib.hid hbw4
          have CFw4:=CF.out w4 hboxw4
          have hr4:=RSw4.out
          have r0:w4.cell? ⟨w.heap.size+1,0,none⟩=some (.slice none 0 0):=by rw [cell_of_block hr4];rfl
          have r1:w4.cell? ⟨w.heap.size+1,1,none⟩=some (.slice none 0 0):=by rw [cell_of_block hr4];rfl
          have r2:w4.cell? ⟨w.heap.size+1,2,none⟩=some (.slice none 0 0):=by rw [cell_of_block hr4];rfl
          have r3:w4.cell? ⟨w.heap.size+1,3,none⟩=some (.slice none 0 0):=by rw [cell_of_block hr4];rfl
          have r4:w4.cell? ⟨w.heap.size+1,4,none⟩=some (.int .u64 0):=by rw [cell_of_block hr4];rfl
          have f0:w4.frozen? ⟨w.heap.size+1,0,none⟩=false:=blk_frozen hr4
          have f1:w4.frozen? ⟨w.heap.size+1,1,none⟩=false:=blk_frozen hr4
          have f2:w4.frozen? ⟨w.heap.size+1,2,none⟩=false:=blk_frozen hr4
          have f3:w4.frozen? ⟨w.heap.size+1,3,none⟩=false:=blk_frozen hr4
          have f4:w4.frozen? ⟨w.heap.size+1,4,none⟩=false:=blk_frozen hr4
          have t5:=set5 w4 (w.heap.size+1) _ _ (.slice (some ⟨gr,0,none⟩) c.r.length (c.r.length+1)) (.slice (some ⟨gl,0,none⟩) c.s.length (c.s.length+1)) (.slice (some ⟨ga,0,none⟩) c.a.length (c.a.length+1)) (.slice (some ⟨gu,0,none⟩) c.u.length (c.u.length+1)) (.int .u64 c.t.toNat) RSw4.out rfl
          have CFw5:=CF.out _ (t5.1.heap BXw4.out (by omega))
          have T5:=Lib.hid t5
          clear t5 hr4 hboxw4 hbw4)
       | fail)
 have hfin:∀ (W:World),Touch (fun k=>k=w.heap.size+1) w4 W→Below w.heap.size w W∧TwCfg W w.heap.size ⟨gr,gl,gs,gz,ga,gu⟩ c:=fun W t=>by
   have hB:Below w.heap.size w W:=HBw4.out.trans (t.below HBw4.out.size (fun k hk e=>by omega))
   have hne:∀ {g:Nat} {C:Array Value} {ty:TypeId},ty≠27→w4.heap[g]?=some (.cells C ty (0,0))→W.heap[g]?=some (.cells C ty (0,0)):=fun {g C ty} hty h=>t.heap h (fun e=>by
     rw [e,RSw4.out] at h
     exact hty (Obj.cells.inj (Option.some.inj h)).2.1.symm)
   have hb12:Below w1.heap.size w1 w4:=(HBsw2.out.trans (HBsw3.out.mono HBsw2.out.size)).trans (HBsw4.out.mono (Nat.le_trans HBsw2.out.size HBsw3.out.size))
   have hb24:Below w2.heap.size w2 w4:=HBsw3.out.trans (HBsw4.out.mono HBsw3.out.size)
   have h1s:=HBw1.out.size
   have h2s:=HBw2.out.size
   have h3s:=HBw3.out.size
   have h0s:=HBw0.out.size
   have htr:TwI w4 gr c.r:=below_heap hb12 hTr (lt_of_heap hTr)
   have hta:TwB w4 ga c.a:=below_heap HBsw4.out hTa (lt_of_heap hTa)
   have hts:TwL w4 w1.heap.size gl gs gz c.s:=hTs.below hb24
   have hts2:TwL W w1.heap.size gl gs gz c.s:=hts.touch t (fun k hk cur ty fz hc=>by
     rw [hk,RSw4.out] at hc
     rw [← (Obj.cells.inj (Option.some.inj hc)).2.1]
     exact ⟨by decide,by decide⟩)
   refine ⟨hB,hne (by decide) htr,⟨hts2.row,hts2.len,fun i h1 h2=>⟨(hts2.each i h1 h2).1,Nat.le_trans h1s (hts2.each i h1 h2).2⟩,hts2.nodup,hts2.z,Nat.le_trans h1s hts2.le⟩,hne (by decide) hta,hne (by decide) hTu,?_,?_,?_,fun i hi => ?_,?_⟩
   · exact Nat.le_trans h0s hgr
   · exact Nat.le_trans h2s hga
   · exact Nat.le_trans h3s hgu
   · have hh:TwB w2 gs[i] (c.s[i]'(by rw [← hTs.len];exact hi)):=(hTs.each i hi (by rw [← hTs.len];exact hi)).1
     have h2:=lt_of_heap hh
     show gs[i]<ga
     omega
   · have h3:=lt_of_heap hTa
     show ga<gu
     omega
 have HFIN:=Lib.hid (hfin _ T5.out.1)
 have HG5:=Lib.hid T5.out.2
 clear hfin T5
 go_wp2_with fail
 refine bodyPost_ret (results_cell rfl _ _ (w.heap.size+1) 0 rfl [.slice (some ⟨gr,0,none⟩) c.r.length (c.r.length+1),.slice (some ⟨gl,0,none⟩) c.s.length (c.s.length+1),.slice (some ⟨ga,0,none⟩) c.a.length (c.a.length+1),.slice (some ⟨gu,0,none⟩) c.u.length (c.u.length+1),.int .u64 c.t.toNat] _ (rangeAt_row HG5.out) Tryz.underlying27 rfl infoCfg) rfl ?_
 exact ⟨⟨gr,gl,gs,gz,ga,gu⟩,rfl,HFIN.out.1,HFIN.out.2⟩
set_option maxHeartbeats 4000000 in
theorem leftCfg_any (x:CfgA) (y:TwC) (c:CfgD) (B B0:Nat) (w:World) (h:IsCfg w B0 x c) (ht:TwCfg w B y c) (hs:CfgSm c 1048576) :
   Calls Tryz.prog 11 #[.agg ((y.adr c).cells c.t).toArray,.agg (x.cells c.t).toArray] w fun e w' => e=.returned (.bool true)∧Below w.heap.size w w':=by
 obtain ⟨hs1,hs2,hs3,hs4,hs5⟩:=hs
 have er:=h.r.1
 have es:=h.s.1
 have ea:=h.a.1
 have eu:=h.u.1
 have HSE:=Lib.hid hs3
 have CT:Hid (∀ (W:World),W.heap[w.heap.size]?=some (.cells #[.slice (some ⟨y.r,0,none⟩) c.r.length (c.r.length+1),.slice (some ⟨y.g,0,none⟩) c.s.length (c.s.length+1),.slice (some ⟨y.a,0,none⟩) c.a.length (c.a.length+1),.slice (some ⟨y.u,0,none⟩) c.u.length (c.u.length+1),.int .u64 c.t.toNat] 27 (0,0))→W.cell? ⟨w.heap.size,0,none⟩=some (.slice (some ⟨y.r,0,none⟩) c.r.length (c.r.length+1))∧W.cell? ⟨w.heap.size,1,none⟩=some (.slice (some ⟨y.g,0,none⟩) c.s.length (c.s.length+1))∧W.cell? ⟨w.heap.size,2,none⟩=some (.slice (some ⟨y.a,0,none⟩) c.a.length (c.a.length+1))∧W.cell? ⟨w.heap.size,3,none⟩=some (.slice (some ⟨y.u,0,none⟩) c.u.length (c.u.length+1))∧W.cell? ⟨w.heap.size,4,none⟩=some (.int .u64 c.t.toNat)):=Lib.hid (fun W h=>by
   refine ⟨?_,?_,?_,?_,?_⟩ <;> (rw [cell_of_block h];rfl))
 have CX:Hid (∀ (W:World),W.heap[w.heap.size+1]?=some (.cells #[.slice x.ra x.rn x.rc,.slice x.sa x.sn x.sc,.slice x.aa x.an x.ac,.slice x.ua x.un x.uc,.int .u64 c.t.toNat] 27 (0,0))→W.cell? ⟨w.heap.size+1,0,none⟩=some (.slice x.ra x.rn x.rc)∧W.cell? ⟨w.heap.size+1,1,none⟩=some (.slice x.sa x.sn x.sc)∧W.cell? ⟨w.heap.size+1,2,none⟩=some (.slice x.aa x.an x.ac)∧W.cell? ⟨w.heap.size+1,3,none⟩=some (.slice x.ua x.un x.uc)∧W.cell? ⟨w.heap.size+1,4,none⟩=some (.int .u64 c.t.toNat)):=Lib.hid (fun W h=>by
   refine ⟨?_,?_,?_,?_,?_⟩ <;> (rw [cell_of_block h];rfl))
 have hB0:Below w.heap.size w ((w.alloc (.cells #[.slice (some ⟨y.r,0,none⟩) c.r.length (c.r.length+1),.slice (some ⟨y.g,0,none⟩) c.s.length (c.s.length+1),.slice (some ⟨y.a,0,none⟩) c.a.length (c.a.length+1),.slice (some ⟨y.u,0,none⟩) c.u.length (c.u.length+1),.int .u64 c.t.toNat] 27)).alloc (.cells #[.slice x.ra x.rn x.rc,.slice x.sa x.sn x.sc,.slice x.aa x.an x.ac,.slice x.ua x.un x.uc,.int .u64 c.t.toNat] 27)):=((Below.refl _ _).alloc (Nat.le_refl _) _).alloc (by simp) _
 have hbt:((w.alloc (.cells #[.slice (some ⟨y.r,0,none⟩) c.r.length (c.r.length+1),.slice (some ⟨y.g,0,none⟩) c.s.length (c.s.length+1),.slice (some ⟨y.a,0,none⟩) c.a.length (c.a.length+1),.slice (some ⟨y.u,0,none⟩) c.u.length (c.u.length+1),.int .u64 c.t.toNat] 27)).alloc (.cells #[.slice x.ra x.rn x.rc,.slice x.sa x.sn x.sc,.slice x.aa x.an x.ac,.slice x.ua x.un x.uc,.int .u64 c.t.toNat] 27)).heap[w.heap.size]?=some (.cells #[.slice (some ⟨y.r,0,none⟩) c.r.length (c.r.length+1),.slice (some ⟨y.g,0,none⟩) c.s.length (c.s.length+1),.slice (some ⟨y.a,0,none⟩) c.a.length (c.a.length+1),.slice (some ⟨y.u,0,none⟩) c.u.length (c.u.length+1),.int .u64 c.t.toNat] 27 (0,0)):=below_heap ((Below.refl _ _).alloc (Nat.le_refl _) _) (heap_new _ _) (lt_of_heap (heap_new _ _))
 have hbx:((w.alloc (.cells #[.slice (some ⟨y.r,0,none⟩) c.r.length (c.r.length+1),.slice (some ⟨y.g,0,none⟩) c.s.length (c.s.length+1),.slice (some ⟨y.a,0,none⟩) c.a.length (c.a.length+1),.slice (some ⟨y.u,0,none⟩) c.u.length (c.u.length+1),.int .u64 c.t.toNat] 27)).alloc (.cells #[.slice x.ra x.rn x.rc,.slice x.sa x.sn x.sc,.slice x.aa x.an x.ac,.slice x.ua x.un x.uc,.int .u64 c.t.toNat] 27)).heap[w.heap.size+1]?=some (.cells #[.slice x.ra x.rn x.rc,.slice x.sa x.sn x.sc,.slice x.aa x.an x.ac,.slice x.ua x.un x.uc,.int .u64 c.t.toNat] 27 (0,0)):=by
   have:=heap_new (w.alloc (.cells #[.slice (some ⟨y.r,0,none⟩) c.r.length (c.r.length+1),.slice (some ⟨y.g,0,none⟩) c.s.length (c.s.length+1),.slice (some ⟨y.a,0,none⟩) c.a.length (c.a.length+1),.slice (some ⟨y.u,0,none⟩) c.u.length (c.u.length+1),.int .u64 c.t.toNat] 27)) (.cells #[.slice x.ra x.rn x.rc,.slice x.sa x.sn x.sc,.slice x.aa x.an x.ac,.slice x.ua x.un x.uc,.int .u64 c.t.toNat] 27 (0,0))
   rwa [show (w.alloc (.cells #[.slice (some ⟨y.r,0,none⟩) c.r.length (c.r.length+1),.slice (some ⟨y.g,0,none⟩) c.s.length (c.s.length+1),.slice (some ⟨y.a,0,none⟩) c.a.length (c.a.length+1),.slice (some ⟨y.u,0,none⟩) c.u.length (c.u.length+1),.int .u64 c.t.toNat] 27)).heap.size=w.heap.size+1 by simp] at this
 have BT0:=Lib.hid hbt
 have BX0:=Lib.hid hbx
 have HI0:=Lib.hid (h.below hB0)
 have HT0:=Lib.hid (ht.below hB0)
 have HB0:=Lib.hid hB0
 clear h ht hB0 hbt hbx hs3
 unfold TwC.adr CfgA.cells
 dsimp only
 rw [er,es,ea,eu] at BX0 CX HB0 HI0 HT0 BT0 ⊢
 go_enter Tryz.func11,Tryz.ntmps11
 go_wp2_with fail
 generalize (w.alloc (.cells #[.slice (some ⟨y.r,0,none⟩) c.r.length (c.r.length+1),.slice (some ⟨y.g,0,none⟩) c.s.length (c.s.length+1),.slice (some ⟨y.a,0,none⟩) c.a.length (c.a.length+1),.slice (some ⟨y.u,0,none⟩) c.u.length (c.u.length+1),.int .u64 c.t.toNat] 27)).alloc (.cells #[.slice x.ra c.r.length x.rc,.slice x.sa c.s.length x.sc,.slice x.aa c.a.length x.ac,.slice x.ua c.u.length x.uc,.int .u64 c.t.toNat] 27)=w0 at BT0 BX0 HI0 HT0 HB0 ⊢
 refine (leftI_any y.r x.ra c.r.length x.rc c.r w0 (by omega) (by have:=HI0.out.r;rwa [er] at this) HT0.out.r.twin).mono ?_;rintro e w1 ⟨rfl,hb⟩
 have BT1:=Lib.hid (below_heap hb BT0.out (lt_of_heap BT0.out))
 have BX1:=Lib.hid (below_heap hb BX0.out (lt_of_heap BX0.out))
 have HI1:=Lib.hid (HI0.out.below hb)
 have HT1:=Lib.hid (HT0.out.below hb)
 have HB1:=Lib.hid (HB0.out.trans (hb.mono HB0.out.size))
 clear hb BT0 BX0 HI0 HT0 HB0
 obtain ⟨t0,t1,t2,t3,t4⟩:=CT.out w1 BT1.out
 obtain ⟨x0,x1,x2,x3,x4⟩:=CX.out w1 BX1.out
 go_wp2_with fail
 refine (leftL_any y.g y.gs y.gz B B0 x.sa c.s.length x.sc c.s w1 (by omega) (fun l hl=>Nat.le_trans (HSE.out l hl) (by decide)) (by have:=HI1.out.s;rwa [es] at this) HT1.out.s).mono ?_;rintro e w2 ⟨rfl,hb⟩
 have BT2:=Lib.hid (below_heap hb BT1.out (lt_of_heap BT1.out))
 have BX2:=Lib.hid (below_heap hb BX1.out (lt_of_heap BX1.out))
 have HI2:=Lib.hid (HI1.out.below hb)
 have HT2:=Lib.hid (HT1.out.below hb)
 have HB2:=Lib.hid (HB1.out.trans (hb.mono HB1.out.size))
 clear hb t0 t1 t2 t3 t4 x0 x1 x2 x3 x4 BT1 BX1 HI1 HT1 HB1
 obtain ⟨t0,t1,t2,t3,t4⟩:=CT.out w2 BT2.out
 obtain ⟨x0,x1,x2,x3,x4⟩:=CX.out w2 BX2.out
 go_wp2_with fail
 refine (left_any y.a x.aa c.a.length x.ac c.a w2 (by omega) (by have:=HI2.out.a;rwa [ea] at this) HT2.out.a.twin).mono ?_;rintro e w3 ⟨rfl,hb⟩
 have BT3:=Lib.hid (below_heap hb BT2.out (lt_of_heap BT2.out))
 have BX3:=Lib.hid (below_heap hb BX2.out (lt_of_heap BX2.out))
 have HI3:=Lib.hid (HI2.out.below hb)
 have HT3:=Lib.hid (HT2.out.below hb)
 have HB3:=Lib.hid (HB2.out.trans (hb.mono HB2.out.size))
 clear hb t0 t1 t2 t3 t4 x0 x1 x2 x3 x4 BT2 BX2 HI2 HT2 HB2
 obtain ⟨t0,t1,t2,t3,t4⟩:=CT.out w3 BT3.out
 obtain ⟨x0,x1,x2,x3,x4⟩:=CX.out w3 BX3.out
 go_wp2_with fail
 refine (left_any y.u x.ua c.u.length x.uc c.u w3 (by omega) (by have:=HI3.out.u;rwa [eu] at this) HT3.out.u.twin).mono ?_;rintro e w4 ⟨rfl,hb⟩
 have BT4:=Lib.hid (below_heap hb BT3.out (lt_of_heap BT3.out))
 have BX4:=Lib.hid (below_heap hb BX3.out (lt_of_heap BX3.out))
 have HI4:=Lib.hid (HI3.out.below hb)
 have HT4:=Lib.hid (HT3.out.below hb)
 have HB4:=Lib.hid (HB3.out.trans (hb.mono HB3.out.size))
 clear hb t0 t1 t2 t3 t4 x0 x1 x2 x3 x4 BT3 BX3 HI3 HT3 HB3
 obtain ⟨t0,t1,t2,t3,t4⟩:=CT.out w4 BT4.out
 obtain ⟨x0,x1,x2,x3,x4⟩:=CX.out w4 BX4.out
 have hq:((c.t.toNat:Int) == (c.t.toNat:Int))=true:=by simp
 go_wp2_with fail
 go_ret
 exact ⟨rfl,HB4.out⟩
end Go.Proofs.YtgbikngicidbkaaGreatDoor
