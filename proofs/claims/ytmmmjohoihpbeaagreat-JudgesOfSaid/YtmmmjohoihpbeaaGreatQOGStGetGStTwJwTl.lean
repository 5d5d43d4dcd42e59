/- The package stores: get,twin;conditions: those typed. -/
import Derived.Test.YtmmmjohoihpbeaaGreatQOGStPut
import Derived.Test.YtmmmjohoihpbeaaGreatQOGStOrdGStRecJwAJwBJwGJwEq
import Derived.Test.YtmmmjohoihpbeaaGreatQOGStCGStCloStArg2
import Derived.Test.YtmmmjohoihpbeaaGreatQOGHeap
import Derived.Test.YtmmmjohoihpbeaaGreatQOGSlotsRGSlotsGetGSlotsLaw2
import Derived.Test.YtmmmjohoihpbeaaGreatQOGIntsLeftI
import Derived.Deep.RegionHeld3
namespace Go.Proofs.YtmmmjohoihpbeaaGreat
open Go.RowKit
set_option linter.unusedVariables false
set_option linter.unusedSimpArgs false
/- Lists of lists of numbers in memory;conditions: those typed. -/
def IIv (w:World) (P:Nat→Prop) (vs:List Value) (L:List (List Int)):Prop:=vs.length=L.length∧∀ i (h:i<L.length),∃ a n c,vs[i]?=some (.slice a n c)∧IsIp w P a n c L[i]
theorem IIv.touch {S P:Nat→Prop} {w w':World} {vs:List Value} {L:List (List Int)} (h:IIv w P vs L) (ht:Touch S w w') (hs:∀ k,P k→¬ S k):IIv w' P vs L :=
 ⟨h.1,fun i hi=>by obtain ⟨a,n,c,h1,h2⟩:=h.2 i hi;exact ⟨a,n,c,h1,h2.touch ht hs⟩⟩
theorem IIv.below {P:Nat→Prop} {w w':World} {vs:List Value} {L:List (List Int)} (h:IIv w P vs L) (hb:Below w.heap.size w w'):IIv w' P vs L :=
 ⟨h.1,fun i hi=>by obtain ⟨a,n,c,h1,h2⟩:=h.2 i hi;exact ⟨a,n,c,h1,h2.below hb⟩⟩
theorem IIv.one {w:World} {P:Nat→Prop} {vs:List Value} {L:List (List Int)} (h:IIv w P vs L):∀ v ∈ vs,v.oneCell'=true:=by
 intro v hv
 obtain ⟨i,hi,rfl⟩:=List.getElem_of_mem hv
 obtain ⟨a,n,c,h1,_⟩:=h.2 i (by rw [← h.1];exact hi)
 rw [List.getElem?_eq_getElem hi] at h1
 rw [Option.some.inj h1];rfl
def IsIIp (w:World) (P:Nat→Prop) (a:Option Addr) (n c:Nat) (vs:List Value) (L:List (List Int)):Prop :=
 n=L.length∧L.length≤c∧c≤maxLen∧IIv w P vs L∧(L=[]∨∃ b off,a=some ⟨b,off,none⟩∧P b∧b<w.heap.size∧∀ i (h:i<vs.length),w.cell? ⟨b,off+i,none⟩=some vs[i])
theorem IsIIp.touch {S P:Nat→Prop} {w w':World} {a:Option Addr} {n c:Nat} {vs:List Value} {L:List (List Int)} (h:IsIIp w P a n c vs L) (ht:Touch S w w') (hs:∀ k,P k→¬ S k):IsIIp w' P a n c vs L:=by
 obtain ⟨h1,h2,h3,h4,h5 | ⟨b,off,rfl,hP,hlt,hc⟩⟩:=h
 · exact ⟨h1,h2,h3,h4.touch ht hs,.inl h5⟩
 · exact ⟨h1,h2,h3,h4.touch ht hs,.inr ⟨b,off,rfl,hP,Nat.lt_of_lt_of_le hlt ht.size,fun i hi=>ht.cell (hc i hi) (hs b hP)⟩⟩
theorem IsIIp.below {P:Nat→Prop} {w w':World} {a:Option Addr} {n c:Nat} {vs:List Value} {L:List (List Int)} (h:IsIIp w P a n c vs L) (hb:Below w.heap.size w w'):IsIIp w' P a n c vs L:=h.touch (Touch.of_below (S:=fun _=>False) hb) (fun _ _=>id)
theorem IsIIp.at {w:World} {P:Nat→Prop} {a:Option Addr} {n c:Nat} {vs:List Value} {L:List (List Int)} (h:IsIIp w P a n c vs L):At w a vs:=by
 obtain ⟨h1,h2,h3,h4,h5 | ⟨b,off,rfl,hP,hlt,hc⟩⟩:=h
 · have:vs=[]:=List.eq_nil_of_length_eq_zero (by rw [h4.1,h5];rfl)
   rw [this];exact At.nil _ _
 · exact At.of_cells hc
/- The package stores: Make;conditions: those typed. -/
/- Layer 20: what a new store has;what lives does;conditions: those typed. -/
/- The package stores: Open;conditions: those typed. -/
/- Layer 20: some,made,lives;conditions: those typed. -/
/- Layer 20: lives;conditions: those typed. -/
/- The package stores: a store that is not there;conditions: those typed. -/
theorem info_mkt:(Tryz.prog.info? 25).map (·.size)=some 3:=by kernel_rfl
theorem mkt_one (ra sa aa:Option Addr) (rn rc sn sc an ac:Nat):∀ v ∈ [Value.slice ra rn rc,.slice sa sn sc,.slice aa an ac],v.oneCell'=true:=by intro v hv;simp at hv;rcases hv with rfl | rfl | rfl <;> rfl
set_option maxRecDepth 100000
def TwJ (w:World) (g:Nat) (l:List Int):Prop:=w.heap[g]?=some (.cells (icells l ++ [Value.int .i64 77]).toArray 3 (0,0))
theorem TwJ.twin {w:World} {g:Nat} {l:List Int} (h:TwJ w g l):IsTwinI w g l:=by
 refine ⟨lt_of_heap h,fun i hi => ?_,?_⟩
 · rw [cell_of_block h,List.getElem?_toArray,List.getElem?_append_left (by rw [icells_length];exact hi)]
   simp [icells,hi]
 · rw [cell_of_block h,List.getElem?_toArray,List.getElem?_append_right (by rw [icells_length];exact Nat.le_refl _),icells_length,Nat.sub_self];rfl
theorem row_of_own1 {w:World} {base e size g n:Nat} {xs:List Value} (h:w.ownsRow base e size (.slice (some ⟨g,0,none⟩) n n) n xs):w.heap[g]?=some (.cells xs.toArray e (0,0))∧base≤g:=by
 rcases h.2 with ⟨hv,_⟩ | ⟨g',cap,cur,hv,hb,hg,h1,h2,h3,h4⟩
 · cases hv
 · cases hv
   refine ⟨?_,hb⟩
   rw [hg]
   congr 2
   rw [← h4,List.take_of_length_le (by simp;omega)]
theorem twinJ_any (a:Option Addr) (m cap:Nat) (l:List Int) (w:World) (hm:l.length≤1000000000) (h:IsI w a m cap l) :
   Calls Tryz.prog 11 #[.slice a m cap] w fun e w' => e=.returned (.slice (some ⟨w.heap.size,0,none⟩) l.length (l.length+1))∧Below w.heap.size w w'∧TwJ w' w.heap.size l:=by
 obtain rfl:=h.1
 refine (twinI_any a l.length cap l w hm h).mono ?_
 rintro e w' ⟨he,hb,ho⟩
 exact ⟨he,hb,(row_of_own1 ho).1⟩
def IsIL (w:World) (a:Option Addr) (n c:Nat) (L:List (List Int)):Prop :=
 n=L.length∧L.length≤c∧c≤maxLen∧(L=[]∨∃ b off,a=some ⟨b,off,none⟩∧b<w.heap.size∧∀ i (h:i<L.length),∃ x y z,w.cell? ⟨b,off+i,none⟩=some (.slice x y z)∧IsI w x y z L[i])
theorem IsIIp.isIL {w:World} {P:Nat→Prop} {a:Option Addr} {n c:Nat} {vs:List Value} {L:List (List Int)} (h:IsIIp w P a n c vs L):IsIL w a n c L:=by
 obtain ⟨h1,h2,h3,h4,h5⟩:=h
 refine ⟨h1,h2,h3,?_⟩
 rcases h5 with h5 | ⟨b,off,rfl,_,hlt,hc⟩
 · exact .inl h5
 · refine .inr ⟨b,off,rfl,hlt,fun i hi => ?_⟩
   obtain ⟨x,y,z,h6,h7⟩:=h4.2 i hi
   have hi':i<vs.length:=by rw [h4.1];exact hi
   refine ⟨x,y,z,?_,h7.1⟩
   rw [hc i hi',← h6,List.getElem?_eq_getElem hi']
theorem TwJ.isI {w:World} {g:Nat} {l:List Int} (h:TwJ w g l) (hm:l.length≤1000000000):IsI w (some ⟨g,0,none⟩) l.length (l.length+1) l:=h.twin.isB (by unfold maxLen;omega)
def uslices (gs:List Nat) (L:List (List Int)):List Value:=List.zipWith (fun g (l:List Int)=>Value.slice (some ⟨g,0,none⟩) l.length (l.length+1)) gs L
theorem uslices_length (gs:List Nat) (L:List (List Int)) (h:gs.length=L.length):(uslices gs L).length=L.length:=by simp [uslices,h]
theorem uslices_get (gs:List Nat) (L:List (List Int)) (i:Nat) (h1:i<gs.length) (h2:i<L.length):(uslices gs L)[i]?=some (.slice (some ⟨gs[i],0,none⟩) L[i].length (L[i].length+1)):=by
 unfold uslices
 rw [List.getElem?_zipWith,List.getElem?_eq_getElem h1,List.getElem?_eq_getElem h2]
theorem uslices_snoc (gs:List Nat) (L:List (List Int)) (k g:Nat) (hg:gs.length=k) (h:k<L.length):uslices (gs ++ [g]) (L.take (k+1))=uslices gs (L.take k) ++ [.slice (some ⟨g,0,none⟩) L[k].length (L[k].length+1)]:=by
 unfold uslices
 rw [List.take_succ_eq_append_getElem h,List.zipWith_append (by simp [hg];omega)]
 rfl
structure TwK (w:World) (B g:Nat) (gs:List Nat) (gz:Nat) (L:List (List Int)):Prop where
 row:w.heap[g]?=some (.cells (uslices gs L ++ [Value.slice (some ⟨gz,0,none⟩) 1 1]).toArray 22 (0,0))
 len:gs.length=L.length
 each:∀ i (h1:i<gs.length) (h2:i<L.length),TwJ w gs[i] L[i]∧B≤gs[i]
 nodup:∀ i j (hi:i<gs.length) (hj:j<gs.length),i≠j→gs[i]≠gs[j]
 z:w.heap[gz]?=some (.cells #[.int .i64 77] 3 (0,0))
 le:B≤g
theorem TwK.touch {S:Nat→Prop} {w w':World} {B g gz:Nat} {gs:List Nat} {L:List (List Int)} (h:TwK w B g gs gz L) (ht:Touch S w w') (hs:∀ k,S k→∀ cur t fz,w.heap[k]?=some (.cells cur t fz)→t≠3∧t≠22):TwK w' B g gs gz L :=
 ⟨ht.heap h.row (fun e=>(hs g e _ _ _ h.row).2 rfl),h.len,fun i h1 h2=>⟨ht.heap (h.each i h1 h2).1 (fun e=>(hs _ e _ _ _ (h.each i h1 h2).1).1 rfl),(h.each i h1 h2).2⟩,h.nodup,ht.heap h.z (fun e=>(hs gz e _ _ _ h.z).1 rfl),h.le⟩
theorem TwK.below {w w':World} {B g gz:Nat} {gs:List Nat} {L:List (List Int)} (h:TwK w B g gs gz L) (hb:Below w.heap.size w w'):TwK w' B g gs gz L:=h.touch (Touch.of_below (S:=fun _=>False) hb) (fun _ h=>h.elim)
theorem infoIsl:(Tryz.prog.info? 22).map (fun i=>(i.zero,i.size,i.bytes))=some (some (.slice none 0 0),1,24):=by kernel_rfl
set_option maxHeartbeats 2000000 in
theorem twinK_any (a:Option Addr) (m cap:Nat) (L:List (List Int)) (w:World) (hm:L.length≤2000000) (hl:∀ l ∈ L,l.length≤1000000000) (h:IsIL w a m cap L) :
   Calls Tryz.prog 25 #[.slice a m cap] w fun e w' => ∃ g gs gz,e=.returned (.slice (some ⟨g,0,none⟩) L.length (L.length+1))∧Below w.heap.size w w'∧TwK w' w.heap.size g gs gz L:=by
 obtain ⟨i0,hi,hz0,hz1,hz2⟩:=info_parts infoIsl
 obtain ⟨rfl,h1,h2,h4⟩:=h
 have H4:=Lib.hid h4
 have HLL:=Lib.hid hl
 clear h4 hl
 go_enter Tryz.func25,Tryz.ntmps25
 go_wp2_with (first
   | (refine wpList_make_own _ rfl _ _ 23 rfl w.heap.size 22 i0 (.slice none 0 0) 1 Tryz.underlying23 hi hz0 hz1 .i64 .i64 _ (L.length+1) rfl rfl (by omega) (by rw [hz2];omega) (by unfold maxLen;omega) (Nat.le_refl _) ?_;intro w1 hown1 hg1)
   | fail)
 have HB1:Hid (Below w.heap.size w w1):=Lib.hid ((Below.refl _ _).grown hg1 (Nat.le_refl _) (by simp))
 have HO1:=Lib.hid hown1
 clear hown1 hg1
 go_wp2_with fail
 obtain ⟨M,hM⟩:∃ M,M=L.length:=⟨_,rfl⟩
 have HM:=Lib.hid hM
 clear hM
 go_loopw [3,4] (fun v i wr => ∃ k:Nat,k≤L.length∧i=.int .i64 k∧v=.slice (some ⟨w.heap.size,0,none⟩) k (L.length+1)∧Hid (Below w.heap.size w wr)∧Hid (∃ gs,gs.length=k∧wr.ownsRow w.heap.size 22 1 (.slice (some ⟨w.heap.size,0,none⟩) k (L.length+1)) k (uslices gs (L.take k))∧(∀ i (h1:i<gs.length) (h2:i<L.length),TwJ wr gs[i] L[i]∧w.heap.size≤gs[i])∧(∀ i j (hi:i<gs.length) (hj:j<gs.length),i≠j→gs[i]≠gs[j]))) (fun _ i _=>M - (intOf i).toNat)
 case atStart=>exact ⟨0,Nat.zero_le _,rfl,rfl,HB1,Lib.hid ⟨[],rfl,HO1.out,fun i h1=>by simp at h1,fun i j hi=>by simp at hi⟩⟩
 case round =>
   clear HO1 HB1
   obtain ⟨k,hk,rfl,rfl,HB,HX⟩:=hrel
   obtain ⟨gs,hgl,hown,heach,hnd⟩:=HX.out
   have hsz:=HB.out.size
   by_cases hlt:k<L.length
   · obtain ⟨b,off,rfl,hblt,hc⟩:∃ b off,a=some ⟨b,off,none⟩∧b<w.heap.size∧∀ i (h:i<L.length),∃ x y z,w.cell? ⟨b,off+i,none⟩=some (.slice x y z)∧IsI w x y z L[i]:=by
       rcases H4.out with h | h
       · rw [h] at hlt;simp at hlt
       · exact h
     obtain ⟨a1,n1,c1,hu,hr⟩:=hc k hlt
     have hu2:=(HB.out.cell (p:=⟨b,off+k,none⟩) hblt).trans hu
     have HR:=Lib.hid (hr.below HB.out)
     have hll:=HLL.out _ (List.getElem_mem hlt)
     have HOW:=Lib.hid hown
     have HEA:=Lib.hid heach
     have HND:=Lib.hid hnd
     have HGL:=Lib.hid hgl
     clear hc hu hr hown heach hnd hgl HX
     go_wp2_with fail
     refine (twinJ_any a1 n1 c1 L[k] wr hll HR.out).mono ?_
     rintro e w2 ⟨rfl,hb2,ht2⟩
     have hown2:=owns_below HOW.out hb2
     have HT2:=Lib.hid ht2
     have HB2:=Lib.hid hb2
     have hsz2:w.heap.size≤w2.heap.size:=Nat.le_trans hsz hb2.size
     clear ht2 hb2
     go_wp2_with (first
       | (at_builtin;refine wpList_append_fits _ rfl _ _ 23 rfl w.heap.size 22 i0 1 Tryz.underlying23 hi hz1 w.heap.size k (L.length+1) _ rfl (hown2.alloc _) ⟨w2.heap.size,0,none⟩ 1 1 [.slice (some ⟨wr.heap.size,0,none⟩) L[k].length (L[k].length+1)] rfl rfl (one_at _ _ _) (one_cell _ rfl) (by omega) ?_;intro w3 hown3 hg3)
       | fail)
     have HB3:Hid (Below w.heap.size w w3):=Lib.hid (((HB.out.trans (HB2.out.mono hsz)).alloc hsz2 _).grown hg3 (by simp;omega) (by simp))
     have hrowlt:w.heap.size<wr.heap.size:=(HOW.out.lt w.heap.size rfl).2
     have HX3:Hid (∃ gs,gs.length=k+1∧w3.ownsRow w.heap.size 22 1 (.slice (some ⟨w.heap.size,0,none⟩) (k+1) (L.length+1)) (k+1) (uslices gs (L.take (k+1)))∧(∀ i (h1:i<gs.length) (h2:i<L.length),TwJ w3 gs[i] L[i]∧w.heap.size≤gs[i])∧(∀ i j (hi:i<gs.length) (hj:j<gs.length),i≠j→gs[i]≠gs[j])):=Lib.hid (by
       have hrb:∀ {x:Nat} {l:List Int},TwJ w2 x l→TwJ w3 x l:=fun {x l} hx=>by
         have h1:TwJ (w2.alloc (.cells #[.slice (some ⟨wr.heap.size,0,none⟩) L[k].length (L[k].length+1)] 22)) x l:=below_heap ((Below.refl _ _).alloc (Nat.le_refl _) _) hx (lt_of_heap hx)
         refine (hg3.block x (lt_of_heap h1) (fun e => ?_)).trans h1
         have hxe:x=w.heap.size:=by simpa [Value.ownBlock] using e
         obtain ⟨cur,hcu⟩:=owns_block hown2 (k:=w.heap.size) rfl
         rw [← hxe] at hcu
         have hx':w2.heap[x]?=_:=hx
         rw [hcu] at hx'
         have:=(Obj.cells.inj (Option.some.inj hx')).2.1
         revert this;decide
       have hkt:∀ i (hi:i<gs.length),TwJ w2 gs[i] (L[i]'(by have:=HGL.out;omega)):=fun i hi=>by
         have hx:=(HEA.out i hi (by have:=HGL.out;omega)).1
         exact below_heap HB2.out hx (lt_of_heap hx)
       refine ⟨gs ++ [wr.heap.size],by simp [HGL.out],?_,fun i h1 h2 => ?_,fun i j hi hj hij => ?_⟩
       · rw [uslices_snoc gs L k _ HGL.out hlt];exact hown3
       · by_cases hik:i<gs.length
         · rw [List.getElem_append_left hik]
           exact ⟨hrb (hkt i hik),(HEA.out i hik h2).2⟩
         · have hik2:i=gs.length:=by simp at h1;omega
           subst hik2
           have e1:(gs ++ [wr.heap.size])[gs.length]=wr.heap.size:=by rw [List.getElem_append_right (Nat.le_refl _)];simp
           rw [e1]
           refine ⟨hrb ?_,hsz⟩
           have:=HT2.out
           have hg:=HGL.out
           subst hg
           exact this
       · have hlt2:∀ i (hi:i<gs.length),gs[i]<wr.heap.size:=fun i hi=>lt_of_heap (HEA.out i hi (by have:=HGL.out;omega)).1
         by_cases hik:i<gs.length
         · rw [List.getElem_append_left hik]
           by_cases hjk:j<gs.length
           · rw [List.getElem_append_left hjk];exact HND.out i j hik hjk hij
           · rw [List.getElem_append_right (by omega)]
             have:=hlt2 i hik
             simp;omega
         · rw [List.getElem_append_right (by omega)]
           have hjk:j<gs.length:=by simp at hi hj;omega
           rw [List.getElem_append_left hjk]
           have:=hlt2 j hjk
           simp;omega)
     clear hown3 hg3 hown2 HB2 HT2 HOW HEA HND HGL
     go_wp2_with fail
     go_roundw
     case rel=>exact ⟨k+1,by omega,by go_num,rfl,HB3,HX3⟩
     case measure=>have:=HM.out;simp [intOf];omega
   · have hkk:k=L.length:=by omega
     subst hkk
     have HGG:=Lib.hid (show True from trivial)
     have hkk:¬ L.length<L.length:=hlt
     have ho2:=((hown.alloc (.cells #[.int .i64 77] 3)).alloc (.cells #[.slice (some ⟨wr.heap.size,0,none⟩) 1 1] 22))
     have HO2:=Lib.hid ho2
     have hGS:Hid (∃ gs:List Nat,wr.ownsRow w.heap.size 22 1 (.slice (some ⟨w.heap.size,0,none⟩) L.length (L.length+1)) L.length (uslices gs (L.take L.length))):=Lib.hid ⟨gs,hown⟩
     clear ho2 HGG hGS
     have hone:∀ j u,[Value.slice (some ⟨wr.heap.size,0,none⟩) 1 1][j]?=some u→((wr.alloc (.cells #[.int .i64 77] 3)).alloc (.cells #[.slice (some ⟨wr.heap.size,0,none⟩) 1 1] 22)).cell? ((⟨wr.heap.size+1,0,none⟩:Addr).add j)=some u:=by
       have:=one_at (wr.alloc (.cells #[.int .i64 77] 3)) (.slice (some ⟨wr.heap.size,0,none⟩) 1 1) 22
       rwa [show (wr.alloc (.cells #[.int .i64 77] 3)).heap.size=wr.heap.size+1 by simp] at this
     have HONE:=Lib.hid hone
     have HOWN:=Lib.hid hown
     have HEA:=Lib.hid heach
     have HND:=Lib.hid hnd
     have HGL:=Lib.hid hgl
     clear hone hown heach hnd hgl HX
     go_wp2_with (first
       | (at_builtin;refine wpList_append_fits _ rfl _ _ 23 rfl w.heap.size 22 i0 1 Tryz.underlying23 hi hz1 w.heap.size L.length (L.length+1) _ rfl HO2.out ⟨wr.heap.size+1,0,none⟩ 1 1 [.slice (some ⟨wr.heap.size,0,none⟩) 1 1] rfl rfl HONE.out (one_cell _ rfl) (by omega) ?_;intro w3 hown3 hg3)
       | fail)
     have hW2:Below wr.heap.size wr ((wr.alloc (.cells #[.int .i64 77] 3)).alloc (.cells #[.slice (some ⟨wr.heap.size,0,none⟩) 1 1] 22)):=((Below.refl _ _).alloc (Nat.le_refl _) _).alloc (by simp) _
     have HB3:Hid (Below w.heap.size w w3):=Lib.hid ((HB.out.trans (hW2.mono hsz)).grown hg3 (Nat.le_trans hsz hW2.size) (by simp))
     have HX3:Hid (∃ g gs gz,Value.slice (some ⟨w.heap.size,0,none⟩) L.length (L.length+1)=.slice (some ⟨g,0,none⟩) L.length (L.length+1)∧TwK w3 w.heap.size g gs gz L):=Lib.hid (by
       have hgl:=HGL.out
       have hown:=HOWN.out
       have heach:=HEA.out
       have hnd:=HND.out
       have hrow3:=row_of_own1 hown3
       have hkeep:∀ {x:Nat} {C:Array Value},wr.heap[x]?=some (.cells C 3 (0,0))→w3.heap[x]?=some (.cells C 3 (0,0)):=fun {x C} hx=>by
         have h1:=below_heap hW2 hx (lt_of_heap hx)
         refine (hg3.block x (lt_of_heap h1) (fun e => ?_)).trans h1
         have hxe:x=w.heap.size:=by simpa [Value.ownBlock] using e
         obtain ⟨cur,hcu⟩:=owns_block hown (k:=w.heap.size) rfl
         rw [← hxe,hx] at hcu
         have:=(Obj.cells.inj (Option.some.inj hcu)).2.1
         revert this;decide
       have hz2:((wr.alloc (.cells #[.int .i64 77] 3)).alloc (.cells #[.slice (some ⟨wr.heap.size,0,none⟩) 1 1] 22)).heap[wr.heap.size]?=some (.cells #[.int .i64 77] 3 (0,0)):=below_heap ((Below.refl _ _).alloc (Nat.le_refl _) _) (heap_new _ _) (lt_of_heap (heap_new _ _))
       have hz3:w3.heap[wr.heap.size]?=some (.cells #[.int .i64 77] 3 (0,0)):=by
         refine (hg3.block _ (lt_of_heap hz2) (fun e => ?_)).trans hz2
         have hxe:wr.heap.size=w.heap.size:=by simpa [Value.ownBlock] using e
         have:=(hown.lt w.heap.size rfl).2
         omega
       rw [List.take_length] at hrow3
       refine ⟨_,gs,wr.heap.size,rfl,⟨?_,hgl,fun i h1 h2=>⟨hkeep (heach i h1 h2).1,(heach i h1 h2).2⟩,hnd,hz3,Nat.le_refl _⟩⟩
       exact hrow3.1)
     clear hown3 hg3 hW2
     go_wp2_with fail
     go_ret
     obtain ⟨g,gs,gz,e,hT⟩:=HX3.out
     exact ⟨g,gs,gz,by rw [← e];rfl,HB3.out,hT⟩
set_option maxHeartbeats 2000000 in
theorem leftK_any (g:Nat) (gs:List Nat) (gz B:Nat) (a:Option Addr) (m cap:Nat) (L:List (List Int)) (w:World) (hm:L.length≤2000000) (hl:∀ l ∈ L,l.length≤1000000000) (h:IsIL w a m cap L) (ht:TwK w B g gs gz L) :
   Calls Tryz.prog 41 #[.slice (some ⟨g,0,none⟩) L.length (L.length+1),.slice a m cap] w fun e w' => e=.returned (.bool true)∧Below w.heap.size w w':=by
 obtain ⟨rfl,h1,h2,h4⟩:=h
 have H4:=Lib.hid h4
 have HLL:=Lib.hid hl
 have HT:=Lib.hid ht
 clear h4 hl ht
 have c1:((L.length:Int) != (L.length:Int))=false:=by simp
 have c2:decide ((L.length:Int)+1≤(L.length:Int))=false:=by simp;omega
 have c3:decide (L.length+1≤L.length)=false:=by simp
 go_enter Tryz.func41,Tryz.ntmps41
 go_wp2_with fail
 obtain ⟨M,hM⟩:∃ M,M=L.length:=⟨_,rfl⟩
 have HM:=Lib.hid hM
 clear hM
 go_loopw [5] (fun i wr => ∃ k:Nat,k≤L.length∧i=.int .i64 k∧Hid (Below w.heap.size w wr)) (fun i _=>M - (intOf i).toNat)
 case atStart=>exact ⟨0,Nat.zero_le _,rfl,Lib.hid (Below.refl _ _)⟩
 case round =>
   obtain ⟨k,hk,rfl,HB⟩:=hrel
   have HTR:=Lib.hid (HT.out.below HB.out)
   by_cases hlt:k<L.length
   · obtain ⟨b,off,rfl,hblt,hc⟩:∃ b off,a=some ⟨b,off,none⟩∧b<w.heap.size∧∀ i (h:i<L.length),∃ x y z,w.cell? ⟨b,off+i,none⟩=some (.slice x y z)∧IsI w x y z L[i]:=by
       rcases H4.out with h | h
       · rw [h] at hlt;simp at hlt
       · exact h
     obtain ⟨a1,n1,c1',hu,hr⟩:=hc k hlt
     obtain rfl:=hr.1
     have hu2:=(HB.out.cell (p:=⟨b,off+k,none⟩) hblt).trans hu
     have hkg:k<gs.length:=by rw [HT.out.len];exact hlt
     have hrow:wr.cell? ⟨g,k,none⟩=some (.slice (some ⟨gs[k],0,none⟩) L[k].length (L[k].length+1)):=by
       rw [cell_of_block HTR.out.row,List.getElem?_toArray,List.getElem?_append_left (by rw [uslices_length _ _ HT.out.len];exact hlt),uslices_get gs L k hkg hlt]
     have hll:=HLL.out _ (List.getElem_mem hlt)
     have HR:=Lib.hid ((hr.below HB.out).below ((Below.refl wr.heap.size wr).drew))
     have HTB:Hid (IsTwinI wr.drew gs[k] L[k]):=Lib.hid ((HTR.out.each k hkg hlt).1.twin.below ((Below.refl wr.heap.size wr).drew))
     have hud:wr.drew.cell? ⟨b,off+k,none⟩=some (.slice a1 L[k].length c1'):=hu2
     have hrd:wr.drew.cell? ⟨g,k,none⟩=some (.slice (some ⟨gs[k],0,none⟩) L[k].length (L[k].length+1)):=hrow
     clear hc hu hr c1 c2 c3
     go_wp2_with fail
     go_region_held3 (fun w' => w'.cell? ⟨b,off+k,none⟩=some (.slice a1 L[k].length c1')∧w'.cell? ⟨g,k,none⟩=some (.slice (some ⟨gs[k],0,none⟩) L[k].length (L[k].length+1))) (first | with_reducible exact ⟨hud,hrd⟩ | exact ⟨cell_later hb3 hud,cell_later hb3 hrd⟩) (first
       | (go_at_call 18;((with_reducible refine (leftI_any gs[k] a1 L[k].length c1' L[k] wr.drew hll HR.out HTB.out).mono ?_);rintro e w3 ⟨rfl,hb3⟩))
       | fail)
     have HB3:=Lib.hid (HB.out.trans ((((Below.refl wr.heap.size wr).drew).trans hb3).mono HB.out.size))
     clear hb3 hud hrd hu2 hrow HR HTB
     go_wp2_with fail
     go_roundw
     case rel=>exact ⟨k+1,by omega,by go_num,HB3⟩
     case measure=>have:=HM.out;simp [intOf];omega
   · have hkk:k=L.length:=by omega
     subst hkk
     have hkk:¬ L.length<L.length:=hlt
     have hr1:wr.cell? ⟨g,L.length,none⟩=some (.slice (some ⟨gz,0,none⟩) 1 1):=by
       rw [cell_of_block HTR.out.row,List.getElem?_toArray,List.getElem?_append_right (by rw [uslices_length _ _ HT.out.len];exact Nat.le_refl _),uslices_length _ _ HT.out.len,Nat.sub_self];rfl
     have hr2:wr.cell? ⟨gz,0,none⟩=some (.int .i64 77):=by rw [cell_of_block HTR.out.z];rfl
     go_wp2
     go_ret
     exact ⟨rfl,HB.out⟩
end Go.Proofs.YtmmmjohoihpbeaaGreat
