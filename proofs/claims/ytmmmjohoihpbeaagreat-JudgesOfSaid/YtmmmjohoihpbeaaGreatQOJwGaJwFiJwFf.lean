/- The package markets: Gains;conditions: those typed. -/
import Derived.Test.YtmmmjohoihpbeaaGreatQOJwMbJmhJwMcJmjJrHJmk
namespace Go.Proofs.YtmmmjohoihpbeaaGreat
section
open Go.RowKit Go.Shelf
set_option linter.unusedVariables false
set_option linter.unusedSimpArgs false
attribute [local go_sem] Oper.semAt_some
def gnR (r bid:List Int):List Int:=(List.range r.length).map fun k=>if bid=[] then -1 else bid.getD k 0 - r.getD k 0
def gnL (r:List Int) (b:List (List Int)):List (List Int):=b.map (gnR r)
theorem gnR_length (r bid:List Int):(gnR r bid).length=r.length:=by simp [gnR]
theorem gnL_length (r:List Int) (b:List (List Int)):(gnL r b).length=b.length:=by simp [gnL]
theorem gnR_at {r bid:List Int} {k:Nat} (hk:k<r.length):(gnR r bid).getD k 0=if bid=[] then -1 else bid.getD k 0 - r.getD k 0:=by
 rw [getD_get (by rw [gnR_length];exact hk)];simp [gnR]
theorem gnL_at {r:List Int} {b:List (List Int)} {i:Nat} (hi:i<b.length):(gnL r b).getD i []=gnR r b[i]:=by
 rw [getD_get (by rw [gnL_length];exact hi)];simp [gnL]
theorem gL_gnL {r:List Int} {b:List (List Int)} {i k:Nat} (hi:i<b.length) (hk:k<r.length):gL (gnL r b) i k=JM.gn r b i k:=by
 unfold gL JM.gn
 rw [gnL_at hi,gnR_at hk,getD_get hi]
theorem gnL_ok {r:List Int} {b:List (List Int)} (h:JM.MkOk r b):GnOk (gnL r b) r.length:=by
 refine ⟨h.hk.1,h.hk.2,by rw [gnL_length];exact h.hn.2,fun l hl => ?_⟩
 obtain ⟨bid,hb,rfl⟩:=List.mem_map.1 hl
 obtain ⟨i,hi,rfl⟩:=List.getElem_of_mem hb
 refine ⟨gnR_length _ _,fun z hz => ?_⟩
 obtain ⟨k,hk,rfl⟩:=List.mem_map.1 hz
 have hk:=List.mem_range.1 hk
 have h1:=h.hr k hk
 by_cases he:b[i]=[]
 · rw [if_pos he];omega
 · rw [if_neg he]
   have h2:=(h.hb i hi (by rw [getD_get hi];exact he)).2 k hk
   rw [getD_get hi] at h2
   omega
def GnRows (w:World) (B i:Nat) (r:List Int) (b:List (List Int)):Prop:=∃ C:Array Value,w.heap[B]?=some (.cells C 22 (0,0))∧C.size=b.length∧∀ j (h:j<b.length),j<i→∃ rb,C[j]?=some (.slice (some ⟨rb,0,none⟩) r.length r.length)∧rb≠B∧w.heap[rb]?=some (.cells (fnA r.length (fun k=>(gnR r b[j]).getD k 0)) 3 (0,0))
theorem GnRows.lt {w:World} {B i:Nat} {r:List Int} {b:List (List Int)} (h:GnRows w B i r b):B<w.heap.size:=by obtain ⟨C,h1,_⟩:=h;exact lt_of_heap h1
theorem GnRows.cell {w:World} {B i:Nat} {r:List Int} {b:List (List Int)} (h:GnRows w B i r b) (j:Nat) (hj:j<b.length):(∃ v,w.cell? ⟨B,j,none⟩=some v)∧w.frozen? ⟨B,j,none⟩=false:=by
 obtain ⟨C,h1,h2,_⟩:=h
 refine ⟨⟨C[j]'(by omega),?_⟩,blk_free h1⟩
 rw [cell_of_block h1,Array.getElem?_eq_getElem (by omega)]
theorem GnRows.isII {w:World} {B:Nat} {r:List Int} {b:List (List Int)} (h:GnRows w B b.length r b) (hk:r.length≤8) (hn:b.length≤8):IsII w (some ⟨B,0,none⟩) b.length b.length (gnL r b):=by
 obtain ⟨C,h1,h2,h3⟩:=h
 refine ⟨(gnL_length _ _).symm,Nat.le_of_eq (gnL_length _ _),by unfold maxLen;omega,.inr ⟨B,0,rfl,lt_of_heap h1,fun i hi => ?_⟩⟩
 rw [gnL_length] at hi
 obtain ⟨rb,h4,h5,h6⟩:=h3 i hi hi
 refine ⟨_,_,_,by rw [cell_of_block h1,Nat.zero_add];exact h4,?_⟩
 have e:(gnL r b)[i]'(by rw [gnL_length];exact hi)=gnR r b[i]:=by simp [gnL]
 rw [e]
 refine ⟨(gnR_length _ _).symm,Nat.le_of_eq (gnR_length _ _),by unfold maxLen;omega,.inr ⟨rb,0,rfl,lt_of_heap h6,fun k hk => ?_⟩⟩
 rw [gnR_length] at hk
 rw [cell_of_block h6,Nat.zero_add,fnA_get _ hk,getD_get (by rw [gnR_length];exact hk)]
theorem GnRows.step {w w2 w3:World} {B i R:Nat} {r:List Int} {b:List (List Int)} (h:GnRows w B i r b) (hi:i<b.length) (hR:w.heap.size≤R) (hb:Below w.heap.size w w2) (ht:Touch (fun k=>k=R) (w2.setCell ⟨B,i,none⟩ (.slice (some ⟨R,0,none⟩) r.length r.length)) w3) (hv:w3.heap[R]?=some (.cells (fnA r.length (fun k=>(gnR r b[i]).getD k 0)) 3 (0,0))):GnRows w3 B (i+1) r b:=by
 have hlt:=h.lt
 obtain ⟨C,h1,h2,h3⟩:=h
 refine ⟨C.setIfInBounds i (.slice (some ⟨R,0,none⟩) r.length r.length),ht.heap (heap_setCell_same w2 B i _ _ _ (below_heap hb h1 hlt)) (by omega),by simp [h2],fun j hj hji => ?_⟩
 by_cases e:i=j
 · subst e
   exact ⟨R,by simp [h2,hi],by omega,hv⟩
 · obtain ⟨rb,h4,h5,h6⟩:=h3 j hj (by omega)
   have hrb:=lt_of_heap h6
   exact ⟨rb,by rw [Array.getElem?_setIfInBounds,if_neg e];exact h4,h5,ht.heap ((Below.heap_setCell w2 ⟨B,i,none⟩ _ rb h5).trans (below_heap hb h6 hrb)) (by omega)⟩
def rowF (r bid:List Int) (k x:Nat):Int:=if x<k then (gnR r bid).getD x 0 else 0
theorem rowF_zero (r bid:List Int):rowF r bid 0=fun _=>0:=by funext x;simp [rowF]
theorem rowF_full (r bid:List Int):fnA r.length (rowF r bid r.length)=fnA r.length (fun k=>(gnR r bid).getD k 0):=fnA_congr fun i hi=>by unfold rowF;rw [if_pos hi]
theorem rowF_succ (r bid:List Int) (k:Nat):updF (rowF r bid k) k ((gnR r bid).getD k 0)=rowF r bid (k+1):=by
 funext x
 unfold updF rowF
 by_cases e:x=k
 · subst e;rw [if_pos rfl,if_pos (Nat.lt_succ_self _)]
 · rw [if_neg e]
   by_cases h:x<k
   · rw [if_pos h,if_pos (by omega)]
   · rw [if_neg h,if_neg (by omega)]
theorem updF_updF (f:Nat→Int) (k:Nat) (u v:Int):updF (updF f k u) k v=updF f k v:=by
 funext x;unfold updF;by_cases e:x=k <;> simp [e]
set_option maxRecDepth 100000 in
set_option maxHeartbeats 8000000 in
theorem gains_any (x:MkA) (m:MkC) (w:World) (h:MkT w x m) :
   Calls Tryz.prog 31 #[.agg x.cells.toArray] w fun e W => ∃ B,e=.returned (.tuple #[.slice (some ⟨B,0,none⟩) m.b.length m.b.length,.int .i64 0])∧Below w.heap.size w W∧IsII W (some ⟨B,0,none⟩) m.b.length m.b.length (gnL m.r m.b)∧w.heap.size≤B:=by
 obtain ⟨ra,rn,rc,ba,bn,bc,bv,oa,on,oc⟩:=x
 have hr:=h.r
 have hbb:=h.b
 have ho:=h.o
 unfold MkA.cells
 dsimp only at hr hbb ho ⊢
 obtain rfl:=hr.1
 obtain rfl:=hbb.1
 obtain rfl:=ho.1
 obtain ⟨b1,b2,b3,b4,b5⟩:=mktB_bd h.ok
 have hmo:=mktB_ok h.ok
 have hk8:=hmo.hk.2
 have hmk:=make_lists m.b.length (by omega)
 have hmi:=make_ints m.r.length (by omega)
 have HB5:=Lib.hid b5
 have HOK:=Lib.hid h.ok
 have HRB:=Lib.hid hmo.hr
 have hb0:Below w.heap.size w (w.alloc (.cells #[.slice ra m.r.length rc,.slice ba m.b.length bc,.slice oa m.o.length oc] 25)):=(Below.refl _ _).alloc (Nat.le_refl _) _
 have hv:=heap_new w (.cells #[.slice ra m.r.length rc,.slice ba m.b.length bc,.slice oa m.o.length oc] 25 (0,0))
 have HV:=Lib.hid (h.v.below hb0)
 have HI:=Lib.hid (hbb.below hb0)
 have HR:=Lib.hid (hr.below hb0)
 clear h hr hbb ho b1 b4 b5 hmo
 go_enter Tryz.func31,Tryz.ntmps31
 go_wp2_with fail
 generalize w.alloc (.cells #[.slice ra m.r.length rc,.slice ba m.b.length bc,.slice oa m.o.length oc] 25)=W at hb0 hv HV HI HR ⊢
 have c0:W.cell? ⟨w.heap.size,0,none⟩=some (.slice ra m.r.length rc):=by rw [cell_of_block hv];rfl
 have c1:W.cell? ⟨w.heap.size,1,none⟩=some (.slice ba m.b.length bc):=by rw [cell_of_block hv];rfl
 have c2:W.cell? ⟨w.heap.size,2,none⟩=some (.slice oa m.o.length oc):=by rw [cell_of_block hv];rfl
 have HB0:=Lib.hid hb0
 clear hb0 hv
 go_wp2_with fail
 refine (mcheck_any _ ⟨ra,m.r.length,rc,ba,m.b.length,bc,bv,oa,m.o.length,oc⟩ m W HV.out (by omega)).mono ?_;rintro e w1 ⟨rfl,hb1⟩
 rw [HOK.out]
 have HB1:=Lib.hid (HB0.out.trans (hb1.mono HB0.out.size))
 have HI1:=Lib.hid (HI.out.below hb1)
 have HR1:=Lib.hid (HR.out.below hb1)
 have k0:w1.cell? ⟨w.heap.size,0,none⟩=some (.slice ra m.r.length rc):=cell_later hb1 c0
 have k1:w1.cell? ⟨w.heap.size,1,none⟩=some (.slice ba m.b.length bc):=cell_later hb1 c1
 have hbw:=HB1.out.size
 have hlw:w.heap.size<w1.heap.size:=by obtain ⟨h1,h2⟩:=addr_of_cell k0;exact h2
 clear hb1 c0 c1 c2 HI HR HB0 HV
 have a1:=cell_alloc k1 (.cells (Array.replicate m.b.length (.slice none 0 0)) 22 (0,0))
 go_wp2_with fail
 have hb2:Below w1.heap.size w1 (w1.alloc (.cells (Array.replicate m.b.length (.slice none 0 0)) 22 (0,0))):=(Below.refl _ _).alloc (Nat.le_refl _) _
 have hv2:=heap_new w1 (.cells (Array.replicate m.b.length (.slice none 0 0)) 22 (0,0))
 generalize w1.alloc (.cells (Array.replicate m.b.length (.slice none 0 0)) 22 (0,0))=W2 at a1 hb2 hv2 ⊢
 obtain ⟨B,hB⟩:∃ B,B=w1.heap.size:=⟨_,rfl⟩
 have HQ0:Hid (GnRows W2 B 0 m.r m.b∧Below w1.heap.size w1 W2):=Lib.hid ⟨⟨_,by rw [hB];exact hv2,by simp,fun j hj h=>by omega⟩,hb2⟩
 rw [← hB]
 have HBB:Hid (w1.heap.size≤B):=Lib.hid (by omega)
 clear hb2 hv2 hB
 go_wp2_with fail
 go_loopw [19] (fun i wr => ∃ j:Nat,j≤m.b.length∧i=.int .i64 (j:Int)∧Hid (GnRows wr B j m.r m.b∧Below w1.heap.size w1 wr)) (fun i _=>m.b.length - (intOf i).toNat)
 case atStart=>exact ⟨0,Nat.zero_le _,rfl,HQ0⟩
 case round =>
   obtain ⟨j,hj,rfl,HQ⟩:=hrel
   by_cases hlt:j<m.b.length
   · obtain ⟨b,off,x,y,z,rfl,hb,hc,hI⟩:=HI1.out.at j hlt
     have ck:wr.cell? ⟨b,off+j,none⟩=some (.slice x y z):=(HQ.out.2.cell (p:=⟨b,off+j,none⟩) hb).trans hc
     have kr:wr.cell? ⟨w.heap.size,0,none⟩=some (.slice ra m.r.length rc):=cell_later HQ.out.2 k0
     obtain ⟨⟨ov,hov⟩,hof⟩:=HQ.out.1.cell j hlt
     have hb3:Below wr.heap.size wr (wr.alloc (.cells (fnA m.r.length (fun _=>0)) 3 (0,0))):=(Below.refl _ _).alloc (Nat.le_refl _) _
     have hv3:=heap_new wr (.cells (fnA m.r.length (fun _=>0)) 3 (0,0))
     have kr3:=cell_alloc kr (.cells (fnA m.r.length (fun _=>0)) 3 (0,0))
     have ov3:=cell_alloc hov (.cells (fnA m.r.length (fun _=>0)) 3 (0,0))
     have of3:(wr.alloc (.cells (fnA m.r.length (fun _=>0)) 3 (0,0))).frozen? ⟨B,j,none⟩=false:=by
       obtain ⟨C,h1,_⟩:=HQ.out.1
       exact blk_free (below_heap hb3 h1 (lt_of_heap h1))
     have HJ:=Lib.hid hI
     have HBJ:Hid (bidB (m.r.length:Int) m.b[j]=true):=Lib.hid (HB5.out _ (List.getElem_mem hlt))
     have HST:Hid (∀ w3,Touch (fun k=>k=wr.heap.size) ((wr.alloc (.cells (fnA m.r.length (fun _=>0)) 3 (0,0))).setCell ⟨B,j,none⟩ (.slice (some ⟨wr.heap.size,0,none⟩) m.r.length m.r.length)) w3→w3.heap[wr.heap.size]?=some (.cells (fnA m.r.length (fun k=>(gnR m.r m.b[j]).getD k 0)) 3 (0,0))→GnRows w3 B (j+1) m.r m.b):=Lib.hid (fun w3 h1 h2=>HQ.out.1.step hlt (Nat.le_refl _) hb3 h1 h2)
     generalize m.b[j]=bid at HJ HBJ HST
     have hbB:Below w1.heap.size w1 ((wr.alloc (.cells (fnA m.r.length (fun _=>0)) 3 (0,0))).setCell ⟨B,j,none⟩ (.slice (some ⟨wr.heap.size,0,none⟩) m.r.length m.r.length)):=(HQ.out.2.trans (hb3.mono HQ.out.2.size)).setCell (p:=⟨B,j,none⟩) HBB.out _
     have hBlt:B<wr.heap.size:=HQ.out.1.lt
     have v4:((wr.alloc (.cells (fnA m.r.length (fun _=>0)) 3 (0,0))).setCell ⟨B,j,none⟩ (.slice (some ⟨wr.heap.size,0,none⟩) m.r.length m.r.length)).heap[wr.heap.size]?=some (.cells (fnA m.r.length (rowF m.r bid 0)) 3 (0,0)):=by
       rw [rowF_zero];exact (Below.heap_setCell _ ⟨B,j,none⟩ _ wr.heap.size (by show wr.heap.size≠B;omega)).trans hv3
     have kr4:((wr.alloc (.cells (fnA m.r.length (fun _=>0)) 3 (0,0))).setCell ⟨B,j,none⟩ (.slice (some ⟨wr.heap.size,0,none⟩) m.r.length m.r.length)).cell? ⟨w.heap.size,0,none⟩=some (.slice ra m.r.length rc):=cell_later hbB k0
     have kB4:((wr.alloc (.cells (fnA m.r.length (fun _=>0)) 3 (0,0))).setCell ⟨B,j,none⟩ (.slice (some ⟨wr.heap.size,0,none⟩) m.r.length m.r.length)).cell? ⟨B,j,none⟩=some (.slice (some ⟨wr.heap.size,0,none⟩) m.r.length m.r.length):=by
       obtain ⟨C,h1,h2,_⟩:=HQ.out.1
       rw [cell_of_block (heap_setCell_same _ B j _ _ _ (below_heap hb3 h1 hBlt))]
       simp [h2,hlt]
     obtain ⟨R,hR⟩:∃ R,wr.heap.size=R:=⟨_,rfl⟩
     have HBR:Hid (B<R):=Lib.hid (by omega)
     clear hc hI hBlt
     rw [hR] at HST kr4 kB4 v4 hbB
     go_wp2_with fail
     clear kr kr3 ov3 of3 hv3 hb3 hof hov ck hR
     generalize ((wr.alloc (.cells (fnA m.r.length (fun _=>0)) 3 (0,0))).setCell ⟨B,j,none⟩ (.slice (some ⟨R,0,none⟩) m.r.length m.r.length))=W4 at HST kr4 kB4 v4 hbB ⊢
     have HB4:=Lib.hid hbB
     have HV4:=Lib.hid v4
     clear hbB v4
     go_loopw [34] (fun i wq => ∃ k:Nat,k≤m.r.length∧i=.int .i64 (k:Int)∧Hid (Touch (fun q=>q=R) W4 wq∧wq.heap[R]?=some (.cells (fnA m.r.length (rowF m.r bid k)) 3 (0,0)))) (fun i _=>m.r.length - (intOf i).toNat)
     case atStart=>exact ⟨0,Nat.zero_le _,rfl,Lib.hid ⟨Touch.refl _ _,HV4.out⟩⟩
     case round =>
       obtain ⟨k,hk,rfl,HK⟩:=hrel
       by_cases hkl:k<m.r.length
       · have HR4:=Lib.hid (HR1.out.below (HB4.out.trans (HK.out.1.below HB4.out.size (fun q hq e=>by have:=HBR.out;have:=HBB.out;omega))))
         obtain ⟨b5,o5,rfl,_,c5⟩:=HR4.out.at k hkl
         have kB5:wr.cell? ⟨B,j,none⟩=some (.slice (some ⟨R,0,none⟩) m.r.length m.r.length):=HK.out.1.cell kB4 (by show B≠R;have:=HBR.out;omega)
         have cR:wr.cell? ⟨R,k,none⟩=some (.int .i64 (rowF m.r bid k k)):=by rw [cell_of_block HK.out.2,fnA_get _ hkl]
         have zR:wr.frozen? ⟨R,k,none⟩=false:=blk_free HK.out.2
         generalize rowF m.r bid k k=old at cR
         have hrk:=HRB.out k hkl
         rw [getD_get hkl] at hrk
         by_cases hbe:bid=[]
         · have hlen:bid.length=0:=by rw [hbe];rfl
           have hy:=HJ.out.1
           rw [hlen] at hy
           subst hy
           have HK2:Hid (Touch (fun q=>q=R) W4 (wr.setCell ⟨R,k,none⟩ (.int .i64 (-1)))∧(wr.setCell ⟨R,k,none⟩ (.int .i64 (-1))).heap[R]?=some (.cells (fnA m.r.length (rowF m.r bid (k+1))) 3 (0,0))):=Lib.hid ⟨HK.out.1.setCell _ _ (.inl rfl),by
             have e1:=heap_setCell_same wr R k _ _ (.int .i64 (-1)) HK.out.2
             rw [fnA_set _ hkl] at e1
             rw [e1,← rowF_succ,gnR_at hkl,if_pos hbe]⟩
           clear hbe hlen
           go_wp2_with fail
           go_roundw
           case rel=>exact ⟨k+1,by omega,by go_num,HK2⟩
           case measure=>simp [intOf];omega
         · have hbl:bid.length=m.r.length:=by
             obtain ⟨_,q2,_⟩:=bidB_bd HBJ.out
             have:=(okB_bd (q2 (fun e=>hbe (List.eq_nil_of_length_eq_zero e)))).2.2.1
             exact this
           have hkb:k<bid.length:=by omega
           have hbb:=(bidB_bd HBJ.out).2.2 _ (List.getElem_mem hkb)
           have HJ4:=Lib.hid (HJ.out.below (HB4.out.trans (HK.out.1.below HB4.out.size (fun q hq e=>by have:=HBR.out;have:=HBB.out;omega))))
           obtain ⟨b6,o6,rfl,hb6,c6⟩:=HJ4.out.at k hkb
           have hne6:b6≠R:=by
             rcases HJ.out.2.2.2 with ⟨h0,_⟩ | ⟨b7,o7,e7,h7,_⟩
             · exact absurd h0 hbe
             · cases e7;have:=HBR.out;have:=HBB.out;omega
           have hy:=HJ.out.1
           rw [hbl] at hy
           subst hy
           have e5:=heap_setCell_same wr R k _ _ (.int .i64 (-1)) HK.out.2
           have kB6:(wr.setCell ⟨R,k,none⟩ (.int .i64 (-1))).cell? ⟨B,j,none⟩=some (.slice (some ⟨R,0,none⟩) m.r.length m.r.length):=by
             rw [World.cell?_setCell_other _ _ _ _ (by have:=HBR.out;simp <;> omega)];exact kB5
           have c66:(wr.setCell ⟨R,k,none⟩ (.int .i64 (-1))).cell? ⟨b6,o6+k,none⟩=some (.int .i64 bid[k]):=by
             rw [World.cell?_setCell_other _ _ _ _ (by simp <;> omega)];exact c6
           have cR6:(wr.setCell ⟨R,k,none⟩ (.int .i64 (-1))).cell? ⟨R,k,none⟩=some (.int .i64 (-1)):=by
             rw [cell_of_block e5];simp [fnA_size,hkl]
           have zR6:(wr.setCell ⟨R,k,none⟩ (.int .i64 (-1))).frozen? ⟨R,k,none⟩=false:=blk_free e5
           have hsub:wrap64 (bid[k] - m.r[k])=bid[k] - m.r[k]:=by unfold wrap64;omega
           have HK2:Hid (Touch (fun q=>q=R) W4 ((wr.setCell ⟨R,k,none⟩ (.int .i64 (-1))).setCell ⟨R,k,none⟩ (.int .i64 (bid[k] - m.r[k])))∧((wr.setCell ⟨R,k,none⟩ (.int .i64 (-1))).setCell ⟨R,k,none⟩ (.int .i64 (bid[k] - m.r[k]))).heap[R]?=some (.cells (fnA m.r.length (rowF m.r bid (k+1))) 3 (0,0))):=Lib.hid ⟨(HK.out.1.setCell _ _ (.inl rfl)).setCell _ _ (.inl rfl),by
             have e6:=heap_setCell_same (wr.setCell ⟨R,k,none⟩ (.int .i64 (-1))) R k _ _ (.int .i64 (bid[k] - m.r[k])) e5
             rw [fnA_set _ hkl,fnA_set _ hkl,updF_updF] at e6
             rw [e6,← rowF_succ,gnR_at hkl,if_neg hbe,getD_get hkb,getD_get hkl]⟩
           have d1:decide ((0:Int)<(m.r.length:Int))=true:=decide_eq_true (by omega)
           have d2:decide (0<m.r.length)=true:=decide_eq_true (by omega)
           generalize bid[k]=bv' at c6 c66 HK2 hsub hbb
           generalize m.r[k]=rv at c5 HK2 hsub hrk
           have hsub2:IntKind.i64.wrap (bv' - rv)=bv' - rv:=IntWalk.i64_in _ (by omega)
           clear hbe e5 hbl hkb
           go_wp2_with fail
           go_region
           go_wp2_with fail
           go_roundw
           case rel=>exact ⟨k+1,by omega,by go_num,Lib.hid ⟨HK2.out.1.drew,HK2.out.2⟩⟩
           case measure=>simp [intOf];omega
       · have hkk:k=m.r.length:=by omega
         have HE:Hid (GnRows wr B (j+1) m.r m.b):=Lib.hid (HST.out wr HK.out.1 (by have:=HK.out.2;rw [hkk,rowF_full] at this;exact this))
         go_wp2_with fail
         go_roundw
         case rel=>exact ⟨j+1,by omega,by go_num,Lib.hid ⟨HE.out,HB4.out.trans (HK.out.1.below HB4.out.size (fun q hq e=>by have:=HBR.out;have:=HBB.out;omega))⟩⟩
         case measure=>simp [intOf];omega
   · have hjj:j=m.b.length:=by omega
     subst hjj
     go_wp2_with fail
     go_ret2
     exact ⟨B,rfl,HB1.out.trans (HQ.out.2.mono hbw),HQ.out.1.isII hk8 b3,Nat.le_trans hbw HBB.out⟩
end
section
open Go.RowKit Go.Shelf
set_option linter.unusedVariables false
set_option linter.unusedSimpArgs false
attribute [local go_sem] Oper.semAt_some
def TabOk (F:Nat→Int) (K:Nat) (g:Nat→Nat→Int) (ol:List Nat) (d0:Nat):Prop:=∀ d,d0≤d→d≤ol.length→∀ s,s<2 ^ K→F (d*256+s)=JM.fb K g (ol.drop d) s
theorem TabOk.start (K:Nat) (g:Nat→Nat→Int) (ol:List Nat):TabOk (fun _=>0) K g ol ol.length:=fun d h1 h2 s hs=>by
 obtain rfl:d=ol.length:=by omega
 rw [List.drop_length];rfl
theorem TabOk.upd {F:Nat→Int} {K:Nat} {g:Nat→Nat→Int} {ol:List Nat} {d s:Nat} (h:TabOk F K g ol (d+1)) (hs:s<256) (v:Int):TabOk (updF F (d*256+s) v) K g ol (d+1):=fun d' h1 h2 s' hs' => by
 rw [updF_ne _ _ (by omega)];exact h d' h1 h2 s' hs'
def RowTo (F:Nat→Int) (K:Nat) (g:Nat→Nat→Int) (ol:List Nat) (d t:Nat):Prop:=TabOk F K g ol (d+1)∧∀ s,s<t→F (d*256+s)=JM.fb K g (ol.drop d) s
theorem RowTo.full {F:Nat→Int} {K:Nat} {g:Nat→Nat→Int} {ol:List Nat} {d:Nat} (h:RowTo F K g ol d (2 ^ K)):TabOk F K g ol d:=fun d' h1 h2 s hs=>by
 by_cases e:d'=d
 · subst e;exact h.2 s hs
 · exact h.1 d' (by omega) h2 s hs
theorem RowTo.upd {F:Nat→Int} {K:Nat} {g:Nat→Nat→Int} {ol:List Nat} {d t:Nat} (h:RowTo F K g ol d t) (ht:t<256) (v:Int):RowTo (updF F (d*256+t) v) K g ol d t:=⟨h.1.upd ht v,fun s hs=>by rw [updF_ne _ _ (by omega)];exact h.2 s hs⟩
theorem RowTo.succ {F:Nat→Int} {K:Nat} {g:Nat→Nat→Int} {ol:List Nat} {d t:Nat} (h:RowTo F K g ol d t) (hd:d<ol.length) (hv:F (d*256+t)=JM.fk (g ol[d]) (JM.fb K g (ol.drop (d+1))) t K):RowTo F K g ol d (t+1):=⟨h.1,fun s hs=>by
 by_cases e:s=t
 · subst e;rw [hv,List.drop_eq_getElem_cons hd];rfl
 · exact h.2 s (by omega)⟩
theorem fk_bd {f v:Nat→Int} {T:Nat} {B:Int} (hf:∀ k,f k≤1000000) (hv:∀ s,0≤v s∧v s≤B):∀ K,0≤JM.fk f v T K∧JM.fk f v T K≤B+1000000
 | 0=>by have:=hv T;show 0≤v T∧v T≤_;omega
 | k+1=>by
   have h:=fk_bd hf hv (T:=T) k
   have:=hv (T ||| 2 ^ k)
   have:=hf k
   simp only [JM.fk]
   split <;> omega
theorem fb_bd {K:Nat} {g:Nat→Nat→Int} (hg:∀ i k,g i k≤1000000):∀ (l:List Nat) (T:Nat),0≤JM.fb K g l T∧JM.fb K g l T≤(l.length:Int)*1000000
 | [],T=>by show (0:Int)≤0∧(0:Int)≤_;simp
 | i :: l,T=>by
   have h:=fk_bd (T:=T) (hg i) (fun s=>fb_bd (K:=K) hg l s) K
   show 0≤JM.fk _ _ _ _∧JM.fk _ _ _ _≤_
   rw [List.length_cons];omega
theorem ord_bd {n:Nat} {o:List Int} (h:ordC n o=true):o.length=n∧(∀ z ∈ o,0≤z∧z<n)∧o.Nodup∧∀ i:Nat,i<n→(i:Int) ∈ o:=by
 have hp:o.Perm (allC n):=by rw [← ordC_sorted h];exact (sortI_perm o).symm
 refine ⟨by rw [hp.length_eq,allC_length],fun z hz => ?_,hp.nodup_iff.2 (allC_nodup n),fun i hi=>hp.mem_iff.2 (List.mem_map.2 ⟨i,List.mem_range.2 hi,rfl⟩)⟩
 obtain ⟨i,hi,rfl⟩:=List.mem_map.1 (hp.mem_iff.1 hz)
 have:=List.mem_range.1 hi
 exact ⟨Int.natCast_nonneg _,by show ((i:Nat):Int)<n;omega⟩
def oN (o:List Int):List Nat:=o.map Int.toNat
theorem oN_length (o:List Int):(oN o).length=o.length:=by simp [oN]
theorem oN_mem {n:Nat} {o:List Int} (h:ordC n o=true) (i:Nat):i ∈ oN o↔i<n:=by
 obtain ⟨_,h2,_,h4⟩:=ord_bd h
 constructor
 · intro hi
   obtain ⟨z,hz,rfl⟩:=List.mem_map.1 hi
   have:=h2 z hz;omega
 · intro hi;exact List.mem_map.2 ⟨_,h4 i hi,rfl⟩
theorem oN_nodup {n:Nat} {o:List Int} (h:ordC n o=true):(oN o).Nodup:=by
 obtain ⟨_,h2,h3,_⟩:=ord_bd h
 unfold oN
 rw [List.nodup_iff_pairwise_ne,List.pairwise_map]
 rw [List.nodup_iff_pairwise_ne] at h3
 exact h3.imp_of_mem (fun {a b} ha hb hne e=>hne (by have:=h2 a ha;have:=h2 b hb;omega))
set_option maxRecDepth 100000 in
set_option maxHeartbeats 8000000 in
theorem fill_any (NT tb:Nat) (HNT:Hid (NT=2304)) (a ia:Option Addr) (n c on oc:Nat) (G:List (List Int)) (K:Nat) (o:List Int) (w0 w:World) (h:IsII w0 a n c G) (hg:GnOk G K) (ho:IsI w0 ia on oc o) (hoo:ordC G.length o=true) (hb:Below w0.heap.size w0 w) (htb:w0.heap.size≤tb) (ht:w.heap[tb]?=some (.cells (fnA NT (fun _=>0)) 91 (0,0))) :
   Calls Tryz.prog 66 #[.pointer (some ⟨tb,0,none⟩),.slice a n c,.slice ia on oc] w fun e w' => (∃ v,e=.returned v)∧Touch (fun k=>k=tb) w w'∧∃ F,w'.heap[tb]?=some (.cells (fnA NT F) 91 (0,0))∧TabOk F K (gL G) (oN o) 0:=by
 obtain rfl:=h.1
 obtain rfl:=ho.1
 obtain ⟨o1,o2,o3,o4⟩:=ord_bd hoo
 have h1:=hg.k1
 have h8:=hg.k8
 have hn:=hg.n8
 have HI:=Lib.hid h
 have HO:=Lib.hid ho
 have HG:=Lib.hid hg
 have HOB:=Lib.hid o2
 have HBW:=Lib.hid hb
 have HL:=Lib.hid (oN_length o)
 have HT0:Hid (∃ F,w.heap[tb]?=some (.cells (fnA NT F) 91 (0,0))∧TabOk F K (gL G) (oN o) o.length):=Lib.hid ⟨_,ht,by have:=TabOk.start K (gL G) (oN o);rwa [oN_length] at this⟩
 obtain ⟨N,hN⟩:∃ N,N=o.length:=⟨_,rfl⟩
 obtain ⟨P2,hP2⟩:∃ P2:Nat,P2=2 ^ K:=⟨_,rfl⟩
 have hpl:P2≤256:=by rw [hP2];exact Nat.le_trans (Nat.pow_le_pow_right (by decide) h8) (by decide)
 have hsh:wrap64 (2 ^ K)=(P2:Int):=by
   rw [hP2];exact pow_i64 _ (by omega)
 have HP2:=Lib.hid hP2
 have HN:=Lib.hid hN
 have hon:o.length≤8:=by omega
 have HO1:=Lib.hid o1
 clear h hg ho hoo o1 o2 o3 o4 hb ht hP2 hN
 go_enter Tryz.func66,Tryz.ntmps66
 go_wp2_with fail
 go_loopw [6] (fun i wr => ∃ d:Nat,d≤o.length∧i=.int .i64 ((d:Int) - 1)∧Hid (Touch (fun k=>k=tb) w wr∧∃ F,wr.heap[tb]?=some (.cells (fnA NT F) 91 (0,0))∧TabOk F K (gL G) (oN o) d)) (fun i _=>(intOf i+1).toNat)
 case atStart=>exact ⟨o.length,Nat.le_refl _,rfl,Lib.hid ⟨Touch.refl _ _,HT0.out⟩⟩
 case round =>
   obtain ⟨d1,hd1,rfl,HQ⟩:=hrel
   by_cases hlt:0<d1
   · obtain ⟨d,rfl⟩:∃ d,d1=d+1:=⟨d1 - 1,by omega⟩
     have hdl:d<o.length:=by omega
     have hdo:d<(oN o).length:=by rw [oN_length];exact hdl
     obtain ⟨b3,o3,rfl,hb3,hc3⟩:=HO.out.at d hdl
     obtain ⟨q1,q2⟩:=HOB.out _ (List.getElem_mem hdl)
     obtain ⟨i,ei⟩:=Int.eq_ofNat_of_zero_le q1
     have hiG:i<G.length:=by have:=HO1.out;omega
     obtain ⟨b4,o4,x4,y4,z4,rfl,hb4,hc4,hI4⟩:=HI.out.at i hiG
     have hbw:Below w0.heap.size w0 wr:=HBW.out.trans (HQ.out.1.below HBW.out.size (fun k hk e=>by omega))
     have k3:wr.cell? ⟨b3,o3+d,none⟩=some (.int .i64 (i:Int)):=by rw [← ei];exact (hbw.cell (p:=⟨b3,o3+d,none⟩) hb3).trans hc3
     have k4:wr.cell? ⟨b4,o4+i,none⟩=some (.slice x4 y4 z4):=(hbw.cell (p:=⟨b4,o4+i,none⟩) hb4).trans hc4
     obtain ⟨hrl,hrb⟩:=HG.out.row _ (List.getElem_mem hiG)
     have HRW:=Lib.hid hI4
     have HRB:=Lib.hid hrb
     have hy4:=hI4.1
     rw [hrl] at hy4
     have hy5:=hy4.symm
     subst hy5
     have HRL:=Lib.hid hrl
     have HGI:Hid (∀ k (h:k<G[i].length),gL G i k=G[i][k]):=Lib.hid (fun k h=>by unfold gL;rw [getD_get hiG,getD_get h])
     have HOI:Hid ((oN o)[d]=i):=Lib.hid (by simp [oN,ei])
     have HFB:Hid (∀ s,0≤JM.fb K (gL G) ((oN o).drop (d+1)) s∧JM.fb K (gL G) ((oN o).drop (d+1)) s≤8000000):=Lib.hid (fun s=>by
       have h1:=fb_bd (K:=K) (fun i k=>(gL_bd HG.out i k).2) ((oN o).drop (d+1)) s
       have h2:((oN o).drop (d+1)).length≤8:=by rw [List.length_drop,oN_length];omega
       omega)
     have HQ1:Hid (Touch (fun k=>k=tb) w wr∧∃ F,wr.heap[tb]?=some (.cells (fnA NT F) 91 (0,0))∧RowTo F K (gL G) (oN o) d 0):=Lib.hid ⟨HQ.out.1,by obtain ⟨F,f1,f2⟩:=HQ.out.2;exact ⟨F,f1,f2,fun s hs=>by omega⟩⟩
     generalize G[i]=row at HRW HRB HRL HGI
     clear hc3 hc4 hI4 hrb hrl q1 q2 ei hbw HQ
     go_wp2_with fail
     clear k3 k4
     go_loopw [28] (fun q wr => ∃ t:Nat,t≤P2∧q=.int .i64 (t:Int)∧Hid (Touch (fun k=>k=tb) w wr∧∃ F,wr.heap[tb]?=some (.cells (fnA NT F) 91 (0,0))∧RowTo F K (gL G) (oN o) d t)) (fun q _=>P2 - (intOf q).toNat)
     case atStart=>exact ⟨0,Nat.zero_le _,rfl,HQ1⟩
     case round =>
       obtain ⟨t,htp,rfl,HR⟩:=hrel
       by_cases htl:t<P2
       · obtain ⟨F,f1,f2⟩:=HR.out.2
         have hs1:F ((d+1)*256+t)=JM.fb K (gL G) ((oN o).drop (d+1)) t:=f2.1 (d+1) (Nat.le_refl _) (by omega) t (by rw [← HP2.out];exact htl)
         have ca:wr.cell? ⟨tb,(d+1)*256+t,none⟩=some (.int .i64 (F ((d+1)*256+t))):=by rw [cell_of_block f1,fnA_get _ (by have:=HNT.out;omega)]
         have cb:wr.cell? ⟨tb,d*256+t,none⟩=some (.int .i64 (F (d*256+t))):=by rw [cell_of_block f1,fnA_get _ (by have:=HNT.out;omega)]
         have zb:wr.frozen? ⟨tb,d*256+t,none⟩=false:=blk_free f1
         have g1:=heap_setCell_same wr tb (d*256+t) _ _ (.int .i64 (F ((d+1)*256+t))) f1
         rw [fnA_set _ (by have:=HNT.out;omega)] at g1
         have HR1:Hid (Touch (fun k=>k=tb) w (wr.setCell ⟨tb,d*256+t,none⟩ (.int .i64 (F ((d+1)*256+t))))∧∃ E,(wr.setCell ⟨tb,d*256+t,none⟩ (.int .i64 (F ((d+1)*256+t)))).heap[tb]?=some (.cells (fnA NT E) 91 (0,0))∧RowTo E K (gL G) (oN o) d t∧E (d*256+t)=JM.fk (gL G i) (JM.fb K (gL G) ((oN o).drop (d+1))) t 0):=Lib.hid ⟨HR.out.1.setCell _ _ (.inl rfl),updF F (d*256+t) (F ((d+1)*256+t)),g1,f2.upd (by omega) _,by rw [updF_same,hs1];rfl⟩
         generalize F ((d+1)*256+t)=va at ca HR1
         generalize F (d*256+t)=vb at cb
         clear f1 f2 hs1 g1 HR
         go_wp2_with fail
         go_region
         go_wp2_with fail
         have HR2:=Lib.hid (show Touch (fun k=>k=tb) w (wr.setCell ⟨tb,d*256+t,none⟩ (.int .i64 va)).drew∧∃ E,(wr.setCell ⟨tb,d*256+t,none⟩ (.int .i64 va)).drew.heap[tb]?=some (.cells (fnA NT E) 91 (0,0))∧RowTo E K (gL G) (oN o) d t∧E (d*256+t)=JM.fk (gL G i) (JM.fb K (gL G) ((oN o).drop (d+1))) t 0 from ⟨HR1.out.1.drew,HR1.out.2⟩)
         clear HR1 ca cb zb
         generalize (wr.setCell ⟨tb,d*256+t,none⟩ (.int .i64 va)).drew=W5 at HR2 ⊢
         go_loopw [47] (fun q wq => ∃ k:Nat,k≤K∧q=.int .i64 (k:Int)∧Hid (Touch (fun k=>k=tb) w wq∧∃ E,wq.heap[tb]?=some (.cells (fnA NT E) 91 (0,0))∧RowTo E K (gL G) (oN o) d t∧E (d*256+t)=JM.fk (gL G i) (JM.fb K (gL G) ((oN o).drop (d+1))) t k)) (fun q _=>K - (intOf q).toNat)
         case atStart=>exact ⟨0,Nat.zero_le _,rfl,HR2⟩
         case round =>
           obtain ⟨k,hk,rfl,HK⟩:=hrel
           by_cases hkl:k<K
           · have hkr:k<row.length:=by rw [HRL.out];exact hkl
             have hbw:Below w0.heap.size w0 wr:=HBW.out.trans (HK.out.1.below HBW.out.size (fun k hk e=>by omega))
             obtain ⟨b7,o7,rfl,hb7,c7⟩:=(HRW.out.below hbw).at k hkr
             have hrb:=HRB.out _ (List.getElem_mem hkr)
             obtain ⟨E,f1,f2,f3⟩:=HK.out.2
             have hv:E (d*256+t)=JM.fk (gL G i) (JM.fb K (gL G) ((oN o).drop (d+1))) t k:=f3
             have hk8:k<8:=by omega
             have ht256:t<256:=by omega
             have HGK:Hid (gL G i k=row[k]):=Lib.hid (HGI.out k hkr)
             have hfk:=fk_bd (T:=t) (f:=gL G i) (v:=JM.fb K (gL G) ((oN o).drop (d+1))) (B:=8000000) (fun k=>(gL_bd HG.out i k).2) HFB.out k
             have cb:wr.cell? ⟨tb,d*256+t,none⟩=some (.int .i64 (E (d*256+t))):=by rw [cell_of_block f1,fnA_get _ (by have:=HNT.out;omega)]
             have zb:wr.frozen? ⟨tb,d*256+t,none⟩=false:=blk_free f1
             generalize row[k]=n at c7 hrb HGK
             go_upto_block 5 with fail
             go_cut [47] (fun s wx=>s=.int .i64 (k:Int)∧Hid (Touch (fun k=>k=tb) w wx∧∃ E,wx.heap[tb]?=some (.cells (fnA NT E) 91 (0,0))∧RowTo E K (gL G) (oN o) d t∧E (d*256+t)=JM.fk (gL G i) (JM.fb K (gL G) ((oN o).drop (d+1))) t (k+1)))
             case first =>
               by_cases hn0:0≤n
               · have d0:decide (0≤n)=true:=decide_eq_true hn0
                 cases hbt:t.testBit k with
                 | true =>
                   have hb0:bits .and .i64 ((t:Int) / 2 ^ k) 1=1:=by rw [bit_i64 _ _ (by omega),hbt];rfl
                   have HE:Hid (JM.fk (gL G i) (JM.fb K (gL G) ((oN o).drop (d+1))) t (k+1)=JM.fk (gL G i) (JM.fb K (gL G) ((oN o).drop (d+1))) t k):=Lib.hid (by simp only [JM.fk];rw [if_neg (by rw [hbt];exact fun e=>by cases e.2)])
                   clear hbt f1 f2 f3 hv
                   go_wp2_with fail
                   go_meet
                   exact ⟨rfl,by rw [HE.out];exact HK⟩
                 | false =>
                   have hb0:bits .and .i64 ((t:Int) / 2 ^ k) 1=0:=by rw [bit_i64 _ _ (by omega),hbt];rfl
                   have hP:t<2 ^ K:=by rw [← HP2.out];exact htl
                   have hor:t ||| 2 ^ k<2 ^ K:=Nat.or_lt_two_pow hP (Nat.pow_lt_pow_right (by decide) hkl)
                   have hor2:t ||| 2 ^ k<256:=Nat.lt_of_lt_of_le hor (by rw [← HP2.out];exact hpl)
                   have hs1:E ((d+1)*256+(t ||| 2 ^ k))=JM.fb K (gL G) ((oN o).drop (d+1)) (t ||| 2 ^ k):=f2.1 (d+1) (Nat.le_refl _) (by omega) _ hor
                   have hfb:=HFB.out (t ||| 2 ^ k)
                   have hpk:(2:Nat) ^ k<512:=Nat.lt_of_lt_of_le (Nat.pow_lt_pow_right (by decide) hk8) (by decide)
                   have hob:bits .or .i64 (t:Int) ((2 ^ k:Nat):Int)=((t ||| 2 ^ k:Nat):Int):=or_i64 t (2 ^ k) (by omega) (by omega)
                   have hob2:bits .or .i64 (t:Int) (IntKind.i64.wrap ((2:Int) ^ k))=((t ||| 2 ^ k:Nat):Int):=by
                     rw [pow_wrap k hk8,pow_i64 k (by omega)];exact hob
                   have hob3:bits .or .i64 (t:Int) (wrap64 ((2:Int) ^ k))=((t ||| 2 ^ k:Nat):Int):=by
                     rw [pow_i64 k (by omega)];exact hob
                   have hd9:(d:Int)<9:=by omega
                   have hd10:(d:Int)+1<9:=by omega
                   have ca:wr.cell? ⟨tb,(d+1)*256+(t ||| 2 ^ k),none⟩=some (.int .i64 (E ((d+1)*256+(t ||| 2 ^ k)))):=by rw [cell_of_block f1,fnA_get _ (by have:=HNT.out;omega)]
                   have HE:Hid (JM.fk (gL G i) (JM.fb K (gL G) ((oN o).drop (d+1))) t (k+1)=max (JM.fk (gL G i) (JM.fb K (gL G) ((oN o).drop (d+1))) t k) (n+JM.fb K (gL G) ((oN o).drop (d+1)) (t ||| 2 ^ k))):=Lib.hid (by simp only [JM.fk];rw [if_pos ⟨by rw [HGK.out];exact hn0,hbt⟩,HGK.out])
                   rw [hs1] at ca
                   rw [hv] at cb
                   have HFIN:Hid (∀ v,v=JM.fk (gL G i) (JM.fb K (gL G) ((oN o).drop (d+1))) t (k+1)→Touch (fun k=>k=tb) w (wr.setCell ⟨tb,d*256+t,none⟩ (.int .i64 v)).drew∧∃ E,(wr.setCell ⟨tb,d*256+t,none⟩ (.int .i64 v)).drew.heap[tb]?=some (.cells (fnA NT E) 91 (0,0))∧RowTo E K (gL G) (oN o) d t∧E (d*256+t)=JM.fk (gL G i) (JM.fb K (gL G) ((oN o).drop (d+1))) t (k+1)):=Lib.hid (fun v hv2=>by
                     have g1:=heap_setCell_same wr tb (d*256+t) _ _ (.int .i64 v) f1
                     rw [fnA_set _ (by have:=HNT.out;omega)] at g1
                     exact ⟨(HK.out.1.setCell _ _ (.inl rfl)).drew,_,g1,f2.upd ht256 _,by rw [updF_same,hv2]⟩)
                   generalize t ||| 2 ^ k=tk at hor hor2 hs1 hfb hob hob2 hob3 ca HE
                   generalize JM.fb K (gL G) ((oN o).drop (d+1)) tk=vo at hfb ca HE
                   generalize JM.fk (gL G i) (JM.fb K (gL G) ((oN o).drop (d+1))) t k=vk at hfk cb HE
                   have hsum:IntKind.i64.wrap (n+vo)=n+vo:=IntWalk.i64_in _ (by omega)
                   clear hbt f1 f2 f3 hv hs1 hpk hn0
                   go_wp2_with fail
                   go_region
                   go_wp2_with fail
                   go_meet
                   exact ⟨rfl,Lib.hid (HFIN.out _ HE.out.symm)⟩
               · have d0:decide (0≤n)=false:=decide_eq_false hn0
                 have HE:Hid (JM.fk (gL G i) (JM.fb K (gL G) ((oN o).drop (d+1))) t (k+1)=JM.fk (gL G i) (JM.fb K (gL G) ((oN o).drop (d+1))) t k):=Lib.hid (by simp only [JM.fk];rw [if_neg (by rw [HGK.out];exact fun e=>hn0 e.1)])
                 clear f1 f2 f3 hv hn0
                 go_wp2_with fail
                 go_meet
                 exact ⟨rfl,by rw [HE.out];exact HK⟩
             case rest =>
               obtain ⟨rfl,HF⟩:=hcut
               clear c7 cb zb f1 f2 f3 hv
               go_wp2_with fail
               go_roundw
               case rel=>exact ⟨k+1,by omega,by go_num,HF⟩
               case measure=>simp [intOf];omega
           · have hkk:k=K:=by omega
             have HR3:Hid (Touch (fun k=>k=tb) w wr∧∃ F,wr.heap[tb]?=some (.cells (fnA NT F) 91 (0,0))∧RowTo F K (gL G) (oN o) d (t+1)):=Lib.hid ⟨HK.out.1,by
               obtain ⟨E,f1,f2,f3⟩:=HK.out.2
               rw [hkk] at f3
               exact ⟨E,f1,f2.succ hdo (by rw [f3,HOI.out])⟩⟩
             go_wp2_with fail
             go_roundw
             case rel=>exact ⟨t+1,by omega,by go_num,HR3⟩
             case measure=>simp [intOf];omega
       · have htt:t=P2:=by omega
         subst htt
         go_wp2_with fail
         go_roundw
         case rel=>exact ⟨d,by omega,by go_num,Lib.hid ⟨HR.out.1,by obtain ⟨F,f1,f2⟩:=HR.out.2;exact ⟨F,f1,by rw [HP2.out] at f2;exact f2.full⟩⟩⟩
         case measure=>first | (simp [intOf];done) | (simp [intOf];omega)
   · obtain rfl:d1=0:=by omega
     go_wp2_with fail
     refine bodyPost_end (results_none rfl _ _ _) rfl ?_
     exact ⟨⟨_,rfl⟩,HQ.out⟩
theorem behind_any (NT tb:Nat) (HNT:Hid (NT=2304)) (F:Nat→Int) (d s:Nat) (w:World) (ht:w.heap[tb]?=some (.cells (fnA NT F) 91 (0,0))) (hd:d<9) (hs:s<256) :
   Calls Tryz.prog 67 #[.pointer (some ⟨tb,0,none⟩),.int .i64 d,.int .i64 s] w fun e w' => e=.returned (.int .i64 (F (d*256+s)))∧w=w':=by
 have ck:w.cell? ⟨tb,d*256+s,none⟩=some (.int .i64 (F (d*256+s))):=by rw [cell_of_block ht,fnA_get _ (by have:=HNT.out;omega)]
 generalize F (d*256+s)=v at ck ⊢
 go_enter Tryz.func67,Tryz.ntmps67
 go_wp2_with fail
 go_ret
 exact ⟨rfl,rfl⟩
end
section
open Go.RowKit Go.Shelf
set_option linter.unusedVariables false
set_option linter.unusedSimpArgs false
attribute [local go_sem] Oper.semAt_some
set_option maxHeartbeats 2000000 in
theorem each_ok (many:Nat) (a:Option Addr) (n cap:Nat) (l:List Int) (w:World) (hI:IsI w a n cap l) (ho:ordC many l=true) (hm8:many≤8) :
   Calls Tryz.prog 65 #[.slice a n cap,.int .i64 (many:Int)] w fun e w' => e=.returned (.bool true)∧Below w.heap.size w w':=by
 have hll:=(ord_bd ho).1
 have hl:l.length≤17592186044416:=by omega
 have hb0:Below w.heap.size w (w.alloc (.cells #[.slice a n cap] 22)):=(Below.refl _ _).alloc (Nat.le_refl _) _
 have hv0:=heap_new w (.cells #[.slice a n cap] 22 (0,0))
 have HS:=Lib.hid (sorted_any w.heap.size a n cap l hl (w.alloc (.cells #[.slice a n cap] 22)) (by simp) (by rw [cell_of_block hv0];rfl) (hI.below hb0))
 have HB0:=Lib.hid hb0
 have HSL:Hid ((sortI l).length=many):=Lib.hid (by rw [sortI_length];exact hll)
 have HSK:Hid (∀ k (h:k<(sortI l).length),(sortI l)[k]=(k:Int)):=Lib.hid (fun k h=>by
   have e:=ordC_sorted ho
   simp only [e]
   simp [allC])
 clear hv0 hI hb0 hll hl ho
 go_enter Tryz.func65,Tryz.ntmps65
 go_wp2_with fail
 refine (svalues_any a n cap w).mono ?_;rintro e w1 ⟨rfl,rfl⟩
 go_wp2_with fail
 refine HS.out.mono ?_;rintro e w2 ⟨v,rfl,hb2,ho2⟩
 obtain ⟨bo,co,rfl⟩:=owns_shape ho2
 have HB2:=Lib.hid (HB0.out.trans (hb2.mono HB0.out.size))
 have HII:=Lib.hid (isI_of_owns ho2 rfl)
 clear hb2 ho2 HS
 generalize sortI l=S at HSL HSK HII ⊢
 have hlm:S.length≤8:=by rw [HSL.out];exact hm8
 obtain ⟨N,hN⟩:∃ N,N=S.length:=⟨_,rfl⟩
 have HN:=Lib.hid hN
 clear hN
 go_wp2_with fail
 go_loop [13] (fun i => ∃ k:Nat,k≤S.length∧i=.int .i64 k) (fun i=>N - (intOf i).toNat)
 case atStart=>exact ⟨0,Nat.zero_le _,rfl⟩
 case round =>
   obtain ⟨k,hk,rfl⟩:=hrel
   by_cases hlt:k<S.length
   · obtain ⟨b,off,rfl,_,hcell⟩:=HII.out.at k hlt
     rw [HSK.out k hlt] at hcell
     go_wp2
     go_round
     case rel=>exact ⟨k+1,by omega,by go_num⟩
     case measure=>have:=HN.out;simp [intOf];omega
   · have hkk:k=S.length:=by omega
     subst hkk
     have d1:((S.length:Int) == (many:Int))=true:=by rw [beq_iff_eq,HSL.out]
     go_wp2
     go_ret
     exact ⟨rfl,HB2.out⟩
theorem zeroTab:(Tryz.prog.info? 91).map (·.zero)=some (some (.agg (Array.replicate 2304 (.int .i64 0)))):=by kernel_rfl
theorem zeroTab_cells:(Value.agg (Array.replicate 2304 (.int .i64 0))).cells=fnA 2304 (fun _=>0):=by rw [fnA_zero];rfl
theorem gL_row {G:List (List Int)} {i k:Nat} (hi:i<G.length) (hk:k<G[i].length):gL G i k=G[i][k]:=by unfold gL;rw [getD_get hi,getD_get hk]
structure HasF (n:Nat) (l:List Nat) (hf:Nat→Int) (m:Nat→Option Nat):Prop where
 at_:∀ i,i<n→i ∉ l→hf i=match m i with | none => -1 | some k=>(k:Int)
theorem HasF.low {n:Nat} {hf:Nat→Int} {m:Nat→Option Nat} (h:HasF n [] hf m) (i:Nat) (hi:i<n):-1≤hf i:=by
 rw [h.at_ i hi (by simp)]
 cases m i <;> simp <;> omega
theorem HasF.mo {n:Nat} {hf:Nat→Int} {m:Nat→Option Nat} (h:HasF n [] hf m) (i:Nat) (hi:i<n):JM.mo ((List.range n).map hf) i=m i:=by
 have e:((List.range n).map hf).getD i (-1)=hf i:=by rw [getD_get (by simpa using hi)];simp
 have h1:=h.at_ i hi (by simp)
 cases hm:m i with
 | none=>rw [hm] at h1;exact JM.mo_none.2 (by rw [e,h1];decide)
 | some k=>rw [hm] at h1;exact JM.mo_some.2 (by rw [e,h1])
theorem HasF.none {n i:Nat} {l:List Nat} {hf:Nat→Int} {m:Nat→Option Nat} (h:HasF n (i :: l) hf m) (hm:m i=none):HasF n l (updF hf i (-1)) m:=⟨fun x hx hxl=>by
 by_cases e:x=i
 · subst e;rw [updF_same,hm]
 · rw [updF_ne _ _ e];exact h.at_ x hx (by simp [e,hxl])⟩
theorem HasF.some {n i k:Nat} {l:List Nat} {hf:Nat→Int} {m:Nat→Option Nat} (h:HasF n (i :: l) hf m):HasF n l (updF hf i (k:Int)) (fun x=>if x=i then some k else m x):=⟨fun x hx hxl=>by
 by_cases e:x=i
 · subst e;rw [updF_same,if_pos rfl]
 · rw [updF_ne _ _ e,if_neg e];exact h.at_ x hx (by simp [e,hxl])⟩
def FirQ (n K:Nat) (g:Nat→Nat→Int) (W:Int) (l:List Nat) (hf:Nat→Int) (T:Nat) (want:Int):Prop:=∃ m,JM.Pick n K g W l T want m∧HasF n l hf m∧T<2 ^ K
def FstQ (G:List (List Int)) (K:Nat) (w:World) (e:Ending) (W:World):Prop:=∃ H hf T want m,e=.returned (.tuple #[.slice (some ⟨H,0,none⟩) G.length G.length,.int .i64 0])∧Below w.heap.size w W∧W.heap[H]?=some (.cells (fnA G.length hf) 3 (0,0))∧JM.Pick G.length K (gL G) (bestV G.length K (gL G)) [] T want m∧HasF G.length [] hf m
set_option maxRecDepth 100000 in
set_option maxHeartbeats 8000000 in
theorem first_any (a ia:Option Addr) (n c on oc:Nat) (G:List (List Int)) (K:Nat) (o:List Int) (w:World) (h:IsII w a n c G) (hg:GnOk G K) (ho:IsI w ia on oc o) (hoo:ordC G.length o=true) :
   Calls Tryz.prog 46 #[.slice a n c,.int .i64 (K:Int),.slice ia on oc] w (FstQ G K w):=by
 obtain rfl:=h.1
 obtain rfl:=ho.1
 obtain ⟨o1,o2,o3,o4⟩:=ord_bd hoo
 have h1:=hg.k1
 have h8:=hg.k8
 have hn:=hg.n8
 have hmk:=make_ints G.length (by omega)
 have HI:=Lib.hid h
 have HO:=Lib.hid ho
 have HG:=Lib.hid hg
 have HOO:=Lib.hid hoo
 have HOB:=Lib.hid o2
 have HO1:=Lib.hid o1
 have hon:o.length≤8:=by omega
 clear h hg ho hoo o1 o2 o3 o4
 go_enter Tryz.func46,Tryz.ntmps46
 go_wp2_with fail
 refine (wBest_any a G.length c G K w HI.out HG.out).mono ?_;rintro e w1 ⟨rfl,hb1⟩
 have HI1:=Lib.hid (HI.out.below hb1)
 have HO2:=Lib.hid (HO.out.below hb1)
 have HB1:=Lib.hid hb1
 clear hb1
 obtain ⟨W,hW⟩:∃ W,bestV G.length K (gL G)=W:=⟨_,rfl⟩
 have HW:=Lib.hid hW
 rw [hW]
 clear hW
 go_wp2_with fail
 refine (each_ok G.length ia o.length oc o w1 HO2.out HOO.out (by omega)).mono ?_;rintro e w2 ⟨rfl,hb2⟩
 have HI2:=Lib.hid (HI1.out.below hb2)
 have HO3:=Lib.hid (HO2.out.below hb2)
 have HB2:=Lib.hid (HB1.out.trans (hb2.mono HB1.out.size))
 clear hb2 HI1 HO2
 go_wp2_with (refine wpList_alloc_any rfl 91 rfl _ zeroTab _ zeroTab_cells ?_)
 have hb3:Below w2.heap.size w2 (w2.alloc (.cells (fnA 2304 (fun _=>0)) 91)):=(Below.refl _ _).alloc (Nat.le_refl _) _
 have hv3:=heap_new w2 (.cells (fnA 2304 (fun _=>0)) 91 (0,0))
 obtain ⟨NT,hNT⟩:∃ NT,NT=2304:=⟨_,rfl⟩
 have HNT:=Lib.hid hNT
 rw [← hNT] at hb3 hv3 ⊢
 clear hNT
 obtain ⟨tb,htb⟩:∃ tb,w2.heap.size=tb:=⟨_,rfl⟩
 have htl:w2.heap.size≤tb:=by omega
 rw [htb] at hv3 ⊢
 have HTL:=Lib.hid htl
 clear htb htl
 generalize w2.alloc (.cells (fnA NT (fun _=>0)) 91)=w3 at hb3 hv3 ⊢
 refine (fill_any NT tb HNT a ia G.length c o.length oc G K o w2 w3 HI2.out HG.out HO3.out HOO.out hb3 HTL.out hv3).mono ?_
 rintro e w4 ⟨⟨v4,rfl⟩,ht4,F,hF,hT⟩
 have HB3:=Lib.hid (hb3.trans (ht4.below hb3.size (fun k hk e=>by have:=HTL.out;omega)))
 have HFF:=Lib.hid hF
 have HTT:=Lib.hid hT
 clear hb3 hv3 ht4 hF hT
 try dsimp only
 go_wp2_with fail
 go_region
 go_wp2_with fail
 have hb5:Below w4.heap.size w4 (w4.alloc (.cells (fnA G.length (fun _=>0)) 3 (0,0))).drew:=((Below.refl _ _).alloc (Nat.le_refl _) _).drew
 have hv5:(w4.alloc (.cells (fnA G.length (fun _=>0)) 3 (0,0))).drew.heap[w4.heap.size]?=some (.cells (fnA G.length (fun _=>0)) 3 (0,0)):=heap_new w4 _
 obtain ⟨H,hH⟩:∃ H,w4.heap.size=H:=⟨_,rfl⟩
 have HHB:Hid (w4.heap.size≤H∧tb<H):=Lib.hid ⟨by omega,by have:=lt_of_heap HFF.out;omega⟩
 have HQ0:Hid (Below w4.heap.size w4 (w4.alloc (.cells (fnA G.length (fun _=>0)) 3 (0,0))).drew∧(w4.alloc (.cells (fnA G.length (fun _=>0)) 3 (0,0))).drew.heap[H]?=some (.cells (fnA G.length (fun _=>0)) 3 (0,0))∧FirQ G.length K (gL G) W (oN o) (fun _=>0) 0 W):=Lib.hid ⟨hb5,by rw [← hH];exact hv5,by
   refine ⟨fun _=>none,JM.Pick.start (oN_nodup HOO.out) (fun i hi=>(oN_mem HOO.out i).1 hi) (fun i hi=>(oN_mem HOO.out i).2 hi) (by rw [← HW.out];exact bestV_is _ _ _),⟨fun i hi hl=>absurd ((oN_mem HOO.out i).2 hi) hl⟩,Nat.pow_pos (by decide)⟩⟩
 rw [hH]
 clear hb5 hv5 hH
 generalize (w4.alloc (.cells (fnA G.length (fun _=>0)) 3 (0,0))).drew=w5 at HQ0 ⊢
 obtain ⟨N,hN⟩:∃ N,N=o.length:=⟨_,rfl⟩
 have HN:=Lib.hid hN
 clear hN
 go_loopw [8,12,45] (fun wa ta dn wr => ∃ (d T:Nat) (want:Int) (hf:Nat→Int),d≤o.length∧wa=.int .i64 want∧ta=.int .i64 (T:Int)∧dn=.int .i64 (d:Int)∧Hid (Below w4.heap.size w4 wr∧wr.heap[H]?=some (.cells (fnA G.length hf) 3 (0,0))∧FirQ G.length K (gL G) W ((oN o).drop d) hf T want)) (fun _ _ dn _=>N - (intOf dn).toNat)
 case atStart=>exact ⟨0,0,W,_,Nat.zero_le _,rfl,rfl,rfl,HQ0⟩
 case round =>
   obtain ⟨d,T,want,hf,hd,rfl,rfl,rfl,HQ⟩:=hrel
   by_cases hlt:d<o.length
   · have hdo:d<(oN o).length:=by rw [oN_length];exact hlt
     have hbw:Below w2.heap.size w2 wr:=HB3.out.trans (HQ.out.1.mono HB3.out.size)
     obtain ⟨b3,o3,e3,hb3,hc3⟩:=HO3.out.at d hlt
     subst e3
     obtain ⟨q1,q2⟩:=HOB.out _ (List.getElem_mem hlt)
     obtain ⟨i,ei⟩:=Int.eq_ofNat_of_zero_le q1
     have hiG:i<G.length:=by omega
     obtain ⟨b4,o4,x4,y4,z4,e4,hb4,hc4,hI4⟩:=HI2.out.at i hiG
     subst e4
     have k3:wr.cell? ⟨b3,o3+d,none⟩=some (.int .i64 (i:Int)):=by rw [← ei];exact (hbw.cell (p:=⟨b3,o3+d,none⟩) hb3).trans hc3
     have hbH:Below w4.heap.size w4 (wr.setCell ⟨H,i,none⟩ (.int .i64 (-1))):=HQ.out.1.setCell (p:=⟨H,i,none⟩) HHB.out.1 _
     have hbw6:Below w2.heap.size w2 (wr.setCell ⟨H,i,none⟩ (.int .i64 (-1))):=HB3.out.trans (hbH.mono HB3.out.size)
     have k4:(wr.setCell ⟨H,i,none⟩ (.int .i64 (-1))).cell? ⟨b4,o4+i,none⟩=some (.slice x4 y4 z4):=(hbw6.cell (p:=⟨b4,o4+i,none⟩) hb4).trans hc4
     have cH:wr.cell? ⟨H,i,none⟩=some (.int .i64 (hf i)):=by rw [cell_of_block HQ.out.2.1,fnA_get _ hiG]
     have zH:wr.frozen? ⟨H,i,none⟩=false:=blk_free HQ.out.2.1
     have g1:=heap_setCell_same wr H i _ _ (.int .i64 (-1)) HQ.out.2.1
     rw [fnA_set _ hiG] at g1
     obtain ⟨hrl,hrb⟩:=HG.out.row _ (List.getElem_mem hiG)
     have HRW:=Lib.hid (hI4.below hbw6)
     have HRB:=Lib.hid hrb
     have hy4:=hI4.1
     rw [hrl] at hy4
     have hy5:=hy4.symm
     subst hy5
     have HRL:=Lib.hid hrl
     have HGI:Hid (∀ k (h:k<G[i].length),gL G i k=G[i][k]):=Lib.hid (fun k h=>gL_row hiG h)
     have HOI:Hid ((oN o).drop d=i :: (oN o).drop (d+1)):=Lib.hid (by rw [List.drop_eq_getElem_cons hdo];simp [oN,ei])
     have HF6:=Lib.hid (below_heap hbH HFF.out (lt_of_heap HFF.out))
     have HQ6:=Lib.hid (And.intro hbH g1)
     obtain ⟨mm,hpk,hhf,hTK⟩:=HQ.out.2.2
     have HPK:=Lib.hid hpk
     have HHF:=Lib.hid hhf
     have hwb:0≤want∧want≤8000000:=by
       have h3:=fb_bd (K:=K) (fun i k=>(gL_bd HG.out i k).2) ((oN o).drop d) T
       have h4:((oN o).drop d).length≤8:=by rw [List.length_drop,oN_length];omega
       have h5:=hpk.we
       omega
     have HTK:=Lib.hid hTK
     have hT256:T<256:=Nat.lt_of_lt_of_le hTK (Nat.le_trans (Nat.pow_le_pow_right (by decide) h8) (by decide))
     generalize G[i]=row at HRW HRB HRL HGI
     generalize hf i=old at cH
     clear hc3 hc4 hI4 hrb hrl q1 q2 ei hbw hbH hbw6 g1 hpk hhf hTK hy4
     go_wp2_with fail
     generalize wr.setCell ⟨H,i,none⟩ (.int .i64 (-1))=w6 at HQ6 HF6 HRW k4 ⊢
     clear k3 cH zH
     go_loopw [8,12,58] (fun wa ta q wq => ∃ k:Nat,k≤K∧wa=.int .i64 want∧ta=.int .i64 (T:Int)∧q=.int .i64 (k:Int)∧wq=w6∧Hid (∀ k',k'<k→¬ JM.bit T k'→0≤gL G i k'→gL G i k'+JM.fb K (gL G) ((oN o).drop (d+1)) (T ||| 2 ^ k')≠want)) (fun _ _ q _=>K - (intOf q).toNat)
     case atStart=>exact ⟨0,Nat.zero_le _,rfl,rfl,rfl,rfl,Lib.hid (fun k' h=>by omega)⟩
     case round =>
       obtain ⟨k,hk,rfl,rfl,rfl,rfl,HNO⟩:=hrel
       by_cases hkl:k<K
       · have hkr:k<row.length:=by rw [HRL.out];exact hkl
         obtain ⟨b7,o7,e7,hb7,c7⟩:=HRW.out.at k hkr
         subst e7
         have hrb:=HRB.out _ (List.getElem_mem hkr)
         have hk8:k<8:=by omega
         have HGK:Hid (gL G i k=row[k]):=Lib.hid (HGI.out k hkr)
         generalize row[k]=gv at c7 hrb HGK
         by_cases hn0:0≤gv
         · have d0:decide (0≤gv)=true:=decide_eq_true hn0
           cases hbt:T.testBit k with
           | true =>
             have hb0:bits .and .i64 ((T:Int) / 2 ^ k) 1=1:=by rw [bit_i64 _ _ (by omega),hbt];rfl
             have HNO2:Hid (∀ k',k'<k+1→¬ JM.bit T k'→0≤gL G i k'→gL G i k'+JM.fb K (gL G) ((oN o).drop (d+1)) (T ||| 2 ^ k')≠want):=Lib.hid (fun k' h1 h2 h3=>by
               by_cases e:k'=k
               · subst e;exact absurd hbt h2
               · exact HNO.out k' (by omega) h2 h3)
             clear hbt
             go_wp2_with fail
             go_roundw
             case rel=>exact ⟨k+1,by omega,rfl,rfl,by go_num,by first | rfl | trivial,HNO2⟩
             case measure=>simp [intOf];omega
           | false =>
             have hb0:bits .and .i64 ((T:Int) / 2 ^ k) 1=0:=by rw [bit_i64 _ _ (by omega),hbt];rfl
             have hor:T ||| 2 ^ k<2 ^ K:=Nat.or_lt_two_pow HTK.out (Nat.pow_lt_pow_right (by decide) hkl)
             have hor2:T ||| 2 ^ k<256:=Nat.lt_of_lt_of_le hor (Nat.le_trans (Nat.pow_le_pow_right (by decide) h8) (by decide))
             have hpk:(2:Nat) ^ k<512:=Nat.lt_of_lt_of_le (Nat.pow_lt_pow_right (by decide) hk8) (by decide)
             have hob:bits .or .i64 (T:Int) ((2 ^ k:Nat):Int)=((T ||| 2 ^ k:Nat):Int):=or_i64 T (2 ^ k) (by omega) (by omega)
             have hob2:bits .or .i64 (T:Int) (IntKind.i64.wrap ((2:Int) ^ k))=((T ||| 2 ^ k:Nat):Int):=by
               rw [pow_wrap k hk8,pow_i64 k (by omega)];exact hob
             have hob3:bits .or .i64 (T:Int) (wrap64 ((2:Int) ^ k))=((T ||| 2 ^ k:Nat):Int):=by
               rw [pow_i64 k (by omega)];exact hob
             have HTV:Hid (F ((d+1)*256+(T ||| 2 ^ k))=JM.fb K (gL G) ((oN o).drop (d+1)) (T ||| 2 ^ k)):=Lib.hid (HTT.out (d+1) (by omega) (by omega) _ hor)
             have hfb:0≤JM.fb K (gL G) ((oN o).drop (d+1)) (T ||| 2 ^ k)∧JM.fb K (gL G) ((oN o).drop (d+1)) (T ||| 2 ^ k)≤8000000:=by
               have h3:=fb_bd (K:=K) (fun i k=>(gL_bd HG.out i k).2) ((oN o).drop (d+1)) (T ||| 2 ^ k)
               have h4:((oN o).drop (d+1)).length≤8:=by rw [List.length_drop,oN_length];omega
               omega
             have HBE:Hid (Calls Tryz.prog 67 #[.pointer (some ⟨tb,0,none⟩),.int .i64 ((d:Int)+1),.int .i64 ((T ||| 2 ^ k:Nat):Int)] wr fun e w' => e=.returned (.int .i64 (JM.fb K (gL G) ((oN o).drop (d+1)) (T ||| 2 ^ k)))∧wr=w'):=Lib.hid (by
               have h3:=behind_any NT tb HNT F (d+1) (T ||| 2 ^ k) wr HF6.out (by omega) hor2
               rw [HTV.out] at h3
               exact h3)
             have HBT:=Lib.hid hbt
             generalize htk:T ||| 2 ^ k=tk at hob hob2 hob3 HBE hfb hor hor2 HTV
             have HTKK:=Lib.hid htk
             generalize hvo:JM.fb K (gL G) ((oN o).drop (d+1)) tk=vo at hfb HBE
             have HVO:=Lib.hid hvo
             have hsum:wrap64 (gv+vo)=gv+vo:=by unfold wrap64;omega
             have hdif:wrap64 (want - gv)=want - gv:=by unfold wrap64;omega
             have hdif2:IntKind.i64.wrap (want - gv)=want - gv:=IntWalk.i64_in _ (by omega)
             clear hbt hpk htk hvo
             go_wp2_with fail
             refine HBE.out.mono ?_
             rintro e w9 ⟨rfl,rfl⟩
             by_cases hq:gv+vo=want
             · have d9:(gv+vo == want)=true:=by rw [beq_iff_eq];exact hq
               have cH:wr.cell? ⟨H,i,none⟩=some (.int .i64 (-1)):=by rw [cell_of_block HQ6.out.2,fnA_get _ hiG,updF_same]
               have zH:wr.frozen? ⟨H,i,none⟩=false:=blk_free HQ6.out.2
               have HQ7:Hid (Below w4.heap.size w4 (wr.setCell ⟨H,i,none⟩ (.int .i64 (k:Int)))∧(wr.setCell ⟨H,i,none⟩ (.int .i64 (k:Int))).heap[H]?=some (.cells (fnA G.length (updF hf i (k:Int))) 3 (0,0))∧FirQ G.length K (gL G) W ((oN o).drop (d+1)) (updF hf i (k:Int)) tk (want - gv)):=Lib.hid ⟨HQ6.out.1.setCell (p:=⟨H,i,none⟩) HHB.out.1 _,by
                 have g1:=heap_setCell_same wr H i _ _ (.int .i64 (k:Int)) HQ6.out.2
                 rw [fnA_set _ hiG,updF_updF] at g1
                 exact g1,by
                 have h3:=HPK.out
                 have h4:=HHF.out
                 have hnd:((oN o).drop d).Nodup:=(List.drop_sublist d (oN o)).nodup (oN_nodup HOO.out)
                 rw [HOI.out] at h3 h4 hnd
                 have h5:=h3.takes hiG (List.nodup_cons.1 hnd).1 hkl (by unfold JM.bit;rw [HBT.out];decide) (by rw [HGK.out,HTKK.out,HVO.out];exact hq)
                 rw [HGK.out,HTKK.out] at h5
                 exact ⟨_,h5,h4.some,hor⟩⟩
               clear hq
               go_wp2_with fail
               go_region
               go_wp2_with fail
               go_roundw
               case rel=>exact ⟨d+1,tk,want - gv,_,by omega,by first | rfl | go_num,by first | rfl | go_num,by go_num,Lib.hid ⟨HQ7.out.1.drew,HQ7.out.2.1,HQ7.out.2.2⟩⟩
               case measure=>have:=HN.out;simp [intOf];omega
             · have d9:(gv+vo == want)=false:=by rw [beq_eq_false_iff_ne];exact hq
               have HNO2:Hid (∀ k',k'<k+1→¬ JM.bit T k'→0≤gL G i k'→gL G i k'+JM.fb K (gL G) ((oN o).drop (d+1)) (T ||| 2 ^ k')≠want):=Lib.hid (fun k' h1 h2 h3=>by
                 by_cases e:k'=k
                 · subst e;rw [HGK.out,HTKK.out,HVO.out];exact hq
                 · exact HNO.out k' (by omega) h2 h3)
               clear hq
               go_wp2_with fail
               go_roundw
               case rel=>exact ⟨k+1,by omega,rfl,rfl,by go_num,by first | rfl | trivial,HNO2⟩
               case measure=>simp [intOf];omega
         · have d0:decide (0≤gv)=false:=decide_eq_false hn0
           have HNO2:Hid (∀ k',k'<k+1→¬ JM.bit T k'→0≤gL G i k'→gL G i k'+JM.fb K (gL G) ((oN o).drop (d+1)) (T ||| 2 ^ k')≠want):=Lib.hid (fun k' h1 h2 h3=>by
             by_cases e:k'=k
             · subst e;exact absurd (by rw [← HGK.out];exact h3) hn0
             · exact HNO.out k' (by omega) h2 h3)
           clear hn0
           go_wp2_with fail
           go_roundw
           case rel=>exact ⟨k+1,by omega,rfl,rfl,by go_num,by first | rfl | trivial,HNO2⟩
           case measure=>simp [intOf];omega
       · have hkk:k=K:=by omega
         have HQ7:Hid (Below w4.heap.size w4 wr∧wr.heap[H]?=some (.cells (fnA G.length (updF hf i (-1))) 3 (0,0))∧FirQ G.length K (gL G) W ((oN o).drop (d+1)) (updF hf i (-1)) T want):=Lib.hid ⟨HQ6.out.1,HQ6.out.2,by
           have h3:=HPK.out
           have h4:=HHF.out
           rw [HOI.out] at h3 h4
           have hno:mm i=none:=Classical.byContradiction fun hne=>by
             obtain ⟨y,e⟩:=Option.ne_none_iff_exists'.1 hne
             exact (h3.of i y hiG e).1 List.mem_cons_self
           exact ⟨mm,h3.none (fun k' h5=>HNO.out k' (by omega)),h4.none hno,HTK.out⟩⟩
         go_wp2_with fail
         go_roundw
         case rel=>exact ⟨d+1,T,want,_,by omega,by first | rfl | go_num,by first | rfl | go_num,by go_num,HQ7⟩
         case measure=>have:=HN.out;simp [intOf];omega
   · have hdd:d=o.length:=by omega
     subst hdd
     obtain ⟨mm,hpk,hhf,hTK⟩:=HQ.out.2.2
     rw [show (oN o).drop o.length=[] from List.drop_eq_nil_of_le (by rw [oN_length];exact Nat.le_refl _)] at hpk hhf
     have HPK:=Lib.hid hpk
     have HHF:=Lib.hid hhf
     have HBZ:=Lib.hid (HB2.out.trans ((HB3.out.trans (HQ.out.1.mono HB3.out.size)).mono HB2.out.size))
     clear hpk hhf hTK
     go_wp2_with fail
     go_ret2
     exact ⟨H,hf,T,want,mm,rfl,HBZ.out,HQ.out.2.1,by rw [HW.out];exact HPK.out,HHF.out⟩
end
end Go.Proofs.YtmmmjohoihpbeaaGreat
