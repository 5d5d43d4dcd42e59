/- What is gained at the most: plain laws;no condition but those typed. -/
import Derived.Test.YtmmmjohoihpbeaaGreatTJwMb
namespace Go.Proofs.YtmmmjohoihpbeaaGreat
section
open JM
set_option linter.unusedVariables false
theorem bF_out {n:Nat} {g:Nat→Nat→Int} {s:Nat} (h:¬ s<2 ^ n):∀ j,bF n g j s=0
 | 0=>rfl
 | j+1=>by simp only [bF];rw [if_neg h];exact bF_out h j
theorem bF_isG {n K:Nat} {g:Nat→Nat→Int}:∀ j,j≤K→∀ s,s<2 ^ n→IsG n K g (bit s) (fun x=>x<j) (bF n g j s)
 | 0,_,s,hs=>IsG.none (.inr fun k _ h=>Nat.not_lt_zero _ h)
 | j+1,hj,s,hs=>by
   have h:=IsG.mask (K:=K) (g:=g) (was:=bF n g j) (k:=j) (by omega) (fun s hs=>bF_isG j (by omega) s hs) s hs
   simp only [bF];rw [if_pos hs];exact h
theorem bit_lt {n s i:Nat} (hs:s<2 ^ n) (h:bit s i):i<n:=by
 apply Classical.byContradiction
 intro hn
 have:s.testBit i=false:=Nat.testBit_lt_two_pow (Nat.lt_of_lt_of_le hs (Nat.pow_le_pow_right (by decide) (by omega)))
 unfold bit at h
 rw [this] at h;cases h
theorem best_mx {n K:Nat} {g:Nat→Nat→Int} (hn:n≤8):IsBest n K g (mxL 0 ((List.range 256).map (bF n g K))):=by
 have hp:2 ^ n≤256:=Nat.le_trans (Nat.pow_le_pow_right (by decide) hn) (by decide)
 have h0:0<2 ^ n:=Nat.pow_pos (by decide)
 have hf:=bF_isG (n:=n) (K:=K) (g:=g) K (Nat.le_refl K) (2 ^ n - 1) (by omega)
 have hb:=hf.best (fun i hi=>bit_full hi) (fun k hk=>hk)
 have e:mxL 0 ((List.range 256).map (bF n g K))=bF n g K (2 ^ n - 1):=by
   obtain ⟨h1,h2⟩:=mxL_ge 0 ((List.range 256).map (bF n g K))
   have h3:=h2 (bF n g K (2 ^ n - 1)) (List.mem_map.2 ⟨_,List.mem_range.2 (by omega),rfl⟩)
   have h4:=hf.nonneg
   rcases mxL_at 0 ((List.range 256).map (bF n g K)) with h | h
   · omega
   · obtain ⟨s,hs,hse⟩:=List.mem_map.1 h
     by_cases hsn:s<2 ^ n
     · have h5:=(bF_isG (n:=n) (K:=K) (g:=g) K (Nat.le_refl K) s hsn).mono hf (fun i hi=>bit_full (bit_lt hsn hi)) (fun k hk=>hk)
       omega
     · rw [bF_out hsn] at hse;omega
 rw [e];exact hb
noncomputable def bestV (n K:Nat) (g:Nat→Nat→Int):Int:=Classical.choose (best_ex n K g)
theorem bestV_is (n K:Nat) (g:Nat→Nat→Int):IsBest n K g (bestV n K g):=Classical.choose_spec (best_ex n K g)
theorem bestV_of {n K:Nat} {g:Nat→Nat→Int} {w:Int} (h:IsBest n K g w):w=bestV n K g:=h.uniq (bestV_is n K g)
end
section
open Go.RowKit Go.Shelf
set_option linter.unusedVariables false
set_option linter.unusedSimpArgs false
attribute [local go_sem] Oper.semAt_some
set_option maxHeartbeats 1000000 in
theorem wBest_any (a:Option Addr) (n c:Nat) (G:List (List Int)) (K:Nat) (w:World) (h:IsII w a n c G) (hg:GnOk G K) :
   Calls Tryz.prog 55 #[.slice a n c,.int .i64 (K:Int)] w fun e w' => e=.returned (.tuple #[.int .i64 (bestV G.length K (gL G)),.int .i64 0])∧Below w.heap.size w w':=by
 have HI:=Lib.hid h
 have HG:=Lib.hid hg
 have h8:=hg.k8
 clear h hg
 go_enter Tryz.func55,Tryz.ntmps55
 go_wp2_with fail
 refine (wcheck_any a n c G K w HI.out HG.out).mono ?_;rintro e w1 ⟨rfl,hb1⟩
 have HB1:=Lib.hid hb1
 clear hb1
 go_wp2_with fail
 refine (weach_any K w1 h8).mono ?_;rintro e w2 ⟨ia,ic,rfl,hb2,hi2⟩
 have HB2:=Lib.hid (HB1.out.trans (hb2.mono HB1.out.size))
 have HI2:=Lib.hid hi2
 clear hb2 hi2
 go_wp2_with fail
 refine (wbest_any a ia n c ic G K w2 (HI.out.below HB2.out) HG.out HI2.out).mono ?_;rintro e w3 ⟨rfl,hb3⟩
 have HB3:=Lib.hid (HB2.out.trans (hb3.mono HB2.out.size))
 have HV:Hid (mxL 0 ((List.range 256).map (bF G.length (gL G) K))=bestV G.length K (gL G)):=Lib.hid (bestV_of (best_mx HG.out.n8))
 clear hb3
 generalize mxL 0 ((List.range 256).map (bF G.length (gL G) K))=v at HV ⊢
 go_wp2_with fail
 go_ret2
 exact ⟨by rw [← HV.out];rfl,HB3.out⟩
end
section
open Go.RowKit Go.Shelf
set_option linter.unusedVariables false
set_option linter.unusedSimpArgs false
attribute [local go_sem] Oper.semAt_some
def gnR (r bid:List Int):List Int:=(List.range r.length).map fun k=>if bid=[] then -1 else bid.getD k 0 - r.getD k 0
def gnL (r:List Int) (b:List (List Int)):List (List Int):=b.map (gnR r)
theorem gnR_length (r bid:List Int):(gnR r bid).length=r.length:=by simp [gnR]
theorem gnL_length (r:List Int) (b:List (List Int)):(gnL r b).length=b.length:=by simp [gnL]
theorem gnR_at {r bid:List Int} {k:Nat} (hk:k<r.length):(gnR r bid).getD k 0=if bid=[] then -1 else bid.getD k 0 - r.getD k 0:=by
 rw [getD_get (by rw [gnR_length];exact hk)];simp [gnR]
theorem gnL_at {r:List Int} {b:List (List Int)} {i:Nat} (hi:i<b.length):(gnL r b).getD i []=gnR r b[i]:=by
 rw [getD_get (by rw [gnL_length];exact hi)];simp [gnL]
theorem gL_gnL {r:List Int} {b:List (List Int)} {i k:Nat} (hi:i<b.length) (hk:k<r.length):gL (gnL r b) i k=JM.gn r b i k:=by
 unfold gL JM.gn
 rw [gnL_at hi,gnR_at hk,getD_get hi]
theorem gnL_ok {r:List Int} {b:List (List Int)} (h:JM.MkOk r b):GnOk (gnL r b) r.length:=by
 refine ⟨h.hk.1,h.hk.2,by rw [gnL_length];exact h.hn.2,fun l hl => ?_⟩
 obtain ⟨bid,hb,rfl⟩:=List.mem_map.1 hl
 obtain ⟨i,hi,rfl⟩:=List.getElem_of_mem hb
 refine ⟨gnR_length _ _,fun z hz => ?_⟩
 obtain ⟨k,hk,rfl⟩:=List.mem_map.1 hz
 have hk:=List.mem_range.1 hk
 have h1:=h.hr k hk
 by_cases he:b[i]=[]
 · rw [if_pos he];omega
 · rw [if_neg he]
   have h2:=(h.hb i hi (by rw [getD_get hi];exact he)).2 k hk
   rw [getD_get hi] at h2
   omega
def GnRows (w:World) (B i:Nat) (r:List Int) (b:List (List Int)):Prop:=∃ C:Array Value,w.heap[B]?=some (.cells C 22 (0,0))∧C.size=b.length∧∀ j (h:j<b.length),j<i→∃ rb,C[j]?=some (.slice (some ⟨rb,0,none⟩) r.length r.length)∧rb≠B∧w.heap[rb]?=some (.cells (fnA r.length (fun k=>(gnR r b[j]).getD k 0)) 3 (0,0))
theorem GnRows.lt {w:World} {B i:Nat} {r:List Int} {b:List (List Int)} (h:GnRows w B i r b):B<w.heap.size:=by obtain ⟨C,h1,_⟩:=h;exact lt_of_heap h1
theorem GnRows.cell {w:World} {B i:Nat} {r:List Int} {b:List (List Int)} (h:GnRows w B i r b) (j:Nat) (hj:j<b.length):(∃ v,w.cell? ⟨B,j,none⟩=some v)∧w.frozen? ⟨B,j,none⟩=false:=by
 obtain ⟨C,h1,h2,_⟩:=h
 refine ⟨⟨C[j]'(by omega),?_⟩,blk_free h1⟩
 rw [cell_of_block h1,Array.getElem?_eq_getElem (by omega)]
theorem GnRows.isII {w:World} {B:Nat} {r:List Int} {b:List (List Int)} (h:GnRows w B b.length r b) (hk:r.length≤8) (hn:b.length≤8):IsII w (some ⟨B,0,none⟩) b.length b.length (gnL r b):=by
 obtain ⟨C,h1,h2,h3⟩:=h
 refine ⟨(gnL_length _ _).symm,Nat.le_of_eq (gnL_length _ _),by unfold maxLen;omega,.inr ⟨B,0,rfl,lt_of_heap h1,fun i hi => ?_⟩⟩
 rw [gnL_length] at hi
 obtain ⟨rb,h4,h5,h6⟩:=h3 i hi hi
 refine ⟨_,_,_,by rw [cell_of_block h1,Nat.zero_add];exact h4,?_⟩
 have e:(gnL r b)[i]'(by rw [gnL_length];exact hi)=gnR r b[i]:=by simp [gnL]
 rw [e]
 refine ⟨(gnR_length _ _).symm,Nat.le_of_eq (gnR_length _ _),by unfold maxLen;omega,.inr ⟨rb,0,rfl,lt_of_heap h6,fun k hk => ?_⟩⟩
 rw [gnR_length] at hk
 rw [cell_of_block h6,Nat.zero_add,fnA_get _ hk,getD_get (by rw [gnR_length];exact hk)]
theorem GnRows.step {w w2 w3:World} {B i R:Nat} {r:List Int} {b:List (List Int)} (h:GnRows w B i r b) (hi:i<b.length) (hR:w.heap.size≤R) (hb:Below w.heap.size w w2) (ht:Touch (fun k=>k=R) (w2.setCell ⟨B,i,none⟩ (.slice (some ⟨R,0,none⟩) r.length r.length)) w3) (hv:w3.heap[R]?=some (.cells (fnA r.length (fun k=>(gnR r b[i]).getD k 0)) 3 (0,0))):GnRows w3 B (i+1) r b:=by
 have hlt:=h.lt
 obtain ⟨C,h1,h2,h3⟩:=h
 refine ⟨C.setIfInBounds i (.slice (some ⟨R,0,none⟩) r.length r.length),ht.heap (heap_setCell_same w2 B i _ _ _ (below_heap hb h1 hlt)) (by omega),by simp [h2],fun j hj hji => ?_⟩
 by_cases e:i=j
 · subst e
   exact ⟨R,by simp [h2,hi],by omega,hv⟩
 · obtain ⟨rb,h4,h5,h6⟩:=h3 j hj (by omega)
   have hrb:=lt_of_heap h6
   exact ⟨rb,by rw [Array.getElem?_setIfInBounds,if_neg e];exact h4,h5,ht.heap ((Below.heap_setCell w2 ⟨B,i,none⟩ _ rb h5).trans (below_heap hb h6 hrb)) (by omega)⟩
def rowF (r bid:List Int) (k x:Nat):Int:=if x<k then (gnR r bid).getD x 0 else 0
theorem rowF_zero (r bid:List Int):rowF r bid 0=fun _=>0:=by funext x;simp [rowF]
theorem rowF_full (r bid:List Int):fnA r.length (rowF r bid r.length)=fnA r.length (fun k=>(gnR r bid).getD k 0):=fnA_congr fun i hi=>by unfold rowF;rw [if_pos hi]
theorem rowF_succ (r bid:List Int) (k:Nat):updF (rowF r bid k) k ((gnR r bid).getD k 0)=rowF r bid (k+1):=by
 funext x
 unfold updF rowF
 by_cases e:x=k
 · subst e;rw [if_pos rfl,if_pos (Nat.lt_succ_self _)]
 · rw [if_neg e]
   by_cases h:x<k
   · rw [if_pos h,if_pos (by omega)]
   · rw [if_neg h,if_neg (by omega)]
theorem updF_updF (f:Nat→Int) (k:Nat) (u v:Int):updF (updF f k u) k v=updF f k v:=by
 funext x;unfold updF;by_cases e:x=k <;> simp [e]
set_option maxRecDepth 100000 in
set_option maxHeartbeats 8000000 in
theorem gains_any (x:MkA) (m:MkC) (w:World) (h:MkT w x m) :
   Calls Tryz.prog 31 #[.agg x.cells.toArray] w fun e W => ∃ B,e=.returned (.tuple #[.slice (some ⟨B,0,none⟩) m.b.length m.b.length,.int .i64 0])∧Below w.heap.size w W∧IsII W (some ⟨B,0,none⟩) m.b.length m.b.length (gnL m.r m.b)∧w.heap.size≤B:=by
 obtain ⟨ra,rn,rc,ba,bn,bc,bv,oa,on,oc⟩:=x
 have hr:=h.r
 have hbb:=h.b
 have ho:=h.o
 unfold MkA.cells
 dsimp only at hr hbb ho ⊢
 obtain rfl:=hr.1
 obtain rfl:=hbb.1
 obtain rfl:=ho.1
 obtain ⟨b1,b2,b3,b4,b5⟩:=mktB_bd h.ok
 have hmo:=mktB_ok h.ok
 have hk8:=hmo.hk.2
 have hmk:=make_lists m.b.length (by omega)
 have hmi:=make_ints m.r.length (by omega)
 have HB5:=Lib.hid b5
 have HOK:=Lib.hid h.ok
 have HRB:=Lib.hid hmo.hr
 have hb0:Below w.heap.size w (w.alloc (.cells #[.slice ra m.r.length rc,.slice ba m.b.length bc,.slice oa m.o.length oc] 25)):=(Below.refl _ _).alloc (Nat.le_refl _) _
 have hv:=heap_new w (.cells #[.slice ra m.r.length rc,.slice ba m.b.length bc,.slice oa m.o.length oc] 25 (0,0))
 have HV:=Lib.hid (h.v.below hb0)
 have HI:=Lib.hid (hbb.below hb0)
 have HR:=Lib.hid (hr.below hb0)
 clear h hr hbb ho b1 b4 b5 hmo
 go_enter Tryz.func31,Tryz.ntmps31
 go_wp2_with fail
 generalize w.alloc (.cells #[.slice ra m.r.length rc,.slice ba m.b.length bc,.slice oa m.o.length oc] 25)=W at hb0 hv HV HI HR ⊢
 have c0:W.cell? ⟨w.heap.size,0,none⟩=some (.slice ra m.r.length rc):=by rw [cell_of_block hv];rfl
 have c1:W.cell? ⟨w.heap.size,1,none⟩=some (.slice ba m.b.length bc):=by rw [cell_of_block hv];rfl
 have c2:W.cell? ⟨w.heap.size,2,none⟩=some (.slice oa m.o.length oc):=by rw [cell_of_block hv];rfl
 have HB0:=Lib.hid hb0
 clear hb0 hv
 go_wp2_with fail
 refine (mcheck_any _ ⟨ra,m.r.length,rc,ba,m.b.length,bc,bv,oa,m.o.length,oc⟩ m W HV.out (by omega)).mono ?_;rintro e w1 ⟨rfl,hb1⟩
 rw [HOK.out]
 have HB1:=Lib.hid (HB0.out.trans (hb1.mono HB0.out.size))
 have HI1:=Lib.hid (HI.out.below hb1)
 have HR1:=Lib.hid (HR.out.below hb1)
 have k0:w1.cell? ⟨w.heap.size,0,none⟩=some (.slice ra m.r.length rc):=cell_later hb1 c0
 have k1:w1.cell? ⟨w.heap.size,1,none⟩=some (.slice ba m.b.length bc):=cell_later hb1 c1
 have hbw:=HB1.out.size
 have hlw:w.heap.size<w1.heap.size:=by obtain ⟨h1,h2⟩:=addr_of_cell k0;exact h2
 clear hb1 c0 c1 c2 HI HR HB0 HV
 have a1:=cell_alloc k1 (.cells (Array.replicate m.b.length (.slice none 0 0)) 22 (0,0))
 go_wp2_with fail
 have hb2:Below w1.heap.size w1 (w1.alloc (.cells (Array.replicate m.b.length (.slice none 0 0)) 22 (0,0))):=(Below.refl _ _).alloc (Nat.le_refl _) _
 have hv2:=heap_new w1 (.cells (Array.replicate m.b.length (.slice none 0 0)) 22 (0,0))
 generalize w1.alloc (.cells (Array.replicate m.b.length (.slice none 0 0)) 22 (0,0))=W2 at a1 hb2 hv2 ⊢
 obtain ⟨B,hB⟩:∃ B,B=w1.heap.size:=⟨_,rfl⟩
 have HQ0:Hid (GnRows W2 B 0 m.r m.b∧Below w1.heap.size w1 W2):=Lib.hid ⟨⟨_,by rw [hB];exact hv2,by simp,fun j hj h=>by omega⟩,hb2⟩
 rw [← hB]
 have HBB:Hid (w1.heap.size≤B):=Lib.hid (by omega)
 clear hb2 hv2 hB
 go_wp2_with fail
 go_loopw [19] (fun i wr => ∃ j:Nat,j≤m.b.length∧i=.int .i64 (j:Int)∧Hid (GnRows wr B j m.r m.b∧Below w1.heap.size w1 wr)) (fun i _=>m.b.length - (intOf i).toNat)
 case atStart=>exact ⟨0,Nat.zero_le _,rfl,HQ0⟩
 case round =>
   obtain ⟨j,hj,rfl,HQ⟩:=hrel
   by_cases hlt:j<m.b.length
   · obtain ⟨b,off,x,y,z,rfl,hb,hc,hI⟩:=HI1.out.at j hlt
     have ck:wr.cell? ⟨b,off+j,none⟩=some (.slice x y z):=(HQ.out.2.cell (p:=⟨b,off+j,none⟩) hb).trans hc
     have kr:wr.cell? ⟨w.heap.size,0,none⟩=some (.slice ra m.r.length rc):=cell_later HQ.out.2 k0
     obtain ⟨⟨ov,hov⟩,hof⟩:=HQ.out.1.cell j hlt
     have hb3:Below wr.heap.size wr (wr.alloc (.cells (fnA m.r.length (fun _=>0)) 3 (0,0))):=(Below.refl _ _).alloc (Nat.le_refl _) _
     have hv3:=heap_new wr (.cells (fnA m.r.length (fun _=>0)) 3 (0,0))
     have kr3:=cell_alloc kr (.cells (fnA m.r.length (fun _=>0)) 3 (0,0))
     have ov3:=cell_alloc hov (.cells (fnA m.r.length (fun _=>0)) 3 (0,0))
     have of3:(wr.alloc (.cells (fnA m.r.length (fun _=>0)) 3 (0,0))).frozen? ⟨B,j,none⟩=false:=by
       obtain ⟨C,h1,_⟩:=HQ.out.1
       exact blk_free (below_heap hb3 h1 (lt_of_heap h1))
     have HJ:=Lib.hid hI
     have HBJ:Hid (bidB (m.r.length:Int) m.b[j]=true):=Lib.hid (HB5.out _ (List.getElem_mem hlt))
     have HST:Hid (∀ w3,Touch (fun k=>k=wr.heap.size) ((wr.alloc (.cells (fnA m.r.length (fun _=>0)) 3 (0,0))).setCell ⟨B,j,none⟩ (.slice (some ⟨wr.heap.size,0,none⟩) m.r.length m.r.length)) w3→w3.heap[wr.heap.size]?=some (.cells (fnA m.r.length (fun k=>(gnR m.r m.b[j]).getD k 0)) 3 (0,0))→GnRows w3 B (j+1) m.r m.b):=Lib.hid (fun w3 h1 h2=>HQ.out.1.step hlt (Nat.le_refl _) hb3 h1 h2)
     generalize m.b[j]=bid at HJ HBJ HST
     have hbB:Below w1.heap.size w1 ((wr.alloc (.cells (fnA m.r.length (fun _=>0)) 3 (0,0))).setCell ⟨B,j,none⟩ (.slice (some ⟨wr.heap.size,0,none⟩) m.r.length m.r.length)):=(HQ.out.2.trans (hb3.mono HQ.out.2.size)).setCell (p:=⟨B,j,none⟩) HBB.out _
     have hBlt:B<wr.heap.size:=HQ.out.1.lt
     have v4:((wr.alloc (.cells (fnA m.r.length (fun _=>0)) 3 (0,0))).setCell ⟨B,j,none⟩ (.slice (some ⟨wr.heap.size,0,none⟩) m.r.length m.r.length)).heap[wr.heap.size]?=some (.cells (fnA m.r.length (rowF m.r bid 0)) 3 (0,0)):=by
       rw [rowF_zero];exact (Below.heap_setCell _ ⟨B,j,none⟩ _ wr.heap.size (by show wr.heap.size≠B;omega)).trans hv3
     have kr4:((wr.alloc (.cells (fnA m.r.length (fun _=>0)) 3 (0,0))).setCell ⟨B,j,none⟩ (.slice (some ⟨wr.heap.size,0,none⟩) m.r.length m.r.length)).cell? ⟨w.heap.size,0,none⟩=some (.slice ra m.r.length rc):=cell_later hbB k0
     have kB4:((wr.alloc (.cells (fnA m.r.length (fun _=>0)) 3 (0,0))).setCell ⟨B,j,none⟩ (.slice (some ⟨wr.heap.size,0,none⟩) m.r.length m.r.length)).cell? ⟨B,j,none⟩=some (.slice (some ⟨wr.heap.size,0,none⟩) m.r.length m.r.length):=by
       obtain ⟨C,h1,h2,_⟩:=HQ.out.1
       rw [cell_of_block (heap_setCell_same _ B j _ _ _ (below_heap hb3 h1 hBlt))]
       simp [h2,hlt]
     obtain ⟨R,hR⟩:∃ R,wr.heap.size=R:=⟨_,rfl⟩
     have HBR:Hid (B<R):=Lib.hid (by omega)
     clear hc hI hBlt
     rw [hR] at HST kr4 kB4 v4 hbB
     go_wp2_with fail
     clear kr kr3 ov3 of3 hv3 hb3 hof hov ck hR
     generalize ((wr.alloc (.cells (fnA m.r.length (fun _=>0)) 3 (0,0))).setCell ⟨B,j,none⟩ (.slice (some ⟨R,0,none⟩) m.r.length m.r.length))=W4 at HST kr4 kB4 v4 hbB ⊢
     have HB4:=Lib.hid hbB
     have HV4:=Lib.hid v4
     clear hbB v4
     go_loopw [34] (fun i wq => ∃ k:Nat,k≤m.r.length∧i=.int .i64 (k:Int)∧Hid (Touch (fun q=>q=R) W4 wq∧wq.heap[R]?=some (.cells (fnA m.r.length (rowF m.r bid k)) 3 (0,0)))) (fun i _=>m.r.length - (intOf i).toNat)
     case atStart=>exact ⟨0,Nat.zero_le _,rfl,Lib.hid ⟨Touch.refl _ _,HV4.out⟩⟩
     case round =>
       obtain ⟨k,hk,rfl,HK⟩:=hrel
       by_cases hkl:k<m.r.length
       · have HR4:=Lib.hid (HR1.out.below (HB4.out.trans (HK.out.1.below HB4.out.size (fun q hq e=>by have:=HBR.out;have:=HBB.out;omega))))
         obtain ⟨b5,o5,rfl,_,c5⟩:=HR4.out.at k hkl
         have kB5:wr.cell? ⟨B,j,none⟩=some (.slice (some ⟨R,0,none⟩) m.r.length m.r.length):=HK.out.1.cell kB4 (by show B≠R;have:=HBR.out;omega)
         have cR:wr.cell? ⟨R,k,none⟩=some (.int .i64 (rowF m.r bid k k)):=by rw [cell_of_block HK.out.2,fnA_get _ hkl]
         have zR:wr.frozen? ⟨R,k,none⟩=false:=blk_free HK.out.2
         generalize rowF m.r bid k k=old at cR
         have hrk:=HRB.out k hkl
         rw [getD_get hkl] at hrk
         by_cases hbe:bid=[]
         · have hlen:bid.length=0:=by rw [hbe];rfl
           have hy:=HJ.out.1
           rw [hlen] at hy
           subst hy
           have HK2:Hid (Touch (fun q=>q=R) W4 (wr.setCell ⟨R,k,none⟩ (.int .i64 (-1)))∧(wr.setCell ⟨R,k,none⟩ (.int .i64 (-1))).heap[R]?=some (.cells (fnA m.r.length (rowF m.r bid (k+1))) 3 (0,0))):=Lib.hid ⟨HK.out.1.setCell _ _ (.inl rfl),by
             have e1:=heap_setCell_same wr R k _ _ (.int .i64 (-1)) HK.out.2
             rw [fnA_set _ hkl] at e1
             rw [e1,← rowF_succ,gnR_at hkl,if_pos hbe]⟩
           clear hbe hlen
           go_wp2_with fail
           go_roundw
           case rel=>exact ⟨k+1,by omega,by go_num,HK2⟩
           case measure=>simp [intOf];omega
         · have hbl:bid.length=m.r.length:=by
             obtain ⟨_,q2,_⟩:=bidB_bd HBJ.out
             have:=(okB_bd (q2 (fun e=>hbe (List.eq_nil_of_length_eq_zero e)))).2.2.1
             exact this
           have hkb:k<bid.length:=by omega
           have hbb:=(bidB_bd HBJ.out).2.2 _ (List.getElem_mem hkb)
           have HJ4:=Lib.hid (HJ.out.below (HB4.out.trans (HK.out.1.below HB4.out.size (fun q hq e=>by have:=HBR.out;have:=HBB.out;omega))))
           obtain ⟨b6,o6,rfl,hb6,c6⟩:=HJ4.out.at k hkb
           have hne6:b6≠R:=by
             rcases HJ.out.2.2.2 with ⟨h0,_⟩ | ⟨b7,o7,e7,h7,_⟩
             · exact absurd h0 hbe
             · cases e7;have:=HBR.out;have:=HBB.out;omega
           have hy:=HJ.out.1
           rw [hbl] at hy
           subst hy
           have e5:=heap_setCell_same wr R k _ _ (.int .i64 (-1)) HK.out.2
           have kB6:(wr.setCell ⟨R,k,none⟩ (.int .i64 (-1))).cell? ⟨B,j,none⟩=some (.slice (some ⟨R,0,none⟩) m.r.length m.r.length):=by
             rw [World.cell?_setCell_other _ _ _ _ (by have:=HBR.out;simp <;> omega)];exact kB5
           have c66:(wr.setCell ⟨R,k,none⟩ (.int .i64 (-1))).cell? ⟨b6,o6+k,none⟩=some (.int .i64 bid[k]):=by
             rw [World.cell?_setCell_other _ _ _ _ (by simp <;> omega)];exact c6
           have cR6:(wr.setCell ⟨R,k,none⟩ (.int .i64 (-1))).cell? ⟨R,k,none⟩=some (.int .i64 (-1)):=by
             rw [cell_of_block e5];simp [fnA_size,hkl]
           have zR6:(wr.setCell ⟨R,k,none⟩ (.int .i64 (-1))).frozen? ⟨R,k,none⟩=false:=blk_free e5
           have hsub:wrap64 (bid[k] - m.r[k])=bid[k] - m.r[k]:=by unfold wrap64;omega
           have HK2:Hid (Touch (fun q=>q=R) W4 ((wr.setCell ⟨R,k,none⟩ (.int .i64 (-1))).setCell ⟨R,k,none⟩ (.int .i64 (bid[k] - m.r[k])))∧((wr.setCell ⟨R,k,none⟩ (.int .i64 (-1))).setCell ⟨R,k,none⟩ (.int .i64 (bid[k] - m.r[k]))).heap[R]?=some (.cells (fnA m.r.length (rowF m.r bid (k+1))) 3 (0,0))):=Lib.hid ⟨(HK.out.1.setCell _ _ (.inl rfl)).setCell _ _ (.inl rfl),by
             have e6:=heap_setCell_same (wr.setCell ⟨R,k,none⟩ (.int .i64 (-1))) R k _ _ (.int .i64 (bid[k] - m.r[k])) e5
             rw [fnA_set _ hkl,fnA_set _ hkl,updF_updF] at e6
             rw [e6,← rowF_succ,gnR_at hkl,if_neg hbe,getD_get hkb,getD_get hkl]⟩
           have d1:decide ((0:Int)<(m.r.length:Int))=true:=decide_eq_true (by omega)
           have d2:decide (0<m.r.length)=true:=decide_eq_true (by omega)
           generalize bid[k]=bv' at c6 c66 HK2 hsub hbb
           generalize m.r[k]=rv at c5 HK2 hsub hrk
           have hsub2:IntKind.i64.wrap (bv' - rv)=bv' - rv:=IntWalk.i64_in _ (by omega)
           clear hbe e5 hbl hkb
           go_wp2_with fail
           go_region
           go_wp2_with fail
           go_roundw
           case rel=>exact ⟨k+1,by omega,by go_num,Lib.hid ⟨HK2.out.1.drew,HK2.out.2⟩⟩
           case measure=>simp [intOf];omega
       · have hkk:k=m.r.length:=by omega
         have HE:Hid (GnRows wr B (j+1) m.r m.b):=Lib.hid (HST.out wr HK.out.1 (by have:=HK.out.2;rw [hkk,rowF_full] at this;exact this))
         go_wp2_with fail
         go_roundw
         case rel=>exact ⟨j+1,by omega,by go_num,Lib.hid ⟨HE.out,HB4.out.trans (HK.out.1.below HB4.out.size (fun q hq e=>by have:=HBR.out;have:=HBB.out;omega))⟩⟩
         case measure=>simp [intOf];omega
   · have hjj:j=m.b.length:=by omega
     subst hjj
     go_wp2_with fail
     go_ret2
     exact ⟨B,rfl,HB1.out.trans (HQ.out.2.mono hbw),HQ.out.1.isII hk8 b3,Nat.le_trans hbw HBB.out⟩
end
end Go.Proofs.YtmmmjohoihpbeaaGreat
