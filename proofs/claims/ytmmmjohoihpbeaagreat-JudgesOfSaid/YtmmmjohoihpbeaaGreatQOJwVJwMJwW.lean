/- Markets in memory;the package demands: All;conditions: those typed. -/
import Derived.Test.YtmmmjohoihpbeaaGreatQOJwDJwDoJwDp
import Derived.Test.YtmmmjohoihpbeaaGreatQOJmcJmdJmeJmf
namespace Go.Proofs.YtmmmjohoihpbeaaGreat
section
open Go.RowKit Go.Shelf
set_option linter.unusedVariables false
set_option linter.unusedSimpArgs false
attribute [local go_sem] Oper.semAt_some
structure MkT (w:World) (x:MkA) (m:MkC):Prop where
 v:IsMk w (fun _=>True) x m
 ok:mktB m=true
theorem MkT.below {w w':World} {x:MkA} {m:MkC} (h:MkT w x m) (hb:Below w.heap.size w w'):MkT w' x m:=⟨h.v.below hb,h.ok⟩
theorem IsIIp.isII {w:World} {P:Nat→Prop} {a:Option Addr} {n c:Nat} {vs:List Value} {L:List (List Int)} (h:IsIIp w P a n c vs L) (hL:L≠[]):IsII w a n c L:=by
 obtain ⟨h1,h2,h3,h4,h5⟩:=h
 refine ⟨h1,h2,h3,?_⟩
 rcases h5 with h0 | ⟨b,off,rfl,_,hlt,hc⟩
 · exact absurd h0 hL
 · refine .inr ⟨b,off,rfl,hlt,fun i hi => ?_⟩
   obtain ⟨x,y,z,h6,h7⟩:=h4.2 i hi
   have hiv:i<vs.length:=by rw [h4.1];exact hi
   rw [List.getElem?_eq_getElem hiv] at h6
   have:=hc i hiv
   rw [Option.some.inj h6] at this
   exact ⟨x,y,z,this,h7.1⟩
theorem okB_bd {l:List Int} {k:Nat} (h:okB l (k:Int)=true):1≤k∧k≤8∧l.length=k∧∀ z ∈ l,0≤z∧z≤1000000:=by
 unfold okB at h
 rw [Bool.and_eq_true,Bool.and_eq_true,decide_eq_true_eq,decide_eq_true_eq,inB_iff] at h
 obtain ⟨⟨h1,h2⟩,h3⟩:=h
 exact ⟨by omega,by omega,by omega,h3⟩
theorem mktB_bd {m:MkC} (h:mktB m=true):okB m.r (m.r.length:Int)=true∧1≤m.b.length∧m.b.length≤8∧ordC m.b.length m.o=true∧∀ l ∈ m.b,bidB (m.r.length:Int) l=true:=by
 unfold mktB at h
 simp only [Bool.and_eq_true,decide_eq_true_eq,List.all_eq_true] at h
 exact ⟨h.1,h.2.1,h.2.2.1,h.2.2.2.1,h.2.2.2.2⟩
theorem getD_mem {α:Type} {l:List α} {d:α} {i:Nat} (h:i<l.length):l.getD i d ∈ l:=by
 rw [List.getD_eq_getElem?_getD,List.getElem?_eq_getElem h];exact List.getElem_mem h
theorem mktB_ok {m:MkC} (h:mktB m=true):JM.MkOk m.r m.b:=by
 obtain ⟨h1,h2,h3,h4,h5⟩:=mktB_bd h
 obtain ⟨k1,k2,_,k3⟩:=okB_bd h1
 refine ⟨⟨k1,k2⟩,⟨h2,h3⟩,fun k hk=>k3 _ (getD_mem hk),fun i hi hne => ?_⟩
 have hb:=h5 _ (getD_mem (d:=[]) hi)
 obtain ⟨_,q2,q3⟩:=bidB_bd hb
 have q4:=q2 (fun e=>hne (List.eq_nil_of_length_eq_zero e))
 have q5:=(okB_bd q4).2.2.1
 exact ⟨q5,fun k hk=>q3 _ (getD_mem (by rw [q5];exact hk))⟩
theorem MkT.r {w:World} {x:MkA} {m:MkC} (h:MkT w x m):IsI w x.ra x.rn x.rc m.r:=h.v.r.1
theorem MkT.o {w:World} {x:MkA} {m:MkC} (h:MkT w x m):IsI w x.oa x.on x.oc m.o:=h.v.o.1
theorem MkT.b {w:World} {x:MkA} {m:MkC} (h:MkT w x m):IsII w x.ba x.bn x.bc m.b:=h.v.b.isII (by have:=(mktB_bd h.ok).2.1;intro e;rw [e] at this;simp at this)
def tilL {α:Type} (L:List α) (d:α) (j:Nat):List α:=(List.range L.length).map fun i=>if i<j then L.getD i d else d
theorem tilL_length {α:Type} (L:List α) (d:α) (j:Nat):(tilL L d j).length=L.length:=by simp [tilL]
theorem tilL_zero {α:Type} (L:List α) (d:α):tilL L d 0=List.replicate L.length d:=by
 apply List.ext_getElem
 · simp [tilL]
 · intro i h1 h2;simp [tilL]
theorem tilL_set {α:Type} (L:List α) (d:α) (j:Nat) (hj:j<L.length):(tilL L d j).set j L[j]=tilL L d (j+1):=by
 apply List.ext_getElem
 · simp [tilL]
 · intro i h1 h2
   have hi:i<L.length:=by simpa [tilL] using h2
   rw [List.getElem_set]
   by_cases e:j=i
   · subst e;simp [tilL,hi]
   · simp only [e,if_false,tilL,List.getElem_map,List.getElem_range]
     by_cases e2:i<j
     · rw [if_pos e2,if_pos (by omega)]
     · rw [if_neg e2,if_neg (by omega)]
theorem tilL_full {α:Type} (L:List α) (d:α):tilL L d L.length=L:=by
 apply List.ext_getElem
 · simp [tilL]
 · intro i h1 h2;simp [tilL,h2]
def bocells (bs:List Bool):Array Value:=(bs.map Value.bool).toArray
theorem bocells_set (bs:List Bool) (j:Nat) (b:Bool):(bocells bs).setIfInBounds j (.bool b)=bocells (bs.set j b):=by
 unfold bocells
 rw [List.setIfInBounds_toArray,← List.map_set]
theorem bocells_get (bs:List Bool) (j:Nat) (h:j<bs.length):(bocells bs)[j]?=some (.bool bs[j]):=by simp [bocells,h]
theorem bocells_no (bs:List Bool) (i:Nat) (z:Int):(bocells bs)[i]?≠some (.int .i64 z):=by
 intro e
 unfold bocells at e
 rw [List.getElem?_toArray,List.getElem?_map] at e
 cases h:bs[i]? with
 | none=>rw [h] at e;cases e
 | some b=>rw [h] at e;cases e
theorem infoB:(Tryz.prog.info? 4).map (fun i=>(i.zero,i.size,i.bytes))=some (some (.bool false),1,1):=by kernel_rfl
theorem madeB (n:Nat):madeCells (Value.bool false).cells n=bocells (List.replicate n false):=by
 apply Array.ext
 · simp [size_madeCells,bocells,Value.cells]
 · intro i h1 h2
   simp [madeCells,Value.cells,Nat.mod_one,bocells]
theorem make_bools (n:Nat) (h:n≤100000) (w:World):(Instr.makeSlice 132 (.int .i64 (n:Int)) (.int .i64 (n:Int))).run Tryz.prog w=.ok (.slice (some ⟨w.heap.size,0,none⟩) n n) (w.alloc (.cells (bocells (List.replicate n false)) 4)):=by
 obtain ⟨i0,hi,hz0,hz1,hz2⟩:=info_parts infoB
 have h:=run_make (P:=Tryz.prog) w 132 4 i0 _ Tryz.underlying132 hi hz0 .i64 .i64 (n:Int) (n:Int) (by omega) (by omega) (by rw [hz2];omega) (by omega)
 rw [hz1,Nat.mul_one,Int.toNat_natCast,madeB] at h
 exact h
theorem HdB.setT {w:World} {b k i:Nat} {L:List (List Int)} {C:Array Value} {t:TypeId} (h:HdB w b L) (hk:w.heap[k]?=some (.cells C t (0,0))) (hC:∀ (i:Nat) (z:Int),C[i]?≠some (.int .i64 z)) (hne:b≠k) (v:Value):HdB (w.setCell ⟨k,i,none⟩ v) b L:=by
 obtain ⟨D,h1,h2,h3⟩:=h
 refine ⟨D,(Below.heap_setCell w ⟨k,i,none⟩ v b hne).trans h1,h2,fun j hj => ?_⟩
 obtain ⟨x,y,z,h4,h5⟩:=h3 j hj
 exact ⟨x,y,z,h4,isI_set_ty h5 hk hC v⟩
def wantsD (b:List (List Int)) (p:List Int):List (List Int):=b.map fun bid=>(dmF (gnK bid p bid.length)).1
def noneD (b:List (List Int)) (p:List Int):List Bool:=b.map fun bid=>(dmF (gnK bid p bid.length)).2 == 0
set_option maxRecDepth 100000 in
set_option maxHeartbeats 8000000 in
theorem dall_any (x:MkA) (m:MkC) (pa:Option Addr) (pn pc:Nat) (p:List Int) (w:World) (h:MkT w x m) (hp:IsI w pa pn pc p) (hpo:PrOk p) (hpl:p.length=m.r.length) :
   Calls Tryz.prog 98 #[.agg x.cells.toArray,.slice pa pn pc] w fun e W => ∃ B N,e=.returned (.tuple #[.slice (some ⟨B,0,none⟩) m.b.length m.b.length,.slice (some ⟨N,0,none⟩) m.b.length m.b.length,.int .i64 0])∧Below w.heap.size w W∧w.heap.size≤B∧w.heap.size≤N∧B≠N∧HdB W B (wantsD m.b p)∧W.heap[N]?=some (.cells (bocells (noneD m.b p)) 4 (0,0)):=by
 obtain ⟨ra,rn,rc,ba,bn,bc,bv,oa,on,oc⟩:=x
 have hr:=h.r
 have hbb:=h.b
 have ho:=h.o
 unfold MkA.cells
 dsimp only at hr hbb ho ⊢
 obtain rfl:=hr.1
 obtain rfl:=hbb.1
 obtain rfl:=ho.1
 obtain rfl:=hp.1
 obtain ⟨b1,b2,b3,b4,b5⟩:=mktB_bd h.ok
 have hmk:=make_lists m.b.length (by omega)
 have hmb:=make_bools m.b.length (by omega)
 have HB5:=Lib.hid b5
 have HOK:=Lib.hid h.ok
 have hp8:=hpo.l8
 have HPO:=Lib.hid hpo
 have HPL:=Lib.hid hpl
 have hb0:Below w.heap.size w (w.alloc (.cells #[.slice ra m.r.length rc,.slice ba m.b.length bc,.slice oa m.o.length oc] 25)):=(Below.refl _ _).alloc (Nat.le_refl _) _
 have hv:=heap_new w (.cells #[.slice ra m.r.length rc,.slice ba m.b.length bc,.slice oa m.o.length oc] 25 (0,0))
 have HV:=Lib.hid (h.v.below hb0)
 have HI:=Lib.hid (hbb.below hb0)
 have HP:=Lib.hid (hp.below hb0)
 clear h hp hr hbb ho b1 b4 b5 hpo hpl
 go_enter Tryz.func98,Tryz.ntmps98
 go_wp2_with fail
 generalize w.alloc (.cells #[.slice ra m.r.length rc,.slice ba m.b.length bc,.slice oa m.o.length oc] 25)=W at hb0 hv HV HI HP ⊢
 have c0:W.cell? ⟨w.heap.size,0,none⟩=some (.slice ra m.r.length rc):=by rw [cell_of_block hv];rfl
 have c1:W.cell? ⟨w.heap.size,1,none⟩=some (.slice ba m.b.length bc):=by rw [cell_of_block hv];rfl
 have c2:W.cell? ⟨w.heap.size,2,none⟩=some (.slice oa m.o.length oc):=by rw [cell_of_block hv];rfl
 have HB0:=Lib.hid hb0
 clear hb0 hv
 go_wp2_with fail
 refine (mcheck_any _ ⟨ra,m.r.length,rc,ba,m.b.length,bc,bv,oa,m.o.length,oc⟩ m W HV.out (by have:=HPL.out;omega)).mono ?_;rintro e w1 ⟨rfl,hb1⟩
 rw [HOK.out]
 have HB1:=Lib.hid (HB0.out.trans (hb1.mono HB0.out.size))
 have HI1:=Lib.hid (HI.out.below hb1)
 have HP1:=Lib.hid (HP.out.below hb1)
 have k0:w1.cell? ⟨w.heap.size,0,none⟩=some (.slice ra m.r.length rc):=cell_later hb1 c0
 have k1:w1.cell? ⟨w.heap.size,1,none⟩=some (.slice ba m.b.length bc):=cell_later hb1 c1
 clear hb1 c0 c1 c2 HI HP HB0 HV
 go_wp2_with fail
 rw [← HPL.out]
 refine (dmay_ok pa p.length pc p w1 HP1.out HPO.out).mono ?_;rintro e w2 ⟨rfl,hb2⟩
 have HB2:=Lib.hid (HB1.out.trans (hb2.mono HB1.out.size))
 have HI2:=Lib.hid (HI1.out.below hb2)
 have HP2:=Lib.hid (HP1.out.below hb2)
 have l1:w2.cell? ⟨w.heap.size,1,none⟩=some (.slice ba m.b.length bc):=cell_later hb2 k1
 have l1':=cell_alloc l1 (.cells (Array.replicate m.b.length (.slice none 0 0)) 22 (0,0))
 have l1b:=cell_alloc l1 (.cells (bocells (List.replicate m.b.length false)) 4 (0,0))
 clear hb2 k0 k1 HI1 HP1 HB1
 go_wp2_with fail
 have hbw:=HB2.out.size
 have A1:=alloc2_facts w2 (.cells (Array.replicate m.b.length (.slice none 0 0)) 22 (0,0)) (.cells (bocells (List.replicate m.b.length false)) 4 (0,0))
 have A2:=alloc2_facts w2 (.cells (bocells (List.replicate m.b.length false)) 4 (0,0)) (.cells (Array.replicate m.b.length (.slice none 0 0)) 22 (0,0))
 have HA1:Hid (Below w2.heap.size w2 (((w2.alloc (.cells (Array.replicate m.b.length (.slice none 0 0)) 22 (0,0))).alloc (.cells (bocells (List.replicate m.b.length false)) 4 (0,0))).drew)∧HdB (((w2.alloc (.cells (Array.replicate m.b.length (.slice none 0 0)) 22 (0,0))).alloc (.cells (bocells (List.replicate m.b.length false)) 4 (0,0))).drew) w2.heap.size (tilL (wantsD m.b p) [] 0)∧(((w2.alloc (.cells (Array.replicate m.b.length (.slice none 0 0)) 22 (0,0))).alloc (.cells (bocells (List.replicate m.b.length false)) 4 (0,0))).drew).heap[w2.heap.size+1]?=some (.cells (bocells (tilL (noneD m.b p) false 0)) 4 (0,0))):=Lib.hid ⟨A1.1.drew,by rw [tilL_zero,show (wantsD m.b p).length=m.b.length by simp [wantsD]];exact HdB.nils A1.2.1,by rw [tilL_zero,show (noneD m.b p).length=m.b.length by simp [noneD]];exact A1.2.2⟩
 have HA2:Hid (Below w2.heap.size w2 (((w2.alloc (.cells (bocells (List.replicate m.b.length false)) 4 (0,0))).alloc (.cells (Array.replicate m.b.length (.slice none 0 0)) 22 (0,0))).drew)∧HdB (((w2.alloc (.cells (bocells (List.replicate m.b.length false)) 4 (0,0))).alloc (.cells (Array.replicate m.b.length (.slice none 0 0)) 22 (0,0))).drew) (w2.heap.size+1) (tilL (wantsD m.b p) [] 0)∧(((w2.alloc (.cells (bocells (List.replicate m.b.length false)) 4 (0,0))).alloc (.cells (Array.replicate m.b.length (.slice none 0 0)) 22 (0,0))).drew).heap[w2.heap.size]?=some (.cells (bocells (tilL (noneD m.b p) false 0)) 4 (0,0))):=Lib.hid ⟨A2.1.drew,by rw [tilL_zero,show (wantsD m.b p).length=m.b.length by simp [wantsD]];exact HdB.nils A2.2.2,by rw [tilL_zero,show (noneD m.b p).length=m.b.length by simp [noneD]];exact A2.2.1⟩
 clear A1 A2
 go_region
 all_goals
   first
   | (obtain ⟨W3,h3⟩:∃ W3,W3=((w2.alloc (.cells (Array.replicate m.b.length (.slice none 0 0)) 22 (0,0))).alloc (.cells (bocells (List.replicate m.b.length false)) 4 (0,0))).drew:=⟨_,rfl⟩;rw [← h3];have HA:=HA1;rw [← h3] at HA;have HBX:=Lib.hid HA.out.1;obtain ⟨B,hB⟩:∃ B,B=w2.heap.size:=⟨_,rfl⟩;obtain ⟨N,hN⟩:∃ N,N=w2.heap.size+1:=⟨_,rfl⟩;rw [← hN,← hB] at HA ⊢;have HBN:Hid (w2.heap.size≤B∧w2.heap.size≤N∧B≠N):=Lib.hid ⟨by omega,by omega,by omega⟩;clear h3 hB hN)
   | (obtain ⟨W3,h3⟩:∃ W3,W3=((w2.alloc (.cells (bocells (List.replicate m.b.length false)) 4 (0,0))).alloc (.cells (Array.replicate m.b.length (.slice none 0 0)) 22 (0,0))).drew:=⟨_,rfl⟩;rw [← h3];have HA:=HA2;rw [← h3] at HA;have HBX:=Lib.hid HA.out.1;obtain ⟨B,hB⟩:∃ B,B=w2.heap.size+1:=⟨_,rfl⟩;obtain ⟨N,hN⟩:∃ N,N=w2.heap.size:=⟨_,rfl⟩;rw [← hB,← hN] at HA ⊢;have HBN:Hid (w2.heap.size≤B∧w2.heap.size≤N∧B≠N):=Lib.hid ⟨by omega,by omega,by omega⟩;clear h3 hB hN)
   clear HA1 HA2 l1' l1b
   have HB3:=Lib.hid (HB2.out.trans (HBX.out.mono hbw))
   have n1:W3.cell? ⟨w.heap.size,1,none⟩=some (.slice ba m.b.length bc):=cell_later HBX.out l1
   clear l1
   go_wp2_with fail
   go_loopw [6,31] (fun v i wr => ∃ j:Nat,j≤m.b.length∧v=.int .i64 0∧i=.int .i64 (j:Int)∧Hid (HdB wr B (tilL (wantsD m.b p) [] j)∧wr.heap[N]?=some (.cells (bocells (tilL (noneD m.b p) false j)) 4 (0,0))∧Below w2.heap.size w2 wr)) (fun _ i _=>m.b.length - (intOf i).toNat)
   case atStart=>exact ⟨0,Nat.zero_le _,rfl,rfl,Lib.hid ⟨HA.out.2.1,HA.out.2.2,HBX.out⟩⟩
   case round =>
     obtain ⟨j,hj,rfl,rfl,HQ⟩:=hrel
     by_cases hlt:j<m.b.length
     · obtain ⟨b,off,x,y,z,rfl,hb,hc,hI⟩:=HI2.out.at j hlt
       have ck:wr.cell? ⟨b,off+j,none⟩=some (.slice x y z):=(HQ.out.2.2.cell (p:=⟨b,off+j,none⟩) hb).trans hc
       have HJ:=Lib.hid (hI.below HQ.out.2.2)
       have HP4:=Lib.hid (HP2.out.below HQ.out.2.2)
       have HBJ:Hid (bidB (p.length:Int) m.b[j]=true):=Lib.hid (by rw [HPL.out];exact HB5.out _ (List.getElem_mem hlt))
       have hw1:Hid (tilL (wantsD m.b p) [] (j+1)=(tilL (wantsD m.b p) [] j).set j (dmF (gnK m.b[j] p m.b[j].length)).1):=Lib.hid (by
         rw [← tilL_set (wantsD m.b p) [] j (by simpa [wantsD] using hlt)];simp [wantsD])
       have hn1:Hid (tilL (noneD m.b p) false (j+1)=(tilL (noneD m.b p) false j).set j ((dmF (gnK m.b[j] p m.b[j].length)).2 == 0)):=Lib.hid (by
         rw [← tilL_set (noneD m.b p) false j (by simpa [noneD] using hlt)];simp [noneD])
       generalize m.b[j]=bid at HJ HBJ hw1 hn1
       clear hc hI
       go_wp2_with fail
       refine (dof_any x pa y z p.length pc bid p wr HJ.out HP4.out HPO.out HBJ.out).mono ?_;rintro e w5 ⟨x5,c5,rfl,hb5,hi5⟩
       have hQ5:=HQ.out.1.below hb5
       have hN5:=below_heap hb5 HQ.out.2.1 (lt_of_heap HQ.out.2.1)
       have HB5':=Lib.hid (HQ.out.2.2.trans (hb5.mono HQ.out.2.2.size))
       have hjw:j<(tilL (wantsD m.b p) [] j).length:=by rw [tilL_length];simpa [wantsD] using hlt
       have hjn:j<(tilL (noneD m.b p) false j).length:=by rw [tilL_length];simpa [noneD] using hlt
       obtain ⟨x6,y6,z6,q1,q2,q3⟩:=hQ5.cell j hjw
       clear q3
       have hQ6:=hQ5.set (i:=j) hjw hi5
       have hN6:=(Below.heap_setCell w5 ⟨B,j,none⟩ (.slice x5 (dmF (gnK bid p bid.length)).1.length c5) N (by show N≠B;exact fun e=>HBN.out.2.2 e.symm)).trans hN5
       have q4:(w5.setCell ⟨B,j,none⟩ (.slice x5 (dmF (gnK bid p bid.length)).1.length c5)).cell? ⟨N,j,none⟩=some (.bool ((tilL (noneD m.b p) false j)[j])):=by rw [cell_of_block hN6];exact bocells_get _ _ hjn
       have q5:(w5.setCell ⟨B,j,none⟩ (.slice x5 (dmF (gnK bid p bid.length)).1.length c5)).frozen? ⟨N,j,none⟩=false:=blk_free hN6
       have HQ7:Hid (HdB ((w5.setCell ⟨B,j,none⟩ (.slice x5 (dmF (gnK bid p bid.length)).1.length c5)).setCell ⟨N,j,none⟩ (.bool ((dmF (gnK bid p bid.length)).2 == 0))) B (tilL (wantsD m.b p) [] (j+1))∧((w5.setCell ⟨B,j,none⟩ (.slice x5 (dmF (gnK bid p bid.length)).1.length c5)).setCell ⟨N,j,none⟩ (.bool ((dmF (gnK bid p bid.length)).2 == 0))).heap[N]?=some (.cells (bocells (tilL (noneD m.b p) false (j+1))) 4 (0,0))∧Below w2.heap.size w2 ((w5.setCell ⟨B,j,none⟩ (.slice x5 (dmF (gnK bid p bid.length)).1.length c5)).setCell ⟨N,j,none⟩ (.bool ((dmF (gnK bid p bid.length)).2 == 0)))):=Lib.hid ⟨by
         rw [hw1.out]
         exact hQ6.setT hN6 (bocells_no _) HBN.out.2.2 _,by
         rw [hn1.out,← bocells_set]
         exact heap_setCell_same _ N j _ _ _ hN6,(HB5'.out.setCell (p:=⟨B,j,none⟩) HBN.out.1 _).setCell (p:=⟨N,j,none⟩) HBN.out.2.1 _⟩
       generalize (tilL (noneD m.b p) false j)[j]=ob at q4
       clear hQ5 hN5 hQ6 hN6 hi5 hb5 hw1 hn1 hjw hjn
       go_wp2_with fail
       go_roundw
       case rel=>exact ⟨j+1,by omega,rfl,by go_num,HQ7⟩
       case measure=>simp [intOf];omega
     · have hjj:j=m.b.length:=by omega
       subst hjj
       go_wp2_with fail
       have hf1:=tilL_full (wantsD m.b p) []
       rw [show (wantsD m.b p).length=m.b.length by simp [wantsD]] at hf1
       have hf2:=tilL_full (noneD m.b p) false
       rw [show (noneD m.b p).length=m.b.length by simp [noneD]] at hf2
       have hs:=HQ.out
       rw [hf1,hf2] at hs
       go_ret3
       exact ⟨B,N,rfl,HB2.out.trans (hs.2.2.mono hbw),Nat.le_trans hbw HBN.out.1,Nat.le_trans hbw HBN.out.2.1,HBN.out.2.2,hs.1,hs.2.1⟩
end
section
open Go.RowKit Go.Shelf
set_option linter.unusedVariables false
set_option linter.unusedSimpArgs false
attribute [local go_sem] Oper.semAt_some
structure GnOk (G:List (List Int)) (K:Nat):Prop where
 k1:1≤K
 k8:K≤8
 n8:G.length≤8
 row:∀ l ∈ G,l.length=K∧∀ z ∈ l,-1000000≤z∧z≤1000000
theorem wchk11_any (n:Int) (w:World) (h:-1000000≤n∧n≤1000000) :
   Calls Tryz.prog 93 #[.int .i64 n] w fun e w' => e=.returned (.bool false)∧Below w.heap.size w w':=by
 have d1:decide (n < -1000000)=false:=decide_eq_false (by omega)
 have d2:decide (1000000<n)=false:=decide_eq_false (by omega)
 go_enter Tryz.func93,Tryz.ntmps93
 go_wp2_with fail
 go_ret
 exact ⟨rfl,Below.refl _ _⟩
set_option maxHeartbeats 1000000 in
theorem wchk1_any (bx K:Nat) (a:Option Addr) (n c:Nat) (l:List Int) (w:World) (hx:w.cell? ⟨bx,0,none⟩=some (.int .i64 (K:Int))) (h:IsI w a n c l) (hl:l.length=K∧∀ z ∈ l,-1000000≤z∧z≤1000000) :
   Calls Tryz.prog 91 #[.slice a n c,.pointer (some ⟨bx,0,none⟩)] w fun e w' => e=.returned (.bool false)∧Below w.heap.size w w':=by
 obtain rfl:=h.1
 have HI:=Lib.hid h
 have HL:=Lib.hid hl.2
 have hlk:=hl.1
 subst hlk
 clear h hl
 go_enter Tryz.func91,Tryz.ntmps91
 go_wp2_with fail
 refine (conI_gen 93 #[] (fun _=>false) a l.length c l w HI.out (fun x W' => (enters_of Tryz.func93 (by kernel_rfl) rfl) _ _) (fun z hz W' hW' => wchk11_any z W' (HL.out z hz))).mono ?_
 rintro e w1 ⟨rfl,hb1⟩
 have HA:Hid (l.any (fun _=>false)=false):=Lib.hid (by simp)
 have HB1:=Lib.hid hb1
 clear hb1
 rw [HA.out]
 go_wp2_with fail
 go_ret
 exact ⟨rfl,HB1.out⟩
set_option maxHeartbeats 4000000 in
theorem wcheck_any (a:Option Addr) (n c:Nat) (G:List (List Int)) (K:Nat) (w:World) (h:IsII w a n c G) (hg:GnOk G K) :
   Calls Tryz.prog 76 #[.slice a n c,.int .i64 (K:Int)] w fun e w' => e=.returned (.bool true)∧Below w.heap.size w w':=by
 obtain rfl:=h.1
 have hb0:Below w.heap.size w (w.alloc (.cells #[.int .i64 (K:Int)] 3 (0,0))):=(Below.refl _ _).alloc (Nat.le_refl _) _
 have hv:=heap_new w (.cells #[.int .i64 (K:Int)] 3 (0,0))
 have h1:=hg.k1
 have h8:=hg.k8
 have hn:=hg.n8
 have d1:decide ((1:Int)≤(K:Int))=true:=decide_eq_true (by omega)
 have d2:decide ((K:Int)≤8)=true:=decide_eq_true (by omega)
 have d3:decide (1≤K)=true:=decide_eq_true (by omega)
 have d4:decide (K≤8)=true:=decide_eq_true (by omega)
 have d5:decide ((G.length:Int)≤8)=true:=decide_eq_true (by omega)
 have d6:decide (G.length≤8)=true:=decide_eq_true (by omega)
 have HI:=Lib.hid (h.below hb0)
 have HG:=Lib.hid hg.row
 have c0:(w.alloc (.cells #[.int .i64 (K:Int)] 3 (0,0))).cell? ⟨w.heap.size,0,none⟩=some (.int .i64 (K:Int)):=by rw [cell_of_block hv];rfl
 have HB0:=Lib.hid hb0
 clear h hg hb0 hv
 go_enter Tryz.func76,Tryz.ntmps76
 go_wp2_with fail
 generalize w.alloc (.cells #[.int .i64 (K:Int)] 3 (0,0))=W at HI c0 HB0 ⊢
 go_wp2_with fail
 refine (conII_gen 91 #[.pointer (some ⟨w.heap.size,0,none⟩)] (fun _=>false) a G.length c G W HI.out (fun x W' => (enters_of Tryz.func91 (by kernel_rfl) rfl) _ _) (fun z hz W' hW' x y q hzI=>wchk1_any w.heap.size K x y q z W' (cell_later hW' c0) hzI (HG.out z hz))).mono ?_
 rintro e w1 ⟨rfl,hb1⟩
 have HA:Hid (G.any (fun _=>false)=false):=Lib.hid (by simp)
 have HB1:=Lib.hid (HB0.out.trans (hb1.mono HB0.out.size))
 clear hb1
 rw [HA.out]
 go_wp2_with fail
 go_ret
 exact ⟨rfl,HB1.out⟩
def mxL (f:Int) (l:List Int):Int:=l.foldl max f
theorem mxL_snoc (f:Int) (l:List Int) (x:Int):mxL f (l ++ [x])=max (mxL f l) x:=by simp [mxL]
theorem mxL_ge (f:Int) (l:List Int):f≤mxL f l∧∀ x ∈ l,x≤mxL f l:=by
 induction l generalizing f with
 | nil=>exact ⟨Int.le_refl _,fun x h=>by cases h⟩
 | cons y l ih =>
   obtain ⟨h1,h2⟩:=ih (max f y)
   have e:mxL f (y :: l)=mxL (max f y) l:=rfl
   rw [e]
   refine ⟨by omega,fun x hx => ?_⟩
   rcases List.mem_cons.1 hx with rfl | hx
   · omega
   · exact h2 x hx
theorem mxL_at (f:Int) (l:List Int):mxL f l=f∨mxL f l ∈ l:=by
 induction l generalizing f with
 | nil=>exact .inl rfl
 | cons y l ih =>
   have e:mxL f (y :: l)=mxL (max f y) l:=rfl
   rw [e]
   rcases ih (max f y) with h | h
   · by_cases hq:y≤f
     · left;rw [h];omega
     · right;rw [h,show max f y=y by omega];exact List.mem_cons_self
   · exact .inr (List.mem_cons_of_mem _ h)
set_option maxHeartbeats 4000000 in
theorem most_any2 (f:Int) (a:Option Addr) (n c:Nat) (l:List Int) (w:World) (h:IsI w a n c l) :
   Calls Tryz.prog 94 #[.int .i64 f,.slice a n c] w fun e w' => e=.returned (.int .i64 (mxL f l))∧w=w':=by
 have hm:=h.len
 obtain rfl:=h.1
 have HI:=Lib.hid h
 clear h
 obtain ⟨N,hN⟩:∃ N,N=l.length:=⟨_,rfl⟩
 have HN:=Lib.hid hN
 clear hN
 go_enter Tryz.func94,Tryz.ntmps94
 go_wp2_with fail
 go_loopw [0,9] (fun v i wr => ∃ k:Nat,k≤l.length∧i=.int .i64 (k:Int)∧v=.int .i64 (mxL f (l.take k))∧wr=w) (fun _ i _=>N - (intOf i).toNat)
 case atStart=>exact ⟨0,Nat.zero_le _,rfl,by simp [mxL],rfl⟩
 case round =>
   obtain ⟨k,hk,rfl,rfl,rfl⟩:=hrel
   by_cases hlt:k<l.length
   · obtain ⟨b,off,rfl,hb,hc⟩:=HI.out.at k hlt
     have HE:Hid (mxL f (l.take (k+1))=max (mxL f (l.take k)) l[k]):=Lib.hid (by rw [List.take_succ_eq_append_getElem hlt,mxL_snoc])
     generalize mxL f (l.take k)=q at HE ⊢
     generalize l[k]=y at hc HE
     by_cases hq:q<y
     · have e1:decide (q<y)=true:=decide_eq_true hq
       have HE2:Hid (mxL f (l.take (k+1))=y):=Lib.hid (by rw [HE.out];omega)
       clear hq
       go_wp2_with fail
       go_roundw
       case rel=>exact ⟨k+1,by omega,by go_num,by rw [HE2.out],by first | rfl | trivial⟩
       case measure=>have:=HN.out;simp [intOf];omega
     · have e1:decide (q<y)=false:=decide_eq_false hq
       have HE2:Hid (mxL f (l.take (k+1))=q):=Lib.hid (by rw [HE.out];omega)
       clear hq
       go_wp2_with fail
       go_roundw
       case rel=>exact ⟨k+1,by omega,by go_num,by rw [HE2.out],by first | rfl | trivial⟩
       case measure=>have:=HN.out;simp [intOf];omega
   · have hkk:k=l.length:=by omega
     subst hkk
     have HE:Hid (mxL f (l.take l.length)=mxL f l):=Lib.hid (by rw [List.take_length])
     go_wp2_with fail
     go_ret
     exact ⟨by rw [← HE.out];rfl,rfl⟩
set_option maxHeartbeats 4000000 in
theorem weach_any (K:Nat) (w:World) (hK:K≤8) :
   Calls Tryz.prog 78 #[.int .i64 (K:Int),.slice none 0 0] w fun e w' => ∃ a c,e=.returned (.slice a K c)∧Below w.heap.size w w'∧IsI w' a K c ((List.range K).map Int.ofNat):=by
 go_enter Tryz.func78,Tryz.ntmps78
 go_wp2_with fail
 go_loopw [5,8] (fun v i wr => ∃ (k:Nat) (a:Option Addr) (c:Nat),k≤K∧i=.int .i64 (k:Int)∧v=.slice a k c∧Hid (wr.ownsRow w.heap.size 3 1 (.slice a k c) k (icells ((List.range k).map Int.ofNat))∧Below w.heap.size w wr)) (fun _ i _=>K - (intOf i).toNat)
 case atStart=>exact ⟨0,none,0,Nat.zero_le _,rfl,rfl,Lib.hid ⟨World.ownsRow_nil _ _ _ _,Below.refl _ _⟩⟩
 case round =>
   obtain ⟨k,a,c,hk,rfl,rfl,HQ⟩:=hrel
   have ho:=HQ.out.1
   have hbw:=HQ.out.2.size
   by_cases hlt:k<K
   · have HE:Hid ((List.range (k+1)).map Int.ofNat=(List.range k).map Int.ofNat ++ [(k:Int)]):=Lib.hid (by simp [List.range_succ])
     generalize (List.range k).map Int.ofNat=L at HE ho HQ
     go_wp2_with (at_builtin
                  refine wpList_append_any rowInt rfl (.tmp 11) (.tmp 13) rfl w.heap.size _ k (icells L) rfl (ho.alloc _) (some ⟨wr.heap.size,0,none⟩) 1 1 [.int .i64 (k:Int)] rfl rfl (At.one wr _ _) (one_cell _ rfl) (by unfold maxLen;omega) (by omega) (by simp;omega) ?_
                  intro b7 c7 w7 ho7 hg7 _
                  have HB7:=Lib.hid ((HQ.out.2.alloc HQ.out.2.size _).grown hg7 (by simp;omega) (fun k hk=>owns_base ho k hk))
                  have HO7:=Lib.hid ho7
                  clear ho7 hg7)
     go_roundw
     case rel=>exact ⟨k+1,b7,c7,by omega,by go_num,rfl,by rw [HE.out,icells_append];exact Lib.hid ⟨HO7.out,HB7.out⟩⟩
     case measure=>simp [intOf];omega
   · have hkk:k=K:=by omega
     subst hkk
     go_wp2_with (at_builtin
                  refine wpList_append_any rowInt rfl (.tmp 16) (.tmp 17) rfl w.heap.size _ k (icells ((List.range k).map Int.ofNat)) rfl ho none 0 0 [] rfl rfl (fun j u h=>by cases h) (fun u h=>by cases h) (by unfold maxLen;omega) (by omega) hbw ?_
                  intro b7 c7 w7 ho7 hg7 _
                  have HB7:=Lib.hid (HQ.out.2.grown hg7 hbw (fun k hk=>owns_base ho k hk))
                  have HO7:=Lib.hid ho7
                  clear ho7 hg7)
     go_ret
     refine ⟨b7,c7,rfl,HB7.out,?_⟩
     have h9:=HO7.out
     rw [List.append_nil] at h9
     exact isI_of_owns h9 (by simp)
end
section
open Go.RowKit Go.Shelf
set_option linter.unusedVariables false
set_option linter.unusedSimpArgs false
attribute [local go_sem] Oper.semAt_some
def mixU (L:List (List Int)) (bs:List Bool) (j:Nat):List (List Int):=(List.range L.length).map fun i=>if i<j∧bs.getD i false=true then [] else L.getD i []
def mustU (bs:List Bool) (j:Nat):List Int:=((List.range j).filter fun i => !bs.getD i false).map Int.ofNat
theorem mixU_length (L:List (List Int)) (bs:List Bool) (j:Nat):(mixU L bs j).length=L.length:=by simp [mixU]
theorem mixU_zero (L:List (List Int)) (bs:List Bool):mixU L bs 0=L:=by
 apply List.ext_getElem
 · simp [mixU]
 · intro i h1 h2;simp [mixU,h2]
theorem mixU_set (L:List (List Int)) (bs:List Bool) (j:Nat) (hj:j<L.length) (hb:bs.getD j false=true):mixU L bs (j+1)=(mixU L bs j).set j []:=by
 apply List.ext_getElem
 · simp [mixU]
 · intro i h1 h2
   have hi:i<L.length:=by simpa [mixU] using h1
   rw [List.getElem_set]
   by_cases e:j=i
   · subst e;simp only [mixU,List.getElem_map,List.getElem_range,if_true];rw [if_pos ⟨by omega,hb⟩]
   · simp only [mixU,List.getElem_map,List.getElem_range,e,if_false]
     by_cases e2:i<j
     · simp only [e2,show i<j+1 by omega,true_and]
     · simp only [e2,show ¬ i<j+1 by omega,false_and,if_false]
theorem mixU_keep (L:List (List Int)) (bs:List Bool) (j:Nat) (hb:bs.getD j false=false):mixU L bs (j+1)=mixU L bs j:=by
 apply List.map_congr_left
 intro i _
 by_cases e:i=j
 · subst e;rw [hb];simp
 · by_cases e2:i<j
   · simp only [e2,show i<j+1 by omega,true_and]
   · simp only [e2,show ¬ i<j+1 by omega,false_and,if_false]
theorem mustU_succ (bs:List Bool) (j:Nat):mustU bs (j+1)=mustU bs j ++ if bs.getD j false=true then [] else [(j:Int)]:=by
 unfold mustU
 rw [List.range_succ,List.filter_append,List.map_append]
 congr 1
 simp only [List.filter_cons,List.filter_nil]
 cases h:bs.getD j false
 · rfl
 · rfl
theorem mustU_len (bs:List Bool) (j:Nat):(mustU bs j).length≤j:=by
 unfold mustU
 rw [List.length_map]
 exact Nat.le_trans (List.length_filter_le _ _) (by simp)
structure StV (W:World) (S:Nat) (x:MkA) (m:MkC) (p:List Int) (L:List (List Int)) (mu:List Int):Prop where
 mv:MkT W x m
 l:L.length=m.b.length
 c:∃ pa pc B ma mc,W.heap[S]?=some (.cells (x.cells ++ [Value.slice pa p.length pc,Value.slice (some ⟨B,0,none⟩) m.b.length m.b.length,Value.slice ma mu.length mc]).toArray 131 (0,0))∧IsI W pa p.length pc p∧HdB W B L∧IsI W ma mu.length mc mu
structure AtQ (W4 wr:World) (S B:Nat) (C5:List Value) (L:List (List Int)) (mu:List Int):Prop where
 s:∃ a c,wr.heap[S]?=some (.cells (C5 ++ [Value.slice a mu.length c]).toArray 131 (0,0))∧wr.ownsRow W4.heap.size 3 1 (.slice a mu.length c) mu.length (icells mu)
 b:∃ C:Array Value,wr.heap[B]?=some (.cells C 22 (0,0))∧C.size=L.length∧∀ i (h:i<L.length),∃ x y z,C[i]?=some (.slice x y z)∧IsI W4 x y z L[i]
 t:Touch (fun k=>k=S∨k=B) W4 wr
theorem isI_touch_ty {S:Nat→Prop} {W W':World} {a:Option Addr} {n c:Nat} {l:List Int} (h:IsI W a n c l) (ht:Touch S W W') (hs:∀ k,S k→∃ C t,W.heap[k]?=some (.cells C t (0,0))∧∀ (i:Nat) (z:Int),C[i]?≠some (.int .i64 z)):IsI W' a n c l:=by
 obtain ⟨h1,h2,h3,h4 | ⟨b,off,rfl,hlt,hc⟩⟩:=h
 · exact ⟨h1,h2,h3,.inl h4⟩
 · refine ⟨h1,h2,h3,.inr ⟨b,off,rfl,Nat.lt_of_lt_of_le hlt ht.size,fun i hi=>ht.cell (hc i hi) (fun hS => ?_)⟩⟩
   obtain ⟨C,t,k1,k2⟩:=hs b hS
   have:=hc i hi
   rw [cell_of_block k1] at this
   exact k2 _ _ this
theorem AtQ.nil {W4 wr:World} {S B:Nat} {C5:List Value} {L:List (List Int)} {mu:List Int} (h:AtQ W4 wr S B C5 L mu) (hne:B≠S) (hB:B<W4.heap.size) (i:Nat):AtQ W4 (wr.setCell ⟨B,i,none⟩ (.slice none 0 0)) S B C5 (L.set i []) mu:=by
 obtain ⟨⟨a,c,s1,s2⟩,⟨C,b1,b2,b3⟩,ht⟩:=h
 refine ⟨⟨a,c,(Below.heap_setCell wr ⟨B,i,none⟩ _ S (fun e=>hne e.symm)).trans s1,owns_touch s2 (touch_set wr B i _) (fun k hk e=>by have:=owns_base s2 k hk;omega)⟩,⟨_,heap_setCell_same wr B i _ _ (.slice none 0 0) b1,by simp [b2],fun k hk => ?_⟩,ht.setCell _ _ (.inl (.inr rfl))⟩
 have hk':k<L.length:=by simpa using hk
 rw [Array.getElem?_setIfInBounds,List.getElem_set]
 by_cases e:i=k
 · subst e
   rw [if_pos rfl,if_pos (by rw [b2];exact hk'),if_pos rfl]
   exact ⟨none,0,0,rfl,IsI.nil _⟩
 · rw [if_neg e,if_neg e]
   exact b3 k hk'
theorem AtQ.app {W4 wr w3:World} {S B:Nat} {C5:List Value} {L:List (List Int)} {mu:List Int} (h:AtQ W4 wr S B C5 L mu) (hC:C5.length=5) (hne:B≠S) (hB:B<W4.heap.size) (hS:S<W4.heap.size) {a b3:Option Addr} {c c3:Nat} {o:Obj} {z:Int} (hs:wr.heap[S]?=some (.cells (C5 ++ [Value.slice a mu.length c]).toArray 131 (0,0))) (ho:wr.ownsRow W4.heap.size 3 1 (.slice a mu.length c) mu.length (icells mu)) (hg:(wr.alloc o).grownBy w3 (Value.slice a mu.length c).ownBlock) (ho3:w3.ownsRow W4.heap.size 3 1 (.slice b3 (mu.length+1) c3) (mu.length+1) (icells mu ++ [.int .i64 z])) :
   AtQ W4 (w3.setCell ⟨S,5,none⟩ (.slice b3 (mu.length+1) c3)) S B C5 L (mu ++ [z])∧w3.cell? ⟨S,5,none⟩=some (.slice a mu.length c)∧w3.frozen? ⟨S,5,none⟩=false:=by
 obtain ⟨_,⟨C,b1,b2,b3'⟩,ht⟩:=h
 have t3:Touch (fun k=>k=S∨k=B) W4 w3:=(ht.alloc o).grown hg (fun k hk=>.inr (owns_base ho k hk))
 have t4:Touch (fun k=>W4.heap.size≤k) wr w3:=((Touch.refl _ wr).alloc o).grown hg (fun k hk=>.inl (owns_base ho k hk))
 have s3:=t4.heap hs (by omega)
 have k3:=t4.heap b1 (by omega)
 have h5:(C5 ++ [Value.slice a mu.length c]).toArray[5]?=some (.slice a mu.length c):=by
   rw [List.getElem?_toArray,List.getElem?_append_right (by omega),hC];rfl
 refine ⟨⟨⟨b3,c3,?_,?_⟩,⟨C,(Below.heap_setCell w3 ⟨S,5,none⟩ _ B hne).trans k3,b2,b3'⟩,t3.setCell _ _ (.inl (.inl rfl))⟩,by rw [cell_of_block s3];exact h5,blk_free s3⟩
 · have e:(C5 ++ [Value.slice a mu.length c]).set 5 (Value.slice b3 (mu.length+1) c3)=C5 ++ [Value.slice b3 (mu.length+1) c3]:=by
     rw [List.set_append_right _ _ (by omega),hC];rfl
   rw [heap_setCell_same w3 S 5 _ _ _ s3,List.setIfInBounds_toArray,e,List.length_append];rfl
 · rw [icells_append,List.length_append]
   exact owns_touch ho3 (touch_set w3 S 5 _) (fun k hk e=>by have:=owns_base ho3 k hk;omega)
set_option maxRecDepth 100000 in
set_option maxHeartbeats 8000000 in
theorem at_any (x:MkA) (m:MkC) (pa:Option Addr) (pn pc:Nat) (p:List Int) (w:World) (h:MkT w x m) (hp:IsI w pa pn pc p) (hpo:PrOk p) (hpl:p.length=m.r.length) :
   Calls Tryz.prog 83 #[.agg x.cells.toArray,.slice pa pn pc] w fun e W => ∃ S,e=.returned (.pointer (some ⟨S,0,none⟩))∧Below w.heap.size w W∧w.heap.size≤S∧StV W S x m p (mixU (wantsD m.b p) (noneD m.b p) m.b.length) (mustU (noneD m.b p) m.b.length):=by
 obtain ⟨ra,rn,rc,ba,bn,bc,bv,oa,on,oc⟩:=x
 have hr:=h.r
 have hbb:=h.b
 have ho:=h.o
 unfold MkA.cells
 dsimp only at hr hbb ho ⊢
 obtain rfl:=hr.1
 obtain rfl:=hbb.1
 obtain rfl:=ho.1
 obtain rfl:=hp.1
 have hp8:=hpo.l8
 obtain ⟨b1,b2,b3,b4,b5⟩:=mktB_bd h.ok
 have HPO:=Lib.hid hpo
 have HPL:=Lib.hid hpl
 have hb0:Below w.heap.size w (w.alloc (.cells #[.slice ra m.r.length rc,.slice ba m.b.length bc,.slice oa m.o.length oc] 25)):=(Below.refl _ _).alloc (Nat.le_refl _) _
 have hv:=heap_new w (.cells #[.slice ra m.r.length rc,.slice ba m.b.length bc,.slice oa m.o.length oc] 25 (0,0))
 have HM:=Lib.hid (h.below hb0)
 have HP:=Lib.hid (hp.below hb0)
 have HMW:=Lib.hid h
 clear h hp hr hbb ho b1 b4 b5 hpo hpl
 go_enter Tryz.func83,Tryz.ntmps83
 go_wp2_with fail
 generalize w.alloc (.cells #[.slice ra m.r.length rc,.slice ba m.b.length bc,.slice oa m.o.length oc] 25)=W at hb0 hv HM HP ⊢
 have c0:W.cell? ⟨w.heap.size,0,none⟩=some (.slice ra m.r.length rc):=by rw [cell_of_block hv];rfl
 have c1:W.cell? ⟨w.heap.size,1,none⟩=some (.slice ba m.b.length bc):=by rw [cell_of_block hv];rfl
 have c2:W.cell? ⟨w.heap.size,2,none⟩=some (.slice oa m.o.length oc):=by rw [cell_of_block hv];rfl
 have HB0:=Lib.hid hb0
 clear hb0 hv
 go_region_with ((go_at_call 57;refine (iclone_any pa p.length pc p _ (HP.out.below (by first | exact Below.refl _ _ | exact (Below.refl _ _).drew)) (by omega)).mono ?_;rintro e w1 ⟨a1,d1,rfl,hb1,ho1⟩;have k0:=cell_later hb1 c0;have k1:=cell_later hb1 c1;have k2:=cell_later hb1 c2))
 all_goals
   have hb1':Below W.heap.size W w1:=by first | exact hb1 | exact (Below.refl _ _).drew.trans hb1
   have ho1':w1.ownsRow W.heap.size 3 1 (.slice a1 p.length d1) p.length (icells p):=ho1
   clear hb1 ho1
   have hb2:Below w1.heap.size w1 (w1.alloc (.cells #[.slice ra m.r.length rc,.slice ba m.b.length bc,.slice oa m.o.length oc,.slice a1 p.length d1,.slice none 0 0,.slice none 0 0] 131)):=(Below.refl _ _).alloc (Nat.le_refl _) _
   have v2:=heap_new w1 (.cells #[.slice ra m.r.length rc,.slice ba m.b.length bc,.slice oa m.o.length oc,.slice a1 p.length d1,.slice none 0 0,.slice none 0 0] 131 (0,0))
   have l0:=cell_later hb2 k0
   have l1:=cell_later hb2 k1
   have l2:=cell_later hb2 k2
   have HP2:=Lib.hid ((isI_of_owns ho1' rfl).below hb2)
   have HPP:=Lib.hid ((HP.out.below hb1').below hb2)
   have HM2:=Lib.hid ((HM.out.below hb1').below hb2)
   have HB2:=Lib.hid (HB0.out.trans ((hb1'.trans (hb2.mono hb1'.size)).mono HB0.out.size))
   have hw1:w.heap.size≤w1.heap.size:=Nat.le_trans HB0.out.size hb1'.size
   clear k0 k1 k2 ho1' hb1' hb2 HM HP HB0
   simp only [Act.put,List.getElem_toArray,List.getElem_cons_succ,List.getElem_cons_zero,List.setIfInBounds_toArray,List.set_cons_zero,List.set_cons_succ]
   revert v2 l0 l1 l2 HP2 HPP HM2 HB2
   generalize (w1.alloc (.cells #[.slice ra m.r.length rc,.slice ba m.b.length bc,.slice oa m.o.length oc,.slice a1 p.length d1,.slice none 0 0,.slice none 0 0] 131))=W2
   intro v2 l0 l1 l2 HP2 HPP HM2 HB2
   have HV2:=Lib.hid v2
   clear v2
   go_wp2_with fail
   refine (dall_any ⟨ra,m.r.length,rc,ba,m.b.length,bc,bv,oa,m.o.length,oc⟩ m pa p.length pc p W2 HM2.out HPP.out HPO.out HPL.out).mono ?_;rintro e W4 ⟨B,N,rfl,hb4,hB,hN,hBN,hd,hn⟩
   have hv4:=below_heap hb4 HV2.out (lt_of_heap HV2.out)
   have hsW:=lt_of_heap HV2.out
   have HP4:=Lib.hid (HP2.out.below hb4)
   have HB4:=Lib.hid (HB2.out.trans (hb4.mono HB2.out.size))
   have HN4:=Lib.hid hn
   have HQ0:Hid (AtQ W4 W4 w1.heap.size B [.slice ra m.r.length rc,.slice ba m.b.length bc,.slice oa m.o.length oc,.slice a1 p.length d1,.slice none 0 0] (mixU (wantsD m.b p) (noneD m.b p) 0) (mustU (noneD m.b p) 0)):=Lib.hid ⟨⟨none,0,hv4,World.ownsRow_nil _ _ _ _⟩,by rw [mixU_zero];exact hd,Touch.refl _ _⟩
   have HD4:=Lib.hid hd
   have HBS:Hid (B≠w1.heap.size∧N≠w1.heap.size∧B≠N∧B<W4.heap.size∧N<W4.heap.size∧w1.heap.size<W4.heap.size):=Lib.hid ⟨by omega,by omega,hBN,hd.lt,lt_of_heap hn,lt_of_heap hv4⟩
   clear l0 l1 l2 hd hn hv4 hb4 HP2 HPP HM2 HV2 HB2
   go_wp2_with fail
   go_loopw [24] (fun i wr => ∃ j:Nat,j≤m.b.length∧i=.int .i64 (j:Int)∧Hid (AtQ W4 wr w1.heap.size B [.slice ra m.r.length rc,.slice ba m.b.length bc,.slice oa m.o.length oc,.slice a1 p.length d1,.slice none 0 0] (mixU (wantsD m.b p) (noneD m.b p) j) (mustU (noneD m.b p) j))) (fun i _=>m.b.length - (intOf i).toNat)
   case atStart=>exact ⟨0,Nat.zero_le _,rfl,HQ0⟩
   case round =>
     obtain ⟨j,hj,rfl,HQ⟩:=hrel
     by_cases hlt:j<m.b.length
     · have hnl:j<(noneD m.b p).length:=by simpa [noneD] using hlt
       have hNw:=HQ.out.t.heap HN4.out (by have:=HBS.out;omega)
       have kn:wr.cell? ⟨N,j,none⟩=some (.bool (noneD m.b p)[j]):=by rw [cell_of_block hNw];exact bocells_get _ _ hnl
       have hwl:j<(mixU (wantsD m.b p) (noneD m.b p) j).length:=by rw [mixU_length];simpa [wantsD] using hlt
       have hgd:(noneD m.b p).getD j false=(noneD m.b p)[j]:=by rw [List.getD_eq_getElem?_getD,List.getElem?_eq_getElem hnl];rfl
       cases hq:(noneD m.b p)[j] with
       | true =>
         rw [hq] at kn hgd
         have HX:Hid (AtQ W4 (wr.setCell ⟨B,j,none⟩ (.slice none 0 0)) w1.heap.size B [.slice ra m.r.length rc,.slice ba m.b.length bc,.slice oa m.o.length oc,.slice a1 p.length d1,.slice none 0 0] (mixU (wantsD m.b p) (noneD m.b p) (j+1)) (mustU (noneD m.b p) (j+1))):=Lib.hid (by
           rw [mixU_set _ _ j (by simpa [wantsD] using hlt) hgd,mustU_succ,hgd,if_pos rfl,List.append_nil]
           exact HQ.out.nil HBS.out.1 HBS.out.2.2.2.1 j)
         obtain ⟨C,b1,b2',b3'⟩:=HQ.out.b
         obtain ⟨x',y',z',q1,q2⟩:=b3' j hwl
         have kb:wr.cell? ⟨B,j,none⟩=some (.slice x' y' z'):=by rw [cell_of_block b1];exact q1
         have zb:wr.frozen? ⟨B,j,none⟩=false:=blk_free b1
         clear q2 hq hgd hNw hnl b1 b2' b3' q1 hwl
         go_wp2_with fail
         go_roundw
         case rel=>exact ⟨j+1,by omega,by go_num,HX⟩
         case measure=>simp [intOf];omega
       | false =>
         rw [hq] at kn hgd
         have HE:Hid (mixU (wantsD m.b p) (noneD m.b p) (j+1)=mixU (wantsD m.b p) (noneD m.b p) j∧mustU (noneD m.b p) (j+1)=mustU (noneD m.b p) j ++ [(j:Int)]):=Lib.hid ⟨mixU_keep _ _ _ hgd,by rw [mustU_succ,hgd];rfl⟩
         have hml:=mustU_len (noneD m.b p) j
         obtain ⟨ma,mc,s1,s2⟩:=HQ.out.s
         generalize mustU (noneD m.b p) j=mu at HQ HE hml s1 s2
         have ks:wr.cell? ⟨w1.heap.size,5,none⟩=some (.slice ma mu.length mc):=by rw [cell_of_block s1];rfl
         have hsz:W4.heap.size≤wr.heap.size:=HQ.out.t.size
         clear hq hgd hNw hwl hnl
         go_wp2_with (at_builtin
                      refine wpList_append_any rowInt rfl (.tmp 38) (.tmp 40) rfl W4.heap.size _ mu.length (icells mu) rfl (s2.alloc _) (some ⟨wr.heap.size,0,none⟩) 1 1 [.int .i64 (j:Int)] rfl rfl (At.one wr _ _) (one_cell _ rfl) (by unfold maxLen;omega) (by omega) (by simp;omega) ?_
                      intro b3 c3 w3 ho3 hg3 _
                      obtain ⟨hX,kX,zX⟩:=HQ.out.app rfl HBS.out.1 HBS.out.2.2.2.1 HBS.out.2.2.2.2.2 s1 s2 hg3 ho3
                      have HX:=Lib.hid hX
                      clear hX ho3 hg3)
         go_roundw
         case rel=>exact ⟨j+1,by omega,by go_num,by rw [HE.out.1,HE.out.2];exact HX⟩
         case measure=>simp [intOf];omega
     · have hjj:j=m.b.length:=by omega
       subst hjj
       obtain ⟨⟨ma,mc,s1,s2⟩,⟨C,b1,b2',b3'⟩,ht⟩:=HQ.out
       have ks:wr.cell? ⟨w1.heap.size,4,none⟩=some (.slice none 0 0):=by rw [cell_of_block s1];rfl
       have zs:wr.frozen? ⟨w1.heap.size,4,none⟩=false:=blk_free s1
       have HS1:=Lib.hid s1
       have HS2:=Lib.hid s2
       have HB1:=Lib.hid b1
       have HB2:=Lib.hid b2'
       have HB3:=Lib.hid b3'
       have HT:=Lib.hid ht
       clear s1 s2 b1 b2' b3' ht
       go_wp2_with fail
       go_ret
       have t5:Touch (fun k=>k=w1.heap.size∨k=B) W4 (wr.setCell ⟨w1.heap.size,4,none⟩ (.slice (some ⟨B,0,none⟩) m.b.length m.b.length)):=HT.out.setCell _ _ (.inl (.inl rfl))
       have hty:∀ k,(k=w1.heap.size∨k=B)→∃ C t,W4.heap[k]?=some (.cells C t (0,0))∧∀ (i:Nat) (z:Int),C[i]?≠some (.int .i64 z):=fun k hk=>by
         rcases hk with rfl | rfl
         · obtain ⟨a0,c0',s0,_⟩:=HQ0.out.s
           refine ⟨_,_,s0,fun i z e => ?_⟩
           rw [List.getElem?_toArray] at e
           have:=List.mem_of_getElem? e
           simp at this
         · obtain ⟨C0,b0,b01,b02⟩:=HD4.out
           refine ⟨_,_,b0,fun i z e => ?_⟩
           have hi:=(Array.getElem?_eq_some_iff.1 e).1
           obtain ⟨x0,y0,z0,e0,_⟩:=b02 i (by omega)
           rw [e] at e0;cases e0
       have hbw:Below w.heap.size w (wr.setCell ⟨w1.heap.size,4,none⟩ (.slice (some ⟨B,0,none⟩) m.b.length m.b.length)):=HB4.out.trans (t5.below HB4.out.size (fun k hk e=>by rcases e with e | e <;> omega))
       refine ⟨w1.heap.size,rfl,hbw,hw1,HMW.out.below hbw,by rw [mixU_length];simp [wantsD],a1,d1,B,ma,mc,?_,isI_touch_ty HP4.out t5 hty,⟨C,?_,HB2.out,fun i hi => ?_⟩,?_⟩
       · rw [heap_setCell_same wr w1.heap.size 4 _ _ _ HS1.out];rfl
       · exact (Below.heap_setCell wr ⟨w1.heap.size,4,none⟩ _ B HBS.out.1).trans HB1.out
       · obtain ⟨x',y',z',q1,q2⟩:=HB3.out i hi
         exact ⟨x',y',z',q1,isI_touch_ty q2 t5 hty⟩
       · exact isI_of_owns (owns_touch HS2.out (touch_set wr w1.heap.size 4 _) (fun k hk e=>by have:=owns_base HS2.out k hk;have:=HBS.out;omega)) rfl
end
end Go.Proofs.YtmmmjohoihpbeaaGreat
