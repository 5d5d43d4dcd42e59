/- Judges: what is the least;plain laws;no condition but those typed. -/
import Derived.Test.YtmmmjohoihpbeaaGreatQOJwGaJwFiJwFf
import Derived.Test.YtmmmjohoihpbeaaGreatQOJmgJmlJmnJwL
import Derived.Test.YtmmmjohoihpbeaaGreatQOStMktJwEJwTm
import Derived.Test.YtmmmjohoihpbeaaGreatQOJwVJwMJwW
import Derived.Test.YtmmmjohoihpbeaaGreatQOMChkJwAr
import Derived.Deep.CutBlock
import Derived.Deep.DeepCutAuto
import Derived.Test.YtmmmjohoihpbeaaGreatQOJwMbJmhJwMcJmjJrHJmk
namespace Go.Proofs.YtmmmjohoihpbeaaGreat
section
open JM
set_option linter.unusedVariables false
theorem gval_congr {n K:Nat} {g g':Nat→Nat→Int} (h:∀ i k,i<n→k<K→g i k=g' i k) {m:Nat→Option Nat} (hm:Mt n K m):sumN n (gval g m)=sumN n (gval g' m):=sumN_congr fun i hi=>by
 cases e:m i with
 | none=>rw [gval_none e,gval_none e]
 | some k=>rw [gval_some e,gval_some e];exact h i k hi (hm.lt i k hi e)
theorem JM.IsBest.congr {n K:Nat} {g g':Nat→Nat→Int} {w:Int} (hw:IsBest n K g w) (h:∀ i k,i<n→k<K→g i k=g' i k):IsBest n K g' w :=
 ⟨fun m hm=>by rw [← gval_congr h hm];exact hw.le m hm,by obtain ⟨m,h1,h2⟩:=hw.ex;exact ⟨m,h1,by rw [← gval_congr h h1];exact h2⟩⟩
theorem bestV_congr {n K:Nat} {g g':Nat→Nat→Int} (h:∀ i k,i<n→k<K→g i k=g' i k):bestV n K g=bestV n K g':=bestV_of ((bestV_is n K g).congr h)
theorem sumN_bd {n:Nat} {f:Nat→Int} {B:Int} (h:∀ i,i<n→-B≤f i∧f i≤B):-(n*B)≤sumN n f∧sumN n f≤n*B:=by
 induction n with
 | zero=>simp [sumN]
 | succ n ih =>
   have h1:=ih fun i hi=>h i (by omega)
   have h2:=h n (by omega)
   simp only [sumN]
   have e:((n+1:Nat):Int)*B=n*B+B:=by rw [Int.natCast_add,Int.add_mul];simp
   rw [e];omega
theorem bestV_bd {n K:Nat} {g:Nat→Nat→Int} (h:∀ i k,i<n→k<K→g i k≤1000000):0≤bestV n K g∧bestV n K g≤n*1000000:=by
 have hw:=bestV_is n K g
 obtain ⟨m,h1,h2⟩:=hw.ex
 have hz:sumN n (gval g fun _=>none)=0:=(sumN_congr (g:=fun _=>0) fun i _=>rfl).trans (sumN_zero n)
 have h0:=hw.le (fun _=>none) ⟨(fun _ _ _ e=>by cases e),(fun _ _ _ _ _ e=>by cases e)⟩
 refine ⟨by omega,?_⟩
 rw [← h2]
 have h3:sumN n (gval g m)≤sumN n (fun _=>1000000):=sumN_le fun i hi=>by
   cases e:m i with
   | none=>rw [gval_none e];omega
   | some k=>rw [gval_some e];exact h i k hi (h1.lt i k hi e)
 have h4:=(sumN_bd (n:=n) (f:=fun _=>1000000) (B:=1000000) (fun i _=>by omega)).2
 omega
def sumV (r:List Int) (b:List (List Int)) (has:List Int):Int:=sumN b.length (gval (gn r b) (mo has))
noncomputable def topV (r:List Int) (b:List (List Int)):Int:=bestV b.length r.length (gn r b)
noncomputable def topW (r:List Int) (b:List (List Int)) (i:Nat):Int:=bestV b.length r.length (fun x y=>if x=i then -1 else gn r b x y)
theorem gn_set {r:List Int} {b:List (List Int)} {i x y:Nat} (hx:x<b.length):gn r (b.set i []) x y=if x=i then -1 else gn r b x y:=by
 unfold gn
 have e:(b.set i []).getD x []=if x=i then [] else b.getD x []:=by
   rw [getD_get (by simpa using hx),List.getElem_set]
   by_cases h:i=x
   · rw [if_pos h,if_pos h.symm]
   · rw [if_neg h,if_neg (fun e=>h e.symm),getD_get hx]
 rw [e]
 by_cases h:x=i
 · rw [if_pos h,if_pos rfl,if_pos h]
 · rw [if_neg h,if_neg h]
theorem topV_set {r:List Int} {b:List (List Int)} (i:Nat):topV r (b.set i [])=topW r b i:=by
 unfold topV topW
 rw [List.length_set]
 exact bestV_congr fun x y hx hy=>gn_set hx
structure LeastC (r:List Int) (b:List (List Int)) (has P:List Int):Prop where
 ev:EvenP r b has P
 be:sumV r b has=topV r b
 pd:PaidP r b has P (sumV r b has)
theorem JM.OutOk.leastC {r:List Int} {b:List (List Int)} {has P:List Int} (h:OutOk r b has P):LeastC r b has P :=
 ⟨h.even,h.best _ (bestV_is _ _ _),by
   have e:sumV r b has=topV r b:=h.best _ (bestV_is _ _ _)
   rw [e];exact h.paid (bestV_is _ _ _)⟩
noncomputable def wantV (r:List Int) (b:List (List Int)) (has:List Int):Nat→Nat→Int
 | 0,k=>r.getD k 0
 | j+1,k=>if mo has j=some k then wantV r b has j k+(topW r b j - (sumV r b has - gn r b j k)) else wantV r b has j k
theorem wantV_no {r:List Int} {b:List (List Int)} {has:List Int} {k:Nat}:∀ j,(∀ i,i<j→mo has i≠some k)→wantV r b has j k=r.getD k 0
 | 0,_=>rfl
 | j+1,h=>by
   simp only [wantV]
   rw [if_neg (h j (Nat.lt_succ_self j))]
   exact wantV_no j fun i hi=>h i (by omega)
theorem wantV_yes {r:List Int} {b:List (List Int)} {has:List Int} {n i k:Nat} (hm:Mt n r.length (mo has)) (hi:i<n) (e:mo has i=some k):∀ j,i<j→j≤n→wantV r b has j k=r.getD k 0+(topW r b i - (sumV r b has - gn r b i k))
 | 0,h,_=>by omega
 | j+1,h,hj=>by
   simp only [wantV]
   by_cases hij:i=j
   · subst hij
     rw [if_pos e,wantV_no i fun x hx ex=>by have:=hm.inj x i k (by omega) hi ex e;omega]
   · rw [if_neg fun ej=>hij (hm.inj i j k hi (by omega) e ej)]
     exact wantV_yes hm hi e j (by omega) (by omega)
theorem paid_iff {r:List Int} {b:List (List Int)} {has P:List Int} (h:EvenP r b has P):PaidP r b has P (sumV r b has)↔∀ k,k<r.length→P.getD k 0=wantV r b has b.length k:=by
 constructor
 · intro hp k hk
   by_cases hu:Used b.length (mo has) k
   · obtain ⟨i,hi,e⟩:=hu
     rw [wantV_yes h.mt hi e _ hi (Nat.le_refl _)]
     exact hp.sold i k hi e _ (bestV_is _ _ _)
   · rw [wantV_no _ fun i hi e=>hu ⟨i,hi,e⟩]
     exact hp.not k hk hu
 · intro hw
   refine ⟨fun i k hi e w' hw' => ?_,fun k hk hu => ?_⟩
   · rw [hw k (h.mt.lt i k hi e),wantV_yes h.mt hi e _ hi (Nat.le_refl _),bestV_of hw'];rfl
   · rw [hw k hk,wantV_no _ fun i hi e=>hu ⟨i,hi,e⟩]
theorem gn_bd {r:List Int} {b:List (List Int)} (h:MkOk r b) {i k:Nat} (hi:i<b.length) (hk:k<r.length):-1000000≤gn r b i k∧gn r b i k≤1000000:=by
 unfold gn
 have h1:=h.hr k hk
 split
 · omega
 · rename_i hne
   have h2:=(h.hb i hi hne).2 k hk
   omega
theorem sumV_bd {r:List Int} {b:List (List Int)} {has:List Int} (h:MkOk r b) (hm:Mt b.length r.length (mo has)):-8000000≤sumV r b has∧sumV r b has≤8000000:=by
 have h1:=sumN_bd (n:=b.length) (f:=gval (gn r b) (mo has)) (B:=1000000) (fun i hi=>by
   cases e:mo has i with
   | none=>rw [gval_none e];omega
   | some k=>rw [gval_some e];exact gn_bd h hi (hm.lt i k hi e))
 have:=h.hn.2
 unfold sumV
 omega
theorem topW_bd {r:List Int} {b:List (List Int)} (h:MkOk r b) (i:Nat):0≤topW r b i∧topW r b i≤8000000:=by
 have h1:=bestV_bd (n:=b.length) (K:=r.length) (g:=fun x y=>if x=i then -1 else gn r b x y) fun x k hx hk=>by
   (try dsimp only)
   split
   · omega
   · exact (gn_bd h hx hk).2
 have:=h.hn.2
 unfold topW
 omega
theorem lost_bd {r:List Int} {b:List (List Int)} {has:List Int} (h:MkOk r b) (hm:Mt b.length r.length (mo has)) {i k:Nat} (hi:i<b.length) (hk:k<r.length):-20000000≤topW r b i - (sumV r b has - gn r b i k)∧topW r b i - (sumV r b has - gn r b i k)≤20000000:=by
 have h1:=topW_bd h i
 have h2:=sumV_bd h hm
 have h3:=gn_bd h hi hk
 omega
theorem wantV_bd {r:List Int} {b:List (List Int)} {has:List Int} (h:MkOk r b) (hm:Mt b.length r.length (mo has)) {k:Nat} (hk:k<r.length):∀ j,j≤b.length→-(1000000+j*20000000:Int)≤wantV r b has j k∧wantV r b has j k≤1000000+j*20000000
 | 0,_=>by have:=h.hr k hk;simp only [wantV];omega
 | j+1,hj=>by
   have ih:=wantV_bd h hm hk j (by omega)
   simp only [wantV]
   split
   · have:=lost_bd h hm (i:=j) (k:=k) (by omega) hk;omega
   · omega
noncomputable def wantL2 (r:List Int) (b:List (List Int)) (has:List Int) (j:Nat):List Int:=(List.range r.length).map (wantV r b has j)
theorem wantL2_length (r:List Int) (b:List (List Int)) (has:List Int) (j:Nat):(wantL2 r b has j).length=r.length:=by simp [wantL2]
theorem wantL2_zero (r:List Int) (b:List (List Int)) (has:List Int):wantL2 r b has 0=r:=by
 apply List.ext_getElem
 · simp [wantL2]
 · intro i h1 h2;simp [wantL2,wantV,h2]
theorem wantL2_at {r:List Int} {b:List (List Int)} {has:List Int} {j k:Nat} (hk:k<r.length):(wantL2 r b has j)[k]'(by rw [wantL2_length];exact hk)=wantV r b has j k:=by simp [wantL2]
theorem wantL2_none {r:List Int} {b:List (List Int)} {has:List Int} {j:Nat} (h:mo has j=none):wantL2 r b has (j+1)=wantL2 r b has j:=by
 have e:∀ k,wantV r b has (j+1) k=wantV r b has j k:=fun k=>by
   simp only [wantV]
   rw [if_neg (by rw [h];exact fun e=>by cases e)]
 unfold wantL2
 exact List.map_congr_left fun k _=>e k
theorem wantL2_some {r:List Int} {b:List (List Int)} {has:List Int} {j k:Nat} (h:mo has j=some k) (hk:k<r.length):(wantL2 r b has j).set k (wantV r b has j k+(topW r b j - (sumV r b has - gn r b j k)))=wantL2 r b has (j+1):=by
 apply List.ext_getElem
 · simp [wantL2]
 · intro i h1 h2
   have hi:i<r.length:=by rwa [wantL2_length] at h2
   rw [List.getElem_set,wantL2_at (j:=j+1) hi,wantL2_at (j:=j) hi]
   simp only [wantV]
   by_cases e:k=i
   · subst e;rw [if_pos rfl,if_pos h]
   · rw [if_neg e,if_neg (by rw [h];exact fun e2=>e (Option.some.inj e2))]
theorem paid_list {r:List Int} {b:List (List Int)} {has P:List Int} (h:EvenP r b has P):PaidP r b has P (sumV r b has)↔wantL2 r b has b.length=P:=by
 rw [paid_iff h]
 constructor
 · intro hw
   apply List.ext_getElem
   · rw [wantL2_length,h.pl]
   · intro i h1 h2
     have hi:i<r.length:=by rwa [wantL2_length] at h1
     rw [wantL2_at hi,← hw i hi,getD_get h2]
 · intro e k hk
   rw [← e,getD_get (by rw [wantL2_length];exact hk),wantL2_at hk]
end
section
open Go.RowKit Go.Shelf
set_option linter.unusedVariables false
set_option linter.unusedSimpArgs false
attribute [local go_sem] Oper.semAt_some
theorem info_out:(Tryz.prog.info? 27).map (·.size)=some 2:=by kernel_rfl
theorem out_one (a b:Option Addr) (n c m d:Nat):∀ v ∈ [Value.slice a n c,Value.slice b m d],v.oneCell'=true:=by intro v hv;simp at hv;rcases hv with rfl | rfl <;> rfl
def OutQ (m:MkC) (w:World) (e:Ending) (W:World):Prop:=∃ ha hc pa pc has P,e=.returned (.tuple #[.agg #[.slice ha m.b.length hc,.slice pa m.r.length pc],.int .i64 0])∧Below w.heap.size w W∧IsI W ha m.b.length hc has∧IsI W pa m.r.length pc P∧JM.OutOk m.r m.b has P
theorem outOk_of {r:List Int} {b:List (List Int)} {hf:Nat→Int} {T:Nat} {want:Int} {m:Nat→Option Nat} {p:List Int} (hk:JM.MkOk r b) (hp:JM.Pick (gnL r b).length r.length (gL (gnL r b)) (bestV (gnL r b).length r.length (gL (gnL r b))) [] T want m) (hh:HasF (gnL r b).length [] hf m) (hr:JM.RisP r b p) (hl:JM.Leastp b.length r.length (JM.gn r b) (JM.ov r p)):JM.OutOk r b ((List.range b.length).map hf) p:=by
 rw [gnL_length] at hp hh
 have hmo:∀ i,i<b.length→JM.mo ((List.range b.length).map hf) i=m i:=fun i hi=>hh.mo i hi
 have hmt:JM.Mt b.length r.length (JM.mo ((List.range b.length).map hf)):=⟨fun i k hi e=>hp.mt.lt i k hi (by rw [← hmo i hi];exact e),fun i j k hi hj e1 e2=>hp.mt.inj i j k hi hj (by rw [← hmo i hi];exact e1) (by rw [← hmo j hj];exact e2)⟩
 have hpr:=hr.pr
 refine ⟨by simp,hr.m.pl,hl,fun k hk => ?_,fun i hi => ?_,hmt,fun w hw => ?_⟩
 · have hkp:k<p.length:=by rw [hr.m.pl];exact hk
   rw [getD_get hkp]
   exact (hpr.b _ (List.getElem_mem hkp)).2
 · rw [getD_get (by simpa using hi)]
   simp only [List.getElem_map,List.getElem_range]
   exact hh.low i hi
 · have h1:=hp.done
   have h2:bestV b.length r.length (gL (gnL r b))=bestV b.length r.length (JM.gn r b):=bestV_congr fun i k hi hk=>gL_gnL hi hk
   rw [bestV_of hw,← h2,← h1]
   have h3:=gval_congr (g:=gL (gnL r b)) (g':=JM.gn r b) (fun i k hi hk=>gL_gnL hi hk) hp.mt
   rw [h3]
   exact JM.sumN_congr fun i hi=>by unfold JM.gval;rw [hmo i hi]
set_option maxRecDepth 100000 in
set_option maxHeartbeats 8000000 in
theorem outOf_any (x:MkA) (m:MkC) (w:World) (h:MkT w x m) :
   Calls Tryz.prog 20 #[.agg x.cells.toArray] w (OutQ m w):=by
 obtain ⟨ra,rn,rc,ba,bn,bc,bv,oa,on,oc⟩:=x
 have hr:=h.r
 have hbb:=h.b
 have ho:=h.o
 unfold MkA.cells
 dsimp only at hr hbb ho ⊢
 obtain rfl:=hr.1
 obtain rfl:=hbb.1
 obtain rfl:=ho.1
 have hmo:=mktB_ok h.ok
 have HOO:=Lib.hid (mktB_bd h.ok).2.2.2.1
 have HMO:=Lib.hid hmo
 obtain ⟨hb0,m0,m1⟩:=alloc2_facts w (.cells #[.slice ra m.r.length rc,.slice ba m.b.length bc,.slice oa m.o.length oc] 25 (0,0)) (.cells #[.slice none 0 0,.slice none 0 0] 27 (0,0))
 have HM:=Lib.hid (h.below hb0)
 have HMW:=Lib.hid h
 clear h hr hbb ho hmo
 go_enter Tryz.func20,Tryz.ntmps20
 go_wp2_with fail
 generalize ((w.alloc (.cells #[.slice ra m.r.length rc,.slice ba m.b.length bc,.slice oa m.o.length oc] 25)).alloc (.cells #[.slice none 0 0,.slice none 0 0] 27))=W at hb0 m0 m1 HM ⊢
 have c0:W.cell? ⟨w.heap.size,0,none⟩=some (.slice ra m.r.length rc):=by rw [cell_of_block m0];rfl
 have c1:W.cell? ⟨w.heap.size,1,none⟩=some (.slice ba m.b.length bc):=by rw [cell_of_block m0];rfl
 have c2:W.cell? ⟨w.heap.size,2,none⟩=some (.slice oa m.o.length oc):=by rw [cell_of_block m0];rfl
 have HB0:=Lib.hid hb0
 have H0:=Lib.hid m0
 have H1:=Lib.hid m1
 clear hb0 m0 m1
 refine (gains_any ⟨ra,m.r.length,rc,ba,m.b.length,bc,bv,oa,m.o.length,oc⟩ m W HM.out).mono ?_;rintro e w1 ⟨B,rfl,hb1,hg1,_⟩
 have HB1:=Lib.hid (HB0.out.trans (hb1.mono HB0.out.size))
 have HM1:=Lib.hid (HM.out.below hb1)
 have H01:=Lib.hid (below_heap hb1 H0.out (lt_of_heap H0.out))
 have H11:=Lib.hid (below_heap hb1 H1.out (lt_of_heap H1.out))
 have HG1:=Lib.hid hg1
 have k0:=cell_later hb1 c0
 have k1:=cell_later hb1 c1
 have k2:=cell_later hb1 c2
 clear hb1 hg1 c0 c1 c2 HM H1 HB0 H0
 go_wp2_with fail
 refine (first_any (some ⟨B,0,none⟩) oa m.b.length m.b.length m.o.length oc (gnL m.r m.b) m.r.length m.o w1 HG1.out (gnL_ok HMO.out) HM1.out.o (by rw [gnL_length];exact HOO.out)).mono ?_
 rintro e w2 ⟨H,hf,T,want,mm,rfl,hb2,hh2,hp2,hq2⟩
 rw [gnL_length] at hh2 ⊢
 have H12:=Lib.hid (below_heap hb2 H11.out (lt_of_heap H11.out))
 have HB2:=Lib.hid (HB1.out.trans (hb2.mono HB1.out.size))
 have HH2:=Lib.hid hh2
 have HP2:=Lib.hid hp2
 have HQ2:=Lib.hid hq2
 have HNE:Hid (H≠w.heap.size+1):=Lib.hid (fun e=>by
   have:=H12.out
   rw [← e,hh2] at this
   exact absurd (Obj.cells.inj (Option.some.inj this)).2.1 (by decide))
 have r0:w2.cell? ⟨w.heap.size+1,0,none⟩=some (.slice none 0 0):=by rw [cell_of_block H12.out];rfl
 have z0:w2.frozen? ⟨w.heap.size+1,0,none⟩=false:=blk_free H12.out
 have hb3:Below w.heap.size w (w2.setCell ⟨w.heap.size+1,0,none⟩ (.slice (some ⟨H,0,none⟩) m.b.length m.b.length)):=HB2.out.setCell (p:=⟨w.heap.size+1,0,none⟩) (by show w.heap.size≤w.heap.size+1;omega) _
 have h13:(w2.setCell ⟨w.heap.size+1,0,none⟩ (.slice (some ⟨H,0,none⟩) m.b.length m.b.length)).heap[w.heap.size+1]?=some (.cells #[.slice (some ⟨H,0,none⟩) m.b.length m.b.length,.slice none 0 0] 27 (0,0)):=by
   rw [heap_setCell_same w2 (w.heap.size+1) 0 _ _ _ H12.out];rfl
 have hh3:(w2.setCell ⟨w.heap.size+1,0,none⟩ (.slice (some ⟨H,0,none⟩) m.b.length m.b.length)).heap[H]?=some (.cells (fnA m.b.length hf) 3 (0,0)):=(Below.heap_setCell w2 ⟨w.heap.size+1,0,none⟩ _ H HNE.out).trans hh2
 have h03:(w2.setCell ⟨w.heap.size+1,0,none⟩ (.slice (some ⟨H,0,none⟩) m.b.length m.b.length)).heap[w.heap.size]?=some (.cells #[.slice ra m.r.length rc,.slice ba m.b.length bc,.slice oa m.o.length oc] 25 (0,0)):=(Below.heap_setCell w2 ⟨w.heap.size+1,0,none⟩ _ w.heap.size (by show w.heap.size≠w.heap.size+1;omega)).trans (below_heap hb2 H01.out (lt_of_heap H01.out))
 have l0:(w2.setCell ⟨w.heap.size+1,0,none⟩ (.slice (some ⟨H,0,none⟩) m.b.length m.b.length)).cell? ⟨w.heap.size,0,none⟩=some (.slice ra m.r.length rc):=by rw [cell_of_block h03];rfl
 have l1:(w2.setCell ⟨w.heap.size+1,0,none⟩ (.slice (some ⟨H,0,none⟩) m.b.length m.b.length)).cell? ⟨w.heap.size,1,none⟩=some (.slice ba m.b.length bc):=by rw [cell_of_block h03];rfl
 have l2:(w2.setCell ⟨w.heap.size+1,0,none⟩ (.slice (some ⟨H,0,none⟩) m.b.length m.b.length)).cell? ⟨w.heap.size,2,none⟩=some (.slice oa m.o.length oc):=by rw [cell_of_block h03];rfl
 clear hb2 hh2 hp2 hq2 k0 k1 k2 h03
 try dsimp only
 go_wp2_with fail
 generalize w2.setCell ⟨w.heap.size+1,0,none⟩ (.slice (some ⟨H,0,none⟩) m.b.length m.b.length)=w3 at hb3 h13 hh3 l0 l1 l2 ⊢
 have HB3:=Lib.hid hb3
 refine (rleast2_any ⟨ra,m.r.length,rc,ba,m.b.length,bc,bv,oa,m.o.length,oc⟩ m w3 (HMW.out.below HB3.out)).mono ?_
 rintro e w4 ⟨pa,pc,p,rfl,hb4,hp4,hr4,hl4⟩
 have h14:=below_heap hb4 h13 (lt_of_heap h13)
 have hh4:=below_heap hb4 hh3 (lt_of_heap hh3)
 have HB4:=Lib.hid (HB3.out.trans (hb4.mono HB3.out.size))
 have HOK:Hid (JM.OutOk m.r m.b ((List.range m.b.length).map hf) p):=Lib.hid (outOk_of HMO.out HP2.out HQ2.out hr4 hl4)
 have r1:w4.cell? ⟨w.heap.size+1,1,none⟩=some (.slice none 0 0):=by rw [cell_of_block h14];rfl
 have z1:w4.frozen? ⟨w.heap.size+1,1,none⟩=false:=blk_free h14
 have hb5:Below w.heap.size w (w4.setCell ⟨w.heap.size+1,1,none⟩ (.slice pa m.r.length pc)):=HB4.out.setCell (p:=⟨w.heap.size+1,1,none⟩) (by show w.heap.size≤w.heap.size+1;omega) _
 have h15:(w4.setCell ⟨w.heap.size+1,1,none⟩ (.slice pa m.r.length pc)).heap[w.heap.size+1]?=some (.cells #[.slice (some ⟨H,0,none⟩) m.b.length m.b.length,.slice pa m.r.length pc] 27 (0,0)):=by
   rw [heap_setCell_same w4 (w.heap.size+1) 1 _ _ _ h14];rfl
 have hh5:(w4.setCell ⟨w.heap.size+1,1,none⟩ (.slice pa m.r.length pc)).heap[H]?=some (.cells (fnA m.b.length hf) 3 (0,0)):=(Below.heap_setCell w4 ⟨w.heap.size+1,1,none⟩ _ H HNE.out).trans hh4
 have hp5:IsI (w4.setCell ⟨w.heap.size+1,1,none⟩ (.slice pa m.r.length pc)) pa m.r.length pc p:=isI_set_ty hp4 h14 (fun i z e=>by
   rw [List.getElem?_toArray] at e
   have:=List.mem_of_getElem? e
   simp at this) _
 clear hb3 h13 hh3 l0 l1 l2 hb4 hp4 hr4 hl4 h14 hh4
 try dsimp only
 go_wp2_with (first
   | (refine wpList_load_mid rfl 27 (.tmp 2) rfl (w.heap.size+1) 0 rfl [.slice (some ⟨H,0,none⟩) m.b.length m.b.length,.slice pa m.r.length pc] _ (rangeAt_row h15) Tryz.underlying27 rfl info_out ?_)
   | (refine wpList_store_whole rfl 27 (.tmp 2) (.tmp 31) rfl (w.heap.size+1) [.slice (some ⟨H,0,none⟩) m.b.length m.b.length,.slice pa m.r.length pc] _ _ h15 rfl rfl rfl info_out (out_one _ _ _ _ _ _) ?_;intro w6 ht6 hg6)
   | fail)
 refine bodyPost_ret (results_cell_tmp rfl _ _ (w.heap.size+1) 0 rfl [.slice (some ⟨H,0,none⟩) m.b.length m.b.length,.slice pa m.r.length pc] _ (rangeAt_row hg6) Tryz.underlying27 rfl info_out) rfl ?_
 refine ⟨some ⟨H,0,none⟩,m.b.length,pa,pc,(List.range m.b.length).map hf,p,rfl,hb5.trans (ht6.below hb5.size (fun k hk e=>by omega)),isI_fnA (ht6.heap hh5 HNE.out) (by have:=HMO.out.hn.2;unfold maxLen;omega),isI_touch_ty hp5 ht6 (fun k e => ?_),HOK.out⟩
 subst e
 refine ⟨_,_,h15,fun i z e2 => ?_⟩
 rw [List.getElem?_toArray] at e2
 have:=List.mem_of_getElem? e2
 simp at this
end
section
open Go.RowKit Go.Shelf
set_option linter.unusedVariables false
set_option linter.unusedSimpArgs false
attribute [local go_sem] Oper.semAt_some
def hasF (bid P:List Int) (z:Int):Int:=if z = -1 then 0 else wrap64 (bid.getD z.toNat 0 - P.getD z.toNat 0)
set_option maxHeartbeats 1000000 in
theorem ohas_any (ba pa:Option Addr) (bn bc pn pc:Nat) (bid P:List Int) (z:Int) (w:World) (hb:IsI w ba bn bc bid) (hp:IsI w pa pn pc P) (hz:z = -1∨(0≤z∧z<bid.length∧z<P.length)) :
   Calls Tryz.prog 54 #[.slice ba bn bc,.slice pa pn pc,.int .i64 z] w fun e w' => e=.returned (.int .i64 (hasF bid P z))∧∃ j,w'=w.drewN j:=by
 obtain rfl:=hb.1
 obtain rfl:=hp.1
 by_cases h1:z = -1
 · subst h1
   have HV:Hid (hasF bid P (-1)=0):=Lib.hid (if_pos rfl)
   clear hz hb hp
   go_enter Tryz.func54,Tryz.ntmps54
   go_wp2_with fail
   go_ret
   exact ⟨by rw [HV.out];rfl,0,rfl⟩
 · obtain ⟨h2,h3,h4⟩:0≤z∧z<bid.length∧z<P.length:=by rcases hz with h | h;exact absurd h h1;exact h
   obtain ⟨k,rfl⟩:=Int.eq_ofNat_of_zero_le h2
   have hk1:k<bid.length:=by omega
   have hk2:k<P.length:=by omega
   have hm1:=hb.len
   have hm2:=hp.len
   obtain ⟨b1,o1,rfl,_,c1⟩:=hb.at k hk1
   obtain ⟨b2,o2,rfl,_,c2⟩:=hp.at k hk2
   have HV:Hid (hasF bid P (k:Int)=wrap64 (bid[k] - P[k])):=Lib.hid (by
     unfold hasF
     rw [if_neg h1,Int.toNat_natCast,getD_get hk1,getD_get hk2])
   have d1:((k:Int) == -1)=false:=by rw [beq_eq_false_iff_ne];omega
   generalize bid[k]=x at c1 HV
   generalize P[k]=y at c2 HV
   clear hz hb hp h1 h2 h3 h4
   go_enter Tryz.func54,Tryz.ntmps54
   go_wp2_with fail
   go_quiet (fail)
   go_wp2_with fail
   go_ret
   exact ⟨by rw [HV.out];rfl,nq,rfl⟩
def rowOk (bid P:List Int) (z:Int):Prop:=-1≤z∧z<P.length∧(bid=[]→z = -1)∧(bid≠[]→0≤hasF bid P z∧∀ k:Nat,k<P.length→hasF bid P k≤hasF bid P z)
def cntF (has:List Int) (j k:Nat):Int:=((has.take j).count (k:Int):Int)
theorem cntF_bd (has:List Int) (j k:Nat):0≤cntF has j k∧cntF has j k≤j:=by
 unfold cntF
 have h1:(has.take j).count (k:Int)≤(has.take j).length:=List.count_le_length
 rw [List.length_take] at h1
 omega
theorem cntF_zero (has:List Int):cntF has 0=fun _=>0:=by funext k;simp [cntF]
theorem cntF_none {has:List Int} {j:Nat} (hj:j<has.length) (h:has[j] = -1):cntF has (j+1)=cntF has j:=by
 funext k
 unfold cntF
 rw [List.take_succ_eq_append_getElem hj,List.count_append,h,List.count_singleton]
 have:¬ ((-1:Int) == (k:Int))=true:=by rw [beq_iff_eq];omega
 rw [if_neg this,Nat.add_zero]
theorem cntF_some {has:List Int} {j z:Nat} (hj:j<has.length) (h:has[j]=(z:Int)):cntF has (j+1)=updF (cntF has j) z (cntF has j z+1):=by
 funext k
 unfold cntF updF
 rw [List.take_succ_eq_append_getElem hj,List.count_append,h,List.count_singleton]
 by_cases e:k=z
 · subst e;rw [if_pos (by simp),if_pos rfl];push_cast;rfl
 · rw [if_neg (by rw [beq_iff_eq];omega),if_neg e,Nat.add_zero]
def freF (c:Nat→Int) (j k:Nat):Int:=if k<j then max 0 (c k - 1) else 0
theorem freF_zero (c:Nat→Int):freF c 0=fun _=>0:=by funext k;simp [freF]
theorem freF_succ (c:Nat→Int) (j:Nat):freF c (j+1)=updF (freF c j) j (max 0 (c j - 1)):=by
 funext k
 unfold freF updF
 by_cases e:k=j
 · subst e;rw [if_pos (Nat.lt_succ_self _),if_pos rfl]
 · rw [if_neg e]
   by_cases h:k<j
   · rw [if_pos (show k<j+1 by omega)];exact (if_pos h).symm
   · rw [if_neg (show ¬ k<j+1 by omega)];exact (if_neg h).symm
def prOk (r P:List Int) (c:Nat→Int) (k:Nat):Prop:=r.getD k 0≤P.getD k 0∧P.getD k 0≤2000000∧(0<c k∨P.getD k 0=r.getD k 0)
theorem cnt_used {has:List Int} {k:Nat}:0<cntF has has.length k↔JM.Used has.length (JM.mo has) k:=by
 unfold cntF JM.Used
 rw [List.take_length]
 constructor
 · intro h
   obtain ⟨i,hi,e⟩:=List.getElem_of_mem (List.count_pos_iff.1 (by omega:0<has.count (k:Int)))
   exact ⟨i,hi,JM.mo_some.2 (by rw [getD_get hi];exact e)⟩
 · rintro ⟨i,hi,e⟩
   have e2:=JM.mo_some.1 e
   rw [getD_get hi] at e2
   have:0<has.count (k:Int):=List.count_pos_iff.2 (by rw [← e2];exact List.getElem_mem hi)
   omega
theorem count_inj {l:List Int} {z:Int} (h:l.count z≤1) {i j:Nat} (hi:i<l.length) (hj:j<l.length) (ei:l[i]=z) (ej:l[j]=z):i=j:=by
 induction l generalizing i j with
 | nil=>simp at hi
 | cons x l ih =>
   rw [List.count_cons] at h
   cases i with
   | zero =>
     cases j with
     | zero=>rfl
     | succ j =>
       have hx:x=z:=ei
       have:0<l.count z:=List.count_pos_iff.2 (by have e:l[j]'(by simpa using hj)=z:=ej;rw [← e];exact List.getElem_mem _)
       rw [hx] at h;simp at h;omega
   | succ i =>
     cases j with
     | zero =>
       have hx:x=z:=ej
       have:0<l.count z:=List.count_pos_iff.2 (by have e:l[i]'(by simpa using hi)=z:=ei;rw [← e];exact List.getElem_mem _)
       rw [hx] at h;simp at h;omega
     | succ j =>
       have:=ih (by split at h <;> omega) (by simpa using hi) (by simpa using hj) (by simpa using ei) (by simpa using ej)
       omega
theorem inj_count {l:List Int} {z:Int} (h:∀ i j (hi:i<l.length) (hj:j<l.length),l[i]=z→l[j]=z→i=j):l.count z≤1:=by
 induction l with
 | nil=>simp
 | cons x l ih =>
   rw [List.count_cons]
   have h1:=ih fun i j hi hj e1 e2=>by
     have:=h (i+1) (j+1) (by simpa using hi) (by simpa using hj) (by simpa using e1) (by simpa using e2)
     omega
   by_cases e:x=z
   · have h0:l.count z=0:=by
       rw [List.count_eq_zero]
       intro hm
       obtain ⟨i,hi,e2⟩:=List.getElem_of_mem hm
       have:=h 0 (i+1) (by simp) (by simpa using hi) e (by simpa using e2)
       omega
     rw [h0];split <;> omega
   · rw [if_neg (by rw [beq_iff_eq];exact e)];omega
theorem even_iff {r:List Int} {b:List (List Int)} {has P:List Int} (hm:JM.MkOk r b) (hl:has.length=b.length) (pl:P.length=r.length) (E:Bool) (c:Nat→Int)
   (hE:(E=true∧(∀ i (h:i<has.length),rowOk (b.getD i []) P has[i])∧c=cntF has has.length)∨(E=false∧∃ i,∃ h:i<has.length,¬ rowOk (b.getD i []) P has[i])) :
   (E=true∧(∀ k,k<P.length→prOk r P c k)∧∀ k,k<P.length→c k≤1)↔JM.EvenP r b has P:=by
 have hpb:(∀ k,k<P.length→0≤P.getD k 0∧P.getD k 0≤2000000)→∀ i (h:i<has.length),b.getD i []≠[]→∀ k:Nat,k<P.length→hasF (b.getD i []) P k=(b.getD i []).getD k 0 - P.getD k 0:=fun hp i hi hne k hk=>by
   have h1:=(hm.hb i (by omega) hne).2 k (by omega)
   have h2:=hp k hk
   unfold hasF
   rw [if_neg (by omega),Int.toNat_natCast]
   unfold wrap64;omega
 have hgd:∀ i (h:i<has.length),has.getD i (-1)=has[i]:=fun i h=>getD_get h
 constructor
 · rintro ⟨h1,h2,h3⟩
   rcases hE with ⟨_,hrow,rfl⟩ | ⟨h0,_⟩
   case inr=>rw [h0] at h1;cases h1
   have hp:∀ k,k<P.length→0≤P.getD k 0∧P.getD k 0≤2000000:=fun k hk=>by
     have:=h2 k hk
     have:=hm.hr k (by omega)
     unfold prOk at *
     omega
   have hlow:∀ i (h:i<has.length),-1≤has[i]∧has[i]<P.length:=fun i h=>⟨(hrow i h).1,(hrow i h).2.1⟩
   have hlt:∀ i k,i<has.length→JM.mo has i=some k→k<r.length:=fun i k hi e=>by
     have e2:=JM.mo_some.1 e
     rw [hgd i hi] at e2
     have:=(hlow i hi).2
     omega
   have hgv:∀ i (h:i<has.length),b.getD i []≠[]→JM.gval (fun i k=>(b.getD i []).getD k 0 - P.getD k 0) (JM.mo has) i=hasF (b.getD i []) P has[i]:=fun i hi hne=>by
     cases e:JM.mo has i with
     | none =>
       have e2:=JM.mo_none.1 e
       rw [hgd i hi] at e2
       have:has[i] = -1:=by have:=(hlow i hi).1;omega
       rw [JM.gval_none e,this];rfl
     | some k =>
       have e2:=JM.mo_some.1 e
       rw [hgd i hi] at e2
       rw [JM.gval_some e,e2,hpb hp i hi hne k (by have:=hlt i k hi e;omega)]
   refine ⟨hl,pl,fun i hi=>by rw [hgd i (by omega)];exact (hlow i (by omega)).1,⟨fun i k hi e=>hlt i k (by omega) e,fun i j k hi hj ei ej => ?_⟩,fun i hi he=>by rw [hgd i (by omega)];exact (hrow i (by omega)).2.2.1 he,fun i hi hne => ?_,fun k hk => ?_⟩
   · have hk:=hlt i k (by omega) ei
     have h4:=h3 k (by omega)
     unfold cntF at h4
     rw [List.take_length] at h4
     have e1:=JM.mo_some.1 ei
     have e2:=JM.mo_some.1 ej
     rw [hgd i (by omega)] at e1
     rw [hgd j (by omega)] at e2
     exact count_inj (by omega) (by omega) (by omega) e1 e2
   · rw [hgv i (by omega) hne]
     obtain ⟨h5,h6⟩:=(hrow i (by omega)).2.2.2 hne
     refine ⟨h5,fun k hk => ?_⟩
     rw [← hpb hp i (by omega) hne k (by omega)]
     exact h6 k (by omega)
   · obtain ⟨h5,h6,h7⟩:=h2 k (by omega)
     refine ⟨h5,h6,?_⟩
     rcases h7 with h7 | h7
     · left;rw [← hl];exact cnt_used.1 h7
     · exact .inr h7
 · intro h
   have hp:∀ k,k<P.length→0≤P.getD k 0∧P.getD k 0≤2000000:=fun k hk=>by
     have:=h.p k (by omega)
     have:=hm.hr k (by omega)
     omega
   have hlow:∀ i (hi:i<has.length),-1≤has[i]∧has[i]<P.length:=fun i hi=>by
     have h1:=h.low i (by omega)
     rw [hgd i hi] at h1
     refine ⟨h1,?_⟩
     by_cases h2:has[i]<0
     · have:=hm.hk.1;omega
     · have h3:=h.mt.lt i has[i].toNat (by omega) (JM.mo_some.2 (by rw [hgd i hi];omega))
       omega
   have hrow:∀ i (hi:i<has.length),rowOk (b.getD i []) P has[i]:=fun i hi=>by
     refine ⟨(hlow i hi).1,(hlow i hi).2,fun he=>by have:=h.non i (by omega) he;rwa [hgd i hi] at this,fun hne => ?_⟩
     obtain ⟨h5,h6⟩:=h.now i (by omega) hne
     have hgv:JM.gval (fun i k=>(b.getD i []).getD k 0 - P.getD k 0) (JM.mo has) i=hasF (b.getD i []) P has[i]:=by
       cases e:JM.mo has i with
       | none =>
         have e2:=JM.mo_none.1 e
         rw [hgd i hi] at e2
         have:has[i] = -1:=by have:=(hlow i hi).1;omega
         rw [JM.gval_none e,this];rfl
       | some k =>
         have e2:=JM.mo_some.1 e
         rw [hgd i hi] at e2
         rw [JM.gval_some e,e2,hpb hp i hi hne k (by have:=(hlow i hi).2;omega)]
     rw [← hgv]
     refine ⟨h5,fun k hk => ?_⟩
     rw [hpb hp i hi hne k hk]
     exact h6 k (by omega)
   rcases hE with ⟨h1,_,rfl⟩ | ⟨_,i,hi,hno⟩
   case inr=>exact absurd (hrow i hi) hno
   refine ⟨h1,fun k hk => ?_,fun k hk => ?_⟩
   · obtain ⟨h5,h6,h7⟩:=h.p k (by omega)
     refine ⟨h5,h6,?_⟩
     rcases h7 with h7 | h7
     · left;rw [cnt_used,hl];exact h7
     · exact .inr h7
   · unfold cntF
     rw [List.take_length]
     have:=inj_count (l:=has) (z:=(k:Int)) fun i j hi hj e1 e2=>h.mt.inj i j k (by omega) (by omega) (JM.mo_some.2 (by rw [hgd i hi];exact e1)) (JM.mo_some.2 (by rw [hgd j hj];exact e2))
     omega
end
section
open Go.RowKit Go.Shelf
set_option linter.unusedVariables false
set_option linter.unusedSimpArgs false
attribute [local go_sem] Oper.semAt_some
structure VwT (w:World) (vb:Nat) (x:MkA) (m:MkC) (ha:Option Addr) (hc:Nat) (has:List Int) (pa:Option Addr) (pc:Nat) (P:List Int) (B:Nat):Prop where
 c:w.heap[vb]?=some (.cells #[.slice x.ra m.r.length x.rc,.slice x.ba m.b.length x.bc,.slice x.oa m.o.length x.oc,.slice ha has.length hc,.slice pa P.length pc,.slice (some ⟨B,0,none⟩) m.b.length m.b.length] 56 (0,0))
 mm:MkT w x m
 hs:IsI w ha has.length hc has
 pr:IsI w pa P.length pc P
 gg:IsII w (some ⟨B,0,none⟩) m.b.length m.b.length (gnL m.r m.b)
theorem VwT.below {w w':World} {vb:Nat} {x:MkA} {m:MkC} {ha:Option Addr} {hc:Nat} {has:List Int} {pa:Option Addr} {pc:Nat} {P:List Int} {B:Nat} (h:VwT w vb x m ha hc has pa pc P B) (hb:Below w.heap.size w w'):VwT w' vb x m ha hc has pa pc P B :=
 ⟨below_heap hb h.c (lt_of_heap h.c),h.mm.below hb,h.hs.below hb,h.pr.below hb,h.gg.below hb⟩
theorem VwT.cells {w:World} {vb:Nat} {x:MkA} {m:MkC} {ha:Option Addr} {hc:Nat} {has:List Int} {pa:Option Addr} {pc:Nat} {P:List Int} {B:Nat} (h:VwT w vb x m ha hc has pa pc P B) :
   w.cell? ⟨vb,0,none⟩=some (.slice x.ra m.r.length x.rc)∧w.cell? ⟨vb,1,none⟩=some (.slice x.ba m.b.length x.bc)∧w.cell? ⟨vb,2,none⟩=some (.slice x.oa m.o.length x.oc)∧w.cell? ⟨vb,3,none⟩=some (.slice ha has.length hc)∧w.cell? ⟨vb,4,none⟩=some (.slice pa P.length pc)∧w.cell? ⟨vb,5,none⟩=some (.slice (some ⟨B,0,none⟩) m.b.length m.b.length):=by
 have:=h.c
 refine ⟨?_,?_,?_,?_,?_,?_⟩ <;> (rw [cell_of_block this];rfl)
structure HasOk (r:List Int) (b:List (List Int)) (has:List Int):Prop where
 l:has.length=b.length
 low:∀ i (h:i<has.length),-1≤has[i]∧has[i]<r.length
 mt:JM.Mt b.length r.length (JM.mo has)
theorem HasOk.of {r:List Int} {b:List (List Int)} {has P:List Int} (h:JM.EvenP r b has P):HasOk r b has:=⟨h.hl,fun i hi=>by
 have hb:i<b.length:=by rw [← h.hl];exact hi
 have h1:=h.low i hb
 have e:has.getD i (-1)=has[i]:=by rw [getD_get hi]
 rw [e] at h1
 refine ⟨h1,?_⟩
 by_cases h2:has[i]<0
 · have:(0:Int)≤r.length:=Int.natCast_nonneg _
   omega
 · have h3:JM.mo has i=some has[i].toNat:=JM.mo_some.2 (by rw [e];omega)
   have:=h.mt.lt i _ hb h3
   omega,h.mt⟩
set_option maxRecDepth 100000 in
set_option maxHeartbeats 4000000 in
theorem sum_any (vb:Nat) (x:MkA) (m:MkC) (ha:Option Addr) (hc:Nat) (has:List Int) (pa:Option Addr) (pc:Nat) (P:List Int) (B:Nat) (w:World) (h:VwT w vb x m ha hc has pa pc P B) (ho:HasOk m.r m.b has) :
   Calls Tryz.prog 56 #[.pointer (some ⟨vb,0,none⟩)] w fun e w' => e=.returned (.int .i64 (sumV m.r m.b has))∧w=w':=by
 obtain ⟨c0,c1,c2,c3,c4,c5⟩:=h.cells
 have hmo:=mktB_ok h.mm.ok
 have hk8:=hmo.hk.2
 have hn8:=hmo.hn.2
 have hlen:=ho.l
 have HH:=Lib.hid h.hs
 have HG:=Lib.hid h.gg
 have HO:=Lib.hid ho
 have HMO:=Lib.hid hmo
 have HL:=Lib.hid hlen
 clear h ho hmo c0 c1 c2 c4
 obtain ⟨N,hN⟩:∃ N,N=has.length:=⟨_,rfl⟩
 have HN:=Lib.hid hN
 clear hN
 go_enter Tryz.func56,Tryz.ntmps56
 go_wp2_with fail
 go_loopw [2,11] (fun v i wr => ∃ k:Nat,k≤has.length∧i=.int .i64 (k:Int)∧v=.int .i64 (JM.sumN k (JM.gval (JM.gn m.r m.b) (JM.mo has)))∧wr=w) (fun _ i _=>N - (intOf i).toNat)
 case atStart=>exact ⟨0,Nat.zero_le _,rfl,rfl,rfl⟩
 case round =>
   obtain ⟨k,hk,rfl,rfl,rfl⟩:=hrel
   by_cases hlt:k<has.length
   · obtain ⟨b1,o1,rfl,hb1,hc1⟩:=HH.out.at k hlt
     have hkb:k<m.b.length:=by rw [← HL.out];exact hlt
     obtain ⟨q1,q2⟩:=HO.out.low k hlt
     have hgd:has.getD k (-1)=has[k]:=by rw [getD_get hlt]
     have hsb:-8000000≤JM.sumN k (JM.gval (JM.gn m.r m.b) (JM.mo has))∧JM.sumN k (JM.gval (JM.gn m.r m.b) (JM.mo has))≤8000000:=by
       have h1:=sumN_bd (n:=k) (f:=JM.gval (JM.gn m.r m.b) (JM.mo has)) (B:=1000000) (fun i hi=>by
         have hib:i<m.b.length:=by omega
         cases e:JM.mo has i with
         | none=>rw [JM.gval_none e];omega
         | some k=>rw [JM.gval_some e];exact gn_bd HMO.out hib (HO.out.mt.lt i k hib e))
       omega
     have HS:Hid (JM.sumN (k+1) (JM.gval (JM.gn m.r m.b) (JM.mo has))=JM.sumN k (JM.gval (JM.gn m.r m.b) (JM.mo has))+JM.gval (JM.gn m.r m.b) (JM.mo has) k):=Lib.hid rfl
     generalize JM.sumN k (JM.gval (JM.gn m.r m.b) (JM.mo has))=s at HS hsb
     by_cases hz:has[k] = -1
     · have HE:Hid (JM.sumN (k+1) (JM.gval (JM.gn m.r m.b) (JM.mo has))=s):=Lib.hid (by rw [HS.out,JM.gval_none (JM.mo_none.2 (by rw [hgd];omega))];omega)
       rw [hz] at hc1
       clear hgd q1 q2 hz HS
       go_wp2_with fail
       go_roundw
       case rel=>exact ⟨k+1,by omega,by go_num,by rw [HE.out],by first | rfl | trivial⟩
       case measure=>have:=HN.out;simp [intOf];omega
     · obtain ⟨it,ei⟩:=Int.eq_ofNat_of_zero_le (show 0≤has[k] by omega)
       have hit:it<m.r.length:=by omega
       have hkg:k<(gnL m.r m.b).length:=by rw [gnL_length];exact hkb
       obtain ⟨b2,o2,x2,y2,z2,e2,hb2,hc2,hI2⟩:=HG.out.at k hkg
       cases e2
       rw [Nat.zero_add] at hc2
       have hrow:(gnL m.r m.b)[k]=gnR m.r m.b[k]:=by simp [gnL]
       rw [hrow] at hI2
       obtain ⟨b3,o3,rfl,hb3,hc3⟩:=hI2.at it (by rw [gnR_length];exact hit)
       have hv:(gnR m.r m.b[k])[it]'(by rw [gnR_length];exact hit)=JM.gn m.r m.b k it:=by
         have:=gL_gnL (r:=m.r) hkb hit
         rw [← this];unfold gL;rw [gnL_at hkb,getD_get (by rw [gnR_length];exact hit)]
       rw [hv] at hc3
       have hy2:=hI2.1
       rw [gnR_length] at hy2
       subst hy2
       have hgb:=gn_bd HMO.out hkb hit
       have HE:Hid (JM.sumN (k+1) (JM.gval (JM.gn m.r m.b) (JM.mo has))=s+JM.gn m.r m.b k it):=Lib.hid (by rw [HS.out,JM.gval_some (JM.mo_some.2 (by rw [hgd];exact ei))])
       rw [ei] at hc1
       generalize JM.gn m.r m.b k it=gv at hc3 hgb HE
       clear hgd q1 q2 hz HS ei hrow hv hI2
       go_wp2_with fail
       go_roundw
       case rel=>exact ⟨k+1,by omega,by go_num,by rw [HE.out],by first | rfl | trivial⟩
       case measure=>have:=HN.out;simp [intOf];omega
   · have hkk:k=has.length:=by omega
     subst hkk
     have HE:Hid (JM.sumN has.length (JM.gval (JM.gn m.r m.b) (JM.mo has))=sumV m.r m.b has):=Lib.hid (by rw [HL.out];rfl)
     go_wp2_with fail
     go_ret
     exact ⟨by rw [← HE.out];rfl,rfl⟩
set_option maxRecDepth 100000 in
set_option maxHeartbeats 4000000 in
theorem vmost_any (vb:Nat) (x:MkA) (m:MkC) (ha:Option Addr) (hc:Nat) (has:List Int) (pa:Option Addr) (pc:Nat) (P:List Int) (B:Nat) (w:World) (h:VwT w vb x m ha hc has pa pc P B) (ho:HasOk m.r m.b has) :
   Calls Tryz.prog 35 #[.pointer (some ⟨vb,0,none⟩)] w fun e w' => e=.returned (.bool (sumV m.r m.b has == topV m.r m.b))∧Below w.heap.size w w':=by
 obtain ⟨c0,c1,c2,c3,c4,c5⟩:=h.cells
 have hmo:=mktB_ok h.mm.ok
 have HV:=Lib.hid h
 have HO:=Lib.hid ho
 have HGO:=Lib.hid (gnL_ok hmo)
 have HT:Hid (bestV (gnL m.r m.b).length m.r.length (gL (gnL m.r m.b))=topV m.r m.b):=Lib.hid (by rw [gnL_length];exact bestV_congr fun i k hi hk=>gL_gnL hi hk)
 have HCALL:Hid (∀ w',Below w.heap.size w w'→Calls Tryz.prog 55 #[.slice (some ⟨B,0,none⟩) m.b.length m.b.length,.int .i64 (m.r.length:Int)] w' fun e w'' => e=.returned (.tuple #[.int .i64 (topV m.r m.b),.int .i64 0])∧Below w'.heap.size w' w''):=Lib.hid (fun w' hw' => by
   rw [← HT.out];exact wBest_any _ _ _ _ _ w' (HV.out.gg.below hw') HGO.out)
 clear h ho hmo c1 c2 c3 c4
 go_enter Tryz.func35,Tryz.ntmps35
 go_wp2_with fail
 go_region_with ((go_at_call 55;refine (HCALL.out _ (by first | exact (Below.refl _ _).drew | exact Below.refl _ _)).mono ?_;rintro e w1 ⟨rfl,hb1⟩))
 all_goals
   have hb1':Below w.heap.size w w1:=by first | exact hb1 | exact (Below.refl _ _).drew.trans hb1
   have HB1:=Lib.hid hb1'
   have HV1:=Lib.hid (HV.out.below hb1')
   clear hb1 hb1' c0 c5 HCALL
   simp only [Act.put,List.getElem_toArray,List.getElem_cons_succ,List.getElem_cons_zero,List.setIfInBounds_toArray,List.set_cons_zero,List.set_cons_succ]
   go_wp2_with fail
   refine (sum_any vb x m ha hc has pa pc P B w1 HV1.out HO.out).mono ?_;rintro e w2 ⟨rfl,rfl⟩
   go_wp2_with fail
   go_ret
   exact ⟨rfl,HB1.out⟩
end
end Go.Proofs.YtmmmjohoihpbeaaGreat
