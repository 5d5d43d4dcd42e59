/- A book of four kinds: lists that are filled and grown;no program in sight but the types. -/
import Derived.Test.YtgbikngicidbkaaGreatDoorQKBaKBkKBKByteListKBKIntList
namespace Go.Proofs.YtgbikngicidbkaaGreatDoor
open Go.RowKit
set_option linter.unusedVariables false
set_option linter.unusedSimpArgs false
set_option maxRecDepth 100000
theorem take_snoc_good {κ:Kd} {F:Nat} {w:World} {m n:Nat} {cur cur':List Value} {v:Value} (h:∀ u ∈ cur.take n,Good κ F w m u) (hv:Good κ F w m v) (e:cur'.take (n+1)=cur.take n ++ [v]):∀ u ∈ cur'.take (n+1),Good κ F w m u:=fun u hu=>by
 rw [e] at hu
 rcases List.mem_append.1 hu with hu | hu
 · exact h u hu
 · simp at hu;subst hu;exact hv
theorem HFill.of_take {κ:Kd} {F:Nat} {w:World} {a:Option Addr} {n n2 c c2:Nat} {cur:List Value} {m:Nat} (h:SK κ.el w a n c cur) (ht:∀ u ∈ cur.take n,Good κ F w m u) (hn:n2≤n):HFill κ F w ⟨a,n2,c2⟩ m:=fun i hi=>by
 have hi':i<n2:=hi
 rcases h with ⟨_,h0,_⟩ | ⟨g,rfl,⟨fz,hg,hz⟩,g1,g2,_⟩
 · omega
 · have hil:i<cur.length:=by omega
   refine ⟨g,cur[i],rfl,?_,ht _ ?_⟩
   · rw [cell_of_block hg];simp [hil]
   · rw [List.mem_take_iff_getElem]
     exact ⟨i,by omega,rfl⟩
theorem take_of_HFill {κ:Kd} {F:Nat} {w:World} {h:Hd} {cur:List Value} {m:Nat} (hs:SK κ.el w h.a h.n h.c cur) (hf:HFill κ F w h m):∀ u ∈ cur.take h.n,Good κ F w m u:=fun u hu=>by
 rw [List.mem_take_iff_getElem] at hu
 obtain ⟨i,hi,rfl⟩:=hu
 obtain ⟨g',v,e,hc,hv⟩:=hf i (by omega)
 rcases hs with ⟨hs,_⟩ | ⟨g,ha,⟨fz,hg,hz⟩,h1,h2,_⟩
 · rw [hs] at e;cases e
 · rw [ha] at e
   cases e
   rw [cell_of_block hg] at hc
   have hil:i<cur.length:=by omega
   simp [hil] at hc
   rw [hc];exact hv
theorem Good.below' {κ:Kd} {F:Nat} {w w':World} {m:Nat} {v:Value} (h:Good κ F w m v) (hb:Below w.heap.size w w'):Good κ F w' m v:=h.below hb
theorem Good.quiet {κ:Kd} {F:Nat} {w:World} {m:Nat} {v:Value} (h:Good κ F w m v) (n:Nat):Good κ F (w.drewN n) m v:=h.below (below_drewN (Below.refl _ _) n)
def GrowSt (κ:Kd) (F:Nat) (W w:World) (B:Nat) (l:Hd) (m:Nat) (t:Nat) (a:Option Addr) (c:Nat):Prop :=
 (∀ k,l.a=some ⟨k,0,none⟩→k<W.heap.size∧k<F)∧Touch (fun k=>l.a=some ⟨k,0,none⟩) W w∧HOk κ w B l∧HFill κ F w l m∧∃ cur,SK κ.el w a (l.n+t) c cur∧(∀ u ∈ cur.take (l.n+t),Good κ F w m u) ∧
   ((a=l.a∧c=l.c)∨∃ g,a=some ⟨g,0,none⟩∧W.heap.size≤g)
theorem GrowSt.start {κ:Kd} {F:Nat} {W:World} {B:Nat} {l:Hd} {m:Nat} (h:HOk κ W B l) (hf:HFill κ F W l m) (hl:∀ k,l.a=some ⟨k,0,none⟩→k<F):GrowSt κ F W W B l m 0 l.a l.c:=by
 have h':=h
 obtain ⟨cur,s,_⟩:=h'
 refine ⟨fun k hk=>⟨?_,hl k hk⟩,Touch.refl _ _,h,hf,cur,s,take_of_HFill s hf,.inl ⟨rfl,rfl⟩⟩
 obtain ⟨_,hc,_⟩:=h.block hk
 exact lt_of_heap hc
theorem SK.below {e:TypeId} {w w':World} {a:Option Addr} {n c:Nat} {cur:List Value} (h:SK e w a n c cur) (hb:Below w.heap.size w w'):SK e w' a n c cur:=h.touch (Touch.of_below (S:=fun _=>False) hb) (fun _ _=>id)
theorem HOk.below {κ:Kd} {w w':World} {B:Nat} {h:Hd} (hh:HOk κ w B h) (hb:Below w.heap.size w w'):HOk κ w' B h:=hh.touch (Touch.of_below (S:=fun _=>False) hb) (fun _ _=>id)
theorem GrowSt.below {κ:Kd} {F:Nat} {W w w':World} {B:Nat} {l:Hd} {m:Nat} {t:Nat} {a:Option Addr} {c:Nat} (h:GrowSt κ F W w B l m t a c) (hb:Below w.heap.size w w'):GrowSt κ F W w' B l m t a c:=by
 obtain ⟨h0,h1,h2,h3,cur,h4,h5,h6⟩:=h
 exact ⟨h0,h1.trans (Touch.of_below hb),h2.below hb,h3.below hb,cur,h4.below hb,fun u hu=>(h5 u hu).below hb,h6⟩
theorem GrowSt.step {κ:Kd} {F:Nat} {W w w':World} {B:Nat} {l:Hd} {m:Nat} {t:Nat} {a a':Option Addr} {c c':Nat} {cur':List Value} {v:Value} (h:GrowSt κ F W w B l m t a c) (hv:Good κ F w m v)
   (cur:List Value) (hs:SK κ.el w a (l.n+t) c cur) (hs':SK κ.el w' a' (l.n+t+1) c' cur') (ht':cur'.take (l.n+t+1)=cur.take (l.n+t) ++ [v])
   (hd:(a'=a∧c'=c∧l.n+t<c∧∀ g,a=some ⟨g,0,none⟩→Touch (fun k=>k=g) w w')∨(a'=some ⟨w.heap.size,0,none⟩∧Below w.heap.size w w')):GrowSt κ F W w' B l m (t+1) a' c':=by
 obtain ⟨h0,h1,h2,h3,cur0,h4,h5,h6⟩:=h
 have hcc:cur.take (l.n+t)=cur0.take (l.n+t):=by
   rcases hs with ⟨e1,e2,_,e4⟩ | ⟨g,e1,⟨fz1,hg,_⟩,_⟩
   · rw [e2];rfl
   · rcases h4 with ⟨f1,_⟩ | ⟨g',f1,⟨fz2,hg',_⟩,_⟩
     · rw [e1] at f1;cases f1
     · rw [e1] at f1;cases f1
       rw [hg] at hg'
       have:=(Obj.cells.inj (Option.some.inj hg')).1
       have e:cur=cur0:=by simpa using this
       rw [e]
 rw [← hcc] at h5
 have hall:∀ u ∈ cur'.take (l.n+(t+1)),Good κ F w m u:=take_snoc_good h5 hv ht'
 rcases hd with ⟨rfl,rfl,hlt,hT⟩ | ⟨rfl,hb⟩
 · rcases hs' with ⟨_,e,_⟩ | ⟨g,ga,⟨fz4,hgc,hz4⟩,g1,g2,g3⟩
   · omega
   have hTT:=hT g ga
   obtain ⟨fz5,hgw⟩:∃ fz5,w.heap[g]?=some (.cells cur.toArray κ.el fz5):=by
     rcases hs with ⟨e,_⟩ | ⟨g',e,⟨fz5,hg',_⟩,_⟩
     · rw [e] at ga;cases ga
     · rw [e] at ga;cases ga;exact ⟨fz5,hg'⟩
   have hgood:∀ u,Good κ F w m u→Good κ F w' m u:=fun u hu=>hu.own hTT hgw
   have hall':∀ u ∈ cur'.take (l.n+(t+1)),Good κ F w' m u:=fun u hu=>hgood u (hall u hu)
   have hsk:SK κ.el w' a' (l.n+(t+1)) c' cur':=.inr ⟨g,ga,⟨fz4,hgc,hz4⟩,g1,g2,g3⟩
   rcases h6 with ⟨rfl,rfl⟩ | ⟨g',e',hg⟩
   · refine ⟨h0,h1.trans (hTT.weaken (fun k _ hk=>by rw [hk];exact ga)),?_,?_,cur',hsk,hall',.inl ⟨rfl,rfl⟩⟩
     · obtain ⟨_,_,hB⟩:=h2
       exact ⟨cur',.inr ⟨g,ga,⟨fz4,hgc,hz4⟩,by omega,g2,g3⟩,hB⟩
     · exact HFill.of_take (c2:=l.c) hsk hall' (by omega)
   · rw [e'] at ga;cases ga
     have hlk:∀ k,l.a=some ⟨k,0,none⟩→k≠g:=fun k hk e=>by have:=(h0 k hk).1;omega
     exact ⟨h0,h1.andThen hTT (fun k hk=>.inr (by rw [hk];exact hg)),h2.touch hTT (fun k hk e=>hlk k hk e),h3.touch hTT (fun k hk e=>hlk k hk e) hgood,cur',hsk,hall',.inr ⟨g,e',hg⟩⟩
 · refine ⟨h0,h1.trans (Touch.of_below hb),h2.below hb,h3.below hb,cur',hs',fun u hu=>(hall u hu).below hb,.inr ⟨_,rfl,h1.size⟩⟩
theorem GrowSt.good {κ:Kd} {F:Nat} {W w:World} {B:Nat} {l:Hd} {m:Nat} {t:Nat} {a:Option Addr} {c:Nat} (h:GrowSt κ F W w B l m t a c) {κ':Kd} {m':Nat} {v:Value} (hv:Good κ' F W m' v):Good κ' F w m' v:=hv.touch h.2.1 (fun k hk=>(h.1 k hk).2)
theorem Part.grown {κ:Kd} {F:Nat} {W w:World} {B:Nat} {bs:Value} {H:List Hl} (h:Part κ W B bs H) (j:Nat) (hj:j<H.length) {m:Nat} {t:Nat} {a:Option Addr} {c:Nat} (hg:GrowSt κ F W w B H[j].l m t a c):Part κ w B bs H:=by
 obtain ⟨h0,h1,h2,h3,_⟩:=hg
 refine ⟨owns_touch h.row h1 (fun k hk e => ?_),fun i hi => ?_,h.apart,h.num,h.few⟩
 · obtain ⟨cur,hc,_⟩:=(h.ok j hj).block e
   obtain ⟨cur2,hc2⟩:=owns_block h.row hk
   exact ty_ne hc2 hc (κ.types κ).1 rfl
 · by_cases hij:i=j
   · subst hij;exact h2
   · exact (h.ok i hi).touch h1 (fun g hg e=>h.apart i j hi hj hij g hg e)
theorem HFill.grown {κ:Kd} {F:Nat} {W w:World} {B:Nat} {l y:Hd} {m m':Nat} {t:Nat} {a:Option Addr} {c:Nat} (hg:GrowSt κ F W w B l m t a c) (h:HFill κ F W y m') (hne:∀ k,y.a=some ⟨k,0,none⟩→l.a≠some ⟨k,0,none⟩):HFill κ F w y m' :=
 h.touch hg.2.1 (fun k hk e2=>hne k hk e2) (fun v hv=>hg.good hv)
theorem setL (H:List Hl) (j:Nat) (hj:j<H.length) (g:Hd) (i:Nat) (hi:i<(H.set j { H[j] with g:=g }).length) (hi':i<H.length):(H.set j { H[j] with g:=g })[i].l=H[i].l∧(H.set j { H[j] with g:=g })[i].m=H[i].m∧(i≠j→(H.set j { H[j] with g:=g })[i].g=H[i].g)∧(i=j→(H.set j { H[j] with g:=g })[i].g=g):=by
 rw [List.getElem_set]
 by_cases h:j=i
 · subst h;rw [if_pos rfl];exact ⟨rfl,rfl,fun e=>absurd rfl e,fun _=>rfl⟩
 · rw [if_neg h];exact ⟨rfl,rfl,fun _=>rfl,fun e=>absurd e.symm h⟩
theorem Part.setG {κ:Kd} {w:World} {B gr c:Nat} {H:List Hl} (h:Part κ w B (.slice (some ⟨gr,0,none⟩) H.length c) H) (j:Nat) (hj:j<H.length) (g:Hd) :
   Part κ (w.setCell ⟨gr,j*3+1,none⟩ g.val) B (.slice (some ⟨gr,0,none⟩) H.length c) (H.set j { H[j] with g:=g })∧B≤gr∧(∃ cur,w.heap[gr]?=some (.cells cur κ.hd (0,0))∧j*3+1<cur.size):=by
 obtain ⟨hl,hr⟩:=h.row
 rcases hr with ⟨e,_⟩ | ⟨gr',cap,cur,e,hB,hg,hnc,hcm,hcs,htk⟩
 · cases e
 cases e
 have ht:Touch (fun k=>k=gr) w (w.setCell ⟨gr,j*3+1,none⟩ g.val):=(Touch.refl _ _).setCell _ _ (.inl rfl)
 have hsz:j*3+1<cur.size:=by rw [hcs];omega
 refine ⟨⟨?_,fun i hi => ?_,fun i k hi hk hik x hx => ?_,fun i hi => ?_,by simpa using h.few⟩,hB,cur,hg,hsz⟩
 · rw [List.length_set]
   refine ⟨by rw [hcells_length,List.length_set],.inr ⟨gr,c,cur.set (j*3+1) g.val hsz,rfl,hB,?_,hnc,hcm,by simpa using hcs,?_⟩⟩
   · rw [heap_setCell_same _ _ _ _ _ _ hg]
     simp [Array.setIfInBounds,hsz]
   · rw [hcells_set H j hj g,← htk,Nat.mul_comm 3 j]
     simp [List.take_set]
 · have hi':i<H.length:=by simpa using hi
   rw [(setL H j hj g i hi hi').1]
   exact (h.ok i hi').touch ht (fun x hx e=>by
     obtain ⟨cur2,hg',_⟩:=(h.ok i hi').block hx
     exact ty_ne hg' hg (Ne.symm (κ.types κ).1) e)
 · have hi':i<H.length:=by simpa using hi
   have hk':k<H.length:=by simpa using hk
   rw [(setL H j hj g i hi hi').1] at hx
   rw [(setL H j hj g k hk hk').1]
   exact h.apart i k hi' hk' hik x hx
 · have hi':i<H.length:=by simpa using hi
   rw [(setL H j hj g i hi hi').2.1]
   exact h.num i hi'
structure Grown (κ:Kd) (F:Nat) (W w:World) (H:List Hl) (j:Nat):Prop where
 low:∀ i (hi:i<H.length),∀ k,H[i].l.a=some ⟨k,0,none⟩→k<W.heap.size∧k<F
 lists:∀ i (hi:i<H.length),HFill κ F w H[i].l H[i].m
 longs:∀ i (hi:i<H.length),i<j→HFill κ F w H[i].g H[i].m∧H[i].g.n=H[i].l.n+40∧∀ k,H[i].g.a=some ⟨k,0,none⟩→H[i].l.a=some ⟨k,0,none⟩∨W.heap.size≤k
 size:W.heap.size≤w.heap.size
theorem grown_below {κ:Kd} {F:Nat} {W w w':World} {H:List Hl} {j:Nat} (h:Grown κ F W w H j) (hb:Below w.heap.size w w'):Grown κ F W w' H j :=
 ⟨h.low,fun i hi=>(h.lists i hi).below hb,fun i hi hj=>⟨(h.longs i hi hj).1.below hb,(h.longs i hi hj).2⟩,Nat.le_trans h.size hb.size⟩
theorem grown_step {κ:Kd} {F:Nat} {W w w':World} {B gr c:Nat} {H:List Hl} {j:Nat} (h:Grown κ F W w H j) (hk:Part κ w B (.slice (some ⟨gr,0,none⟩) H.length c) H) (hgrW:gr<W.heap.size∧gr<F) (hj:j<H.length) {a:Option Addr} {c':Nat} (hg:GrowSt κ F w w' B H[j].l H[j].m 40 a c') :
   Grown κ F W (w'.setCell ⟨gr,j*3+1,none⟩ (Hd.val ⟨a,H[j].l.n+40,c'⟩)) (H.set j { H[j] with g:=⟨a,H[j].l.n+40,c'⟩ }) (j+1):=by
 have hk':=hk.grown j hj hg
 obtain ⟨_,_,cur0,hgr,_⟩:=hk'.setG j hj ⟨a,H[j].l.n+40,c'⟩
 have htg:Touch (fun k=>k=gr) w' (w'.setCell ⟨gr,j*3+1,none⟩ (Hd.val ⟨a,H[j].l.n+40,c'⟩)):=(Touch.refl _ _).setCell _ _ (.inl rfl)
 have hcell:∀ {y:Hd} {m:Nat},(∀ k,y.a=some ⟨k,0,none⟩→k≠gr)→HFill κ F w' y m→HFill κ F (w'.setCell ⟨gr,j*3+1,none⟩ (Hd.val ⟨a,H[j].l.n+40,c'⟩)) y m:=fun hu hf =>
   hf.touch htg (fun k hk e=>hu k hk e) (fun v hv=>hv.touch htg (fun k hk=>by rw [hk];exact hgrW.2))
 have hlu:∀ i (hi:i<H.length),∀ k,H[i].l.a=some ⟨k,0,none⟩→k≠gr:=fun i hi k hk2=>by
   obtain ⟨cur,hg',_⟩:=(hk'.ok i hi).block hk2
   exact ty_ne hg' hgr (Ne.symm (κ.types κ).1)
 obtain ⟨g0,g1,g2,g3,cur,g4,g5,g6⟩:=hg
 have hgs:GrowSt κ F w w' B H[j].l H[j].m 40 a c':=⟨g0,g1,g2,g3,cur,g4,g5,g6⟩
 have hlong:HFill κ F w' ⟨a,H[j].l.n+40,c'⟩ H[j].m:=HFill.of_take g4 g5 (Nat.le_refl _)
 have hlists:∀ i (hi:i<H.length),HFill κ F w' H[i].l H[i].m:=fun i hi=>by
   by_cases hij:i=j
   · subst hij;exact g3
   · exact (h.lists i hi).grown hgs (fun k hk2=>hk.apart i j hi hj hij k hk2)
 refine ⟨fun i hi k hk2 => ?_,fun i hi => ?_,fun i hi hij => ?_,?_⟩
 · have hi':i<H.length:=by simpa using hi
   rw [(setL H j hj _ i hi hi').1] at hk2
   exact h.low i hi' k hk2
 · have hi':i<H.length:=by simpa using hi
   rw [(setL H j hj _ i hi hi').1,(setL H j hj _ i hi hi').2.1]
   exact hcell (hlu i hi') (hlists i hi')
 · have hi':i<H.length:=by simpa using hi
   obtain ⟨e1,e2,e3,e4⟩:=setL H j hj ⟨a,H[j].l.n+40,c'⟩ i hi hi'
   rw [e1,e2]
   by_cases hj2:i=j
   · subst hj2
     rw [e4 rfl]
     refine ⟨hcell (fun k hk2 => ?_) hlong,rfl,fun k hk2 => ?_⟩
     · rcases g6 with ⟨g6,_⟩ | ⟨g,g6,hW⟩
       · exact hlu i hi' k (by rw [← g6];exact hk2)
       · have hk3:a=some ⟨k,0,none⟩:=hk2
         rw [g6] at hk3;cases hk3
         have:=h.size
         omega
     · rcases g6 with ⟨g6,_⟩ | ⟨g,g6,hW⟩
       · exact .inl (by rw [← g6];exact hk2)
       · have hk3:a=some ⟨k,0,none⟩:=hk2
         rw [g6] at hk3;cases hk3
         exact .inr (Nat.le_trans h.size hW)
   · rw [e3 hj2]
     obtain ⟨l1,l2,l3⟩:=h.longs i hi' (by omega)
     have hne:∀ k,H[i].g.a=some ⟨k,0,none⟩→k≠gr∧H[j].l.a≠some ⟨k,0,none⟩:=fun k hk2=>by
       rcases l3 k hk2 with l4 | l4
       · exact ⟨hlu i hi' k l4,hk.apart i j hi' hj hj2 k l4⟩
       · exact ⟨by omega,fun e=>by have:=h.low j hj k e;omega⟩
     exact ⟨hcell (fun k hk2=>(hne k hk2).1) (l1.grown hgs (fun k hk2=>(hne k hk2).2)),l2,l3⟩
 · have:(w'.setCell ⟨gr,j*3+1,none⟩ (Hd.val ⟨a,H[j].l.n+40,c'⟩)).heap.size=w'.heap.size:=by simp [World.setCell]
   rw [this]
   exact Nat.le_trans h.size g1.size
def GS (L:List Hl) (bo:Option Addr) (k:Nat):Prop:=LS L k∨bo=some ⟨k,0,none⟩
structure Fs (F:Nat) (w0 w:World) (B bk N:Nat) (bs:Kd→Value) (H:Kd→List Hl) (done:Kd→Prop):Prop where
 below:Below B w0 w
 book:Bk w B bk N bs H
 size:F≤w.heap.size
 low:∀ κ k,LS (H κ) k→k<F
 row:∀ κ k,(bs κ).ownBlock=some k→k<F
 fill:∀ κ,done κ→∀ i (hi:i<(H κ).length),HFill κ F w (H κ)[i].l (H κ)[i].m
theorem Fs.start {w:World} {B bk N:Nat} {bs:Kd→Value} {H:Kd→List Hl} (h:Bk w B bk N bs H):Fs w.heap.size w w B bk N bs H (fun _=>False) :=
 ⟨Below.refl _ _,h,Nat.le_refl _,fun κ k hk=>by
   obtain ⟨cur,hc,_⟩:=(h.part κ).ls hk
   exact lt_of_heap hc,fun κ k hk=>((h.part κ).row.lt k hk).2,fun κ h=>h.elim⟩
theorem Fs.fills {F:Nat} {w0 w w':World} {B bk N:Nat} {bs:Kd→Value} {H:Kd→List Hl} {done:Kd→Prop} (h:Fs F w0 w B bk N bs H done) (κ:Kd) (ht:Touch (LS (H κ)) w w') (hp:Part κ w' B (bs κ) (H κ)) (hf:∀ i (hi:i<(H κ).length),HFill κ F w' (H κ)[i].l (H κ)[i].m) :
   Fs F w0 w' B bk N bs H (fun k=>k=κ∨done k):=by
 have hty:∀ k,LS (H κ) k→∃ C:Array Value × Nat × Nat,w.heap[k]?=some (.cells C.1 κ.el C.2)∧B≤k:=fun k hk=>(h.book.part κ).ls hk
 have hB:∀ k,k<B→¬ LS (H κ) k:=fun k hk e=>by obtain ⟨_,_,h2⟩:=hty k e;omega
 have hbk:Bk w' B bk N bs H:=by
   have:=h.book.others (κ:=κ) ht (fun k hk=>by obtain ⟨cur,hc,_⟩:=hty k hk;exact ⟨_,_,_,hc,.inl rfl⟩) rfl hp
   rwa [updK_same] at this
 refine ⟨h.below.trans (ht.below h.book.lt hB),hbk,Nat.le_trans h.size ht.size,h.low,h.row,fun κ' hd i hi => ?_⟩
 rcases Kd.dec κ' κ with e | e
 · subst e;exact hf i hi
 · rcases hd with hd | hd
   · exact absurd hd e
   · exact (h.fill κ' hd i hi).touch ht (fun g hg hs=>by
       obtain ⟨cur,hc,_⟩:=((h.book.part κ').ok i hi).block hg
       obtain ⟨cur2,hc2,_⟩:=hty g hs
       exact ty_ne hc hc2 ((κ'.types κ).2.2.2 e).2 rfl) (fun v hv=>hv.touch ht (fun k hk=>h.low κ k hk))
structure GSt (F:Nat) (w0 w:World) (B bk N:Nat) (bs:Kd→Value) (H:Kd→List Hl) (done:Kd→Prop):Prop where
 below:Below B w0 w
 book:Bk w B bk N bs H
 size:F≤w.heap.size
 low:∀ κ k,LS (H κ) k→k<F
 row:∀ κ k,(bs κ).ownBlock=some k→k<F
 fill:∀ κ i (hi:i<(H κ).length),HFill κ F w (H κ)[i].l (H κ)[i].m
 small:∀ κ i (hi:i<(H κ).length),(H κ)[i].l.n≤100000000
 long:∀ κ,done κ→∀ i (hi:i<(H κ).length),HFill κ F w (H κ)[i].g (H κ)[i].m∧(H κ)[i].g.n=(H κ)[i].l.n+40∧∀ k,(H κ)[i].g.a=some ⟨k,0,none⟩→(H κ)[i].l.a=some ⟨k,0,none⟩∨F≤k
theorem GSt.start {F:Nat} {w0 w:World} {B bk N:Nat} {bs:Kd→Value} {H:Kd→List Hl} {done:Kd→Prop} (h:Fs F w0 w B bk N bs H done) (hd:∀ κ,done κ) (hsm:∀ κ i (hi:i<(H κ).length),(H κ)[i].l.n≤100000000):GSt F w0 w B bk N bs H (fun _=>False) :=
 ⟨h.below,h.book,h.size,h.low,h.row,fun κ=>h.fill κ (hd κ),hsm,fun κ h=>h.elim⟩
theorem GSt.after {F:Nat} {w0 w w':World} {B bk N:Nat} {bs:Kd→Value} {H:Kd→List Hl} {done:Kd→Prop} (h:GSt F w0 w B bk N bs H done) (hb:Below w.heap.size w w'):GSt F w0 w' B bk N bs H done :=
 ⟨h.below.trans (hb.mono h.book.lt),h.book.below hb,Nat.le_trans h.size hb.size,h.low,h.row,fun κ i hi=>(h.fill κ i hi).below hb,h.small,fun κ hd i hi=>⟨(h.long κ hd i hi).1.below hb,(h.long κ hd i hi).2⟩⟩
theorem GSt.grows {F:Nat} {w0 w w':World} {B bk N:Nat} {bs:Kd→Value} {H:Kd→List Hl} {done:Kd→Prop} (h:GSt F w0 w B bk N bs H done) (κ:Kd) {bo:Option Addr} {bc:Nat} (hbs:bs κ=.slice bo (H κ).length bc) (ht:Touch (GS (H κ) bo) w w') {L:List Hl} (hl:L.length=(H κ).length)
   (hs:∀ i (hi:i<L.length) (hi':i<(H κ).length),L[i].l=(H κ)[i].l∧L[i].m=(H κ)[i].m) (hp:Part κ w' B (.slice bo (H κ).length bc) L) (hg:Grown κ F w w' L (H κ).length) :
   GSt F w0 w' B bk N bs (updK H κ L) (fun k=>k=κ∨done k):=by
 have hrow:∀ k,bo=some ⟨k,0,none⟩→B≤k∧∃ cur,w.heap[k]?=some (.cells cur κ.hd):=fun k hk=>by
   have hr:=(h.book.part κ).row
   rw [hbs] at hr
   subst hk
   exact ⟨(hr.lt k rfl).1,owns_block hr rfl⟩
 have hty:∀ k,GS (H κ) bo k→∃ cur t fz,w.heap[k]?=some (.cells cur t fz)∧(t=κ.el∨t=κ.hd):=fun k hk=>by
   rcases hk with hk | hk
   · obtain ⟨cur,hc,_⟩:=(h.book.part κ).ls hk
     exact ⟨_,_,_,hc,.inl rfl⟩
   · obtain ⟨_,cur,hc⟩:=hrow k hk
     exact ⟨_,_,_,hc,.inr rfl⟩
 have hB:∀ k,k<B→¬ GS (H κ) bo k:=fun k hk e=>by
   rcases e with e | e
   · obtain ⟨_,_,h2⟩:=(h.book.part κ).ls e;omega
   · have:=(hrow k e).1;omega
 have hF:∀ k,GS (H κ) bo k→k<F:=fun k hk=>by
   rcases hk with hk | hk
   · exact h.low κ k hk
   · exact h.row κ k (by rw [hbs,hk];rfl)
 have hbk:Bk w' B bk N bs (updK H κ L):=h.book.others (κ:=κ) ht hty hbs.symm hp
 have hne:∀ κ',κ'≠κ→∀ g (cur:Array Value × Nat × Nat),w.heap[g]?=some (.cells cur.1 κ'.el cur.2)→¬ GS (H κ) bo g:=fun κ' e g cur hc hs=>by
   obtain ⟨cur2,t,fz,hc2,ht2⟩:=hty g hs
   have q1:=κ'.types κ
   have q2:=κ.types κ'
   rcases ht2 with ht2 | ht2
   · exact ty_ne hc hc2 (by rw [ht2];exact (q1.2.2.2 e).2) rfl
   · exact ty_ne hc hc2 (by rw [ht2];exact Ne.symm q2.1) rfl
 have key:∀ κ',κ'≠κ→updK H κ L κ'=H κ':=fun κ' e=>updK_ne _ _ _ _ e
 refine ⟨h.below.trans (ht.below h.book.lt hB),hbk,Nat.le_trans h.size ht.size,fun κ' k hk => ?_,h.row,fun κ' i hi => ?_,fun κ' i hi => ?_,fun κ' hd i hi => ?_⟩
 · rcases Kd.dec κ' κ with e | e
   · subst e
     rw [updK_self] at hk
     obtain ⟨i,hi,e⟩:=hk
     exact (hg.low i hi k e).2
   · rw [key κ' e] at hk
     exact h.low κ' k hk
 · rcases Kd.dec κ' κ with e | e
   · subst e
     have e2:=updK_self H κ' L
     revert hi
     rw [e2]
     intro hi
     exact hg.lists i hi
   · revert hi
     rw [key κ' e]
     intro hi
     exact (h.fill κ' i hi).touch ht (fun g hg2 hs=>by
       obtain ⟨cur,hc,_⟩:=((h.book.part κ').ok i hi).block hg2
       exact hne κ' e g _ hc hs) (fun v hv=>hv.touch ht hF)
 · rcases Kd.dec κ' κ with e | e
   · subst e
     revert hi
     rw [updK_self]
     intro hi
     rw [(hs i hi (by omega)).1]
     exact h.small κ' i (by omega)
   · revert hi
     rw [key κ' e]
     intro hi
     exact h.small κ' i hi
 · rcases Kd.dec κ' κ with e | e
   · subst e
     revert hi
     rw [updK_self]
     intro hi
     obtain ⟨g1,g2,g3⟩:=hg.longs i hi (by omega)
     refine ⟨g1,g2,fun k hk => ?_⟩
     rcases g3 k hk with g4 | g4
     · exact .inl g4
     · exact .inr (Nat.le_trans h.size g4)
   · rcases hd with hd | hd
     · exact absurd hd e
     · revert hi
       rw [key κ' e]
       intro hi
       obtain ⟨l1,l2,l3⟩:=h.long κ' hd i hi
       refine ⟨l1.touch ht (fun g hg2 hs => ?_) (fun v hv=>hv.touch ht hF),l2,l3⟩
       rcases l3 g hg2 with l4 | l4
       · obtain ⟨cur,hc,_⟩:=((h.book.part κ').ok i hi).block l4
         exact hne κ' e g _ hc hs
       · have:=hF g hs
         omega
theorem fillText_nil (w:World) (bk N:Nat) (bs:Kd→Value) (h:w.heap[bk]?=some (.cells (bookC N bs) 56 (0,0))):Calls Tryz.prog 98 #[.pointer (some ⟨bk,0,none⟩)] w fun e w' => e=.returned (.tuple #[])∧w=w':=by
 have f1:w.cell? ⟨bk,3,none⟩=some (.slice none 0 0):=by rw [cell_of_block h];rfl
 clear h
 go_enter Tryz.func98,Tryz.ntmps98
 go_wp2
 go_loopw [2] (fun i wr=>i=.int .i64 0∧wr=w) (fun _ _=>0)
 case atStart=>exact ⟨rfl,rfl⟩
 case round =>
   obtain ⟨rfl,rfl⟩:=hrel
   go_wp2
   go_end0
   exact ⟨rfl,rfl⟩
theorem growText_nil (w:World) (bk N:Nat) (bs:Kd→Value) (h:w.heap[bk]?=some (.cells (bookC N bs) 56 (0,0))):Calls Tryz.prog 107 #[.pointer (some ⟨bk,0,none⟩)] w fun e w' => e=.returned (.tuple #[])∧w=w':=by
 have f1:w.cell? ⟨bk,3,none⟩=some (.slice none 0 0):=by rw [cell_of_block h];rfl
 clear h
 go_enter Tryz.func107,Tryz.ntmps107
 go_wp2
 go_loopw [2] (fun i wr=>i=.int .i64 0∧wr=w) (fun _ _=>0)
 case atStart=>exact ⟨rfl,rfl⟩
 case round =>
   obtain ⟨rfl,rfl⟩:=hrel
   go_wp2
   go_end0
   exact ⟨rfl,rfl⟩
theorem lookText_nil (w:World) (bk N:Nat) (bs:Kd→Value) (h:w.heap[bk]?=some (.cells (bookC N bs) 56 (0,0))):Calls Tryz.prog 116 #[.pointer (some ⟨bk,0,none⟩)] w fun e w' => e=.returned (.bool true)∧w=w':=by
 have f1:w.cell? ⟨bk,3,none⟩=some (.slice none 0 0):=by rw [cell_of_block h];rfl
 clear h
 go_enter Tryz.func116,Tryz.ntmps116
 go_wp2
 go_loopw [3] (fun i wr=>i=.int .i64 0∧wr=w) (fun _ _=>0)
 case atStart=>exact ⟨rfl,rfl⟩
 case round =>
   obtain ⟨rfl,rfl⟩:=hrel
   go_wp2
   go_ret
   exact ⟨rfl,rfl⟩
theorem fillWhy_nil (w:World) (bk N:Nat) (bs:Kd→Value) (h:w.heap[bk]?=some (.cells (bookC N bs) 56 (0,0))):Calls Tryz.prog 101 #[.pointer (some ⟨bk,0,none⟩)] w fun e w' => e=.returned (.tuple #[])∧w=w':=by
 have f1:w.cell? ⟨bk,6,none⟩=some (.slice none 0 0):=by rw [cell_of_block h];rfl
 clear h
 go_enter Tryz.func101,Tryz.ntmps101
 go_wp2
 go_loopw [2] (fun i wr=>i=.int .i64 0∧wr=w) (fun _ _=>0)
 case atStart=>exact ⟨rfl,rfl⟩
 case round =>
   obtain ⟨rfl,rfl⟩:=hrel
   go_wp2
   go_end0
   exact ⟨rfl,rfl⟩
theorem growWhy_nil (w:World) (bk N:Nat) (bs:Kd→Value) (h:w.heap[bk]?=some (.cells (bookC N bs) 56 (0,0))):Calls Tryz.prog 110 #[.pointer (some ⟨bk,0,none⟩)] w fun e w' => e=.returned (.tuple #[])∧w=w':=by
 have f1:w.cell? ⟨bk,6,none⟩=some (.slice none 0 0):=by rw [cell_of_block h];rfl
 clear h
 go_enter Tryz.func110,Tryz.ntmps110
 go_wp2
 go_loopw [2] (fun i wr=>i=.int .i64 0∧wr=w) (fun _ _=>0)
 case atStart=>exact ⟨rfl,rfl⟩
 case round =>
   obtain ⟨rfl,rfl⟩:=hrel
   go_wp2
   go_end0
   exact ⟨rfl,rfl⟩
theorem lookWhy_nil (w:World) (bk N:Nat) (bs:Kd→Value) (h:w.heap[bk]?=some (.cells (bookC N bs) 56 (0,0))):Calls Tryz.prog 119 #[.pointer (some ⟨bk,0,none⟩)] w fun e w' => e=.returned (.bool true)∧w=w':=by
 have f1:w.cell? ⟨bk,6,none⟩=some (.slice none 0 0):=by rw [cell_of_block h];rfl
 clear h
 go_enter Tryz.func119,Tryz.ntmps119
 go_wp2
 go_loopw [3] (fun i wr=>i=.int .i64 0∧wr=w) (fun _ _=>0)
 case atStart=>exact ⟨rfl,rfl⟩
 case round =>
   obtain ⟨rfl,rfl⟩:=hrel
   go_wp2
   go_ret
   exact ⟨rfl,rfl⟩
theorem fillFrame_nil (w:World) (bk N:Nat) (bs:Kd→Value) (h:w.heap[bk]?=some (.cells (bookC N bs) 56 (0,0))):Calls Tryz.prog 102 #[.pointer (some ⟨bk,0,none⟩)] w fun e w' => e=.returned (.tuple #[])∧w=w':=by
 have f1:w.cell? ⟨bk,7,none⟩=some (.slice none 0 0):=by rw [cell_of_block h];rfl
 clear h
 go_enter Tryz.func102,Tryz.ntmps102
 go_wp2
 go_loopw [2] (fun i wr=>i=.int .i64 0∧wr=w) (fun _ _=>0)
 case atStart=>exact ⟨rfl,rfl⟩
 case round =>
   obtain ⟨rfl,rfl⟩:=hrel
   go_wp2
   go_end0
   exact ⟨rfl,rfl⟩
theorem growFrame_nil (w:World) (bk N:Nat) (bs:Kd→Value) (h:w.heap[bk]?=some (.cells (bookC N bs) 56 (0,0))):Calls Tryz.prog 111 #[.pointer (some ⟨bk,0,none⟩)] w fun e w' => e=.returned (.tuple #[])∧w=w':=by
 have f1:w.cell? ⟨bk,7,none⟩=some (.slice none 0 0):=by rw [cell_of_block h];rfl
 clear h
 go_enter Tryz.func111,Tryz.ntmps111
 go_wp2
 go_loopw [2] (fun i wr=>i=.int .i64 0∧wr=w) (fun _ _=>0)
 case atStart=>exact ⟨rfl,rfl⟩
 case round =>
   obtain ⟨rfl,rfl⟩:=hrel
   go_wp2
   go_end0
   exact ⟨rfl,rfl⟩
theorem lookFrame_nil (w:World) (bk N:Nat) (bs:Kd→Value) (h:w.heap[bk]?=some (.cells (bookC N bs) 56 (0,0))):Calls Tryz.prog 120 #[.pointer (some ⟨bk,0,none⟩)] w fun e w' => e=.returned (.bool true)∧w=w':=by
 have f1:w.cell? ⟨bk,7,none⟩=some (.slice none 0 0):=by rw [cell_of_block h];rfl
 clear h
 go_enter Tryz.func120,Tryz.ntmps120
 go_wp2
 go_loopw [3] (fun i wr=>i=.int .i64 0∧wr=w) (fun _ _=>0)
 case atStart=>exact ⟨rfl,rfl⟩
 case round =>
   obtain ⟨rfl,rfl⟩:=hrel
   go_wp2
   go_ret
   exact ⟨rfl,rfl⟩
theorem fillReply_nil (w:World) (bk N:Nat) (bs:Kd→Value) (h:w.heap[bk]?=some (.cells (bookC N bs) 56 (0,0))):Calls Tryz.prog 103 #[.pointer (some ⟨bk,0,none⟩)] w fun e w' => e=.returned (.tuple #[])∧w=w':=by
 have f1:w.cell? ⟨bk,8,none⟩=some (.slice none 0 0):=by rw [cell_of_block h];rfl
 clear h
 go_enter Tryz.func103,Tryz.ntmps103
 go_wp2
 go_loopw [2] (fun i wr=>i=.int .i64 0∧wr=w) (fun _ _=>0)
 case atStart=>exact ⟨rfl,rfl⟩
 case round =>
   obtain ⟨rfl,rfl⟩:=hrel
   go_wp2
   go_end0
   exact ⟨rfl,rfl⟩
theorem growReply_nil (w:World) (bk N:Nat) (bs:Kd→Value) (h:w.heap[bk]?=some (.cells (bookC N bs) 56 (0,0))):Calls Tryz.prog 112 #[.pointer (some ⟨bk,0,none⟩)] w fun e w' => e=.returned (.tuple #[])∧w=w':=by
 have f1:w.cell? ⟨bk,8,none⟩=some (.slice none 0 0):=by rw [cell_of_block h];rfl
 clear h
 go_enter Tryz.func112,Tryz.ntmps112
 go_wp2
 go_loopw [2] (fun i wr=>i=.int .i64 0∧wr=w) (fun _ _=>0)
 case atStart=>exact ⟨rfl,rfl⟩
 case round =>
   obtain ⟨rfl,rfl⟩:=hrel
   go_wp2
   go_end0
   exact ⟨rfl,rfl⟩
theorem lookReply_nil (w:World) (bk N:Nat) (bs:Kd→Value) (h:w.heap[bk]?=some (.cells (bookC N bs) 56 (0,0))):Calls Tryz.prog 121 #[.pointer (some ⟨bk,0,none⟩)] w fun e w' => e=.returned (.bool true)∧w=w':=by
 have f1:w.cell? ⟨bk,8,none⟩=some (.slice none 0 0):=by rw [cell_of_block h];rfl
 clear h
 go_enter Tryz.func121,Tryz.ntmps121
 go_wp2
 go_loopw [3] (fun i wr=>i=.int .i64 0∧wr=w) (fun _ _=>0)
 case atStart=>exact ⟨rfl,rfl⟩
 case round =>
   obtain ⟨rfl,rfl⟩:=hrel
   go_wp2
   go_ret
   exact ⟨rfl,rfl⟩
theorem fillRecord_nil (w:World) (bk N:Nat) (bs:Kd→Value) (h:w.heap[bk]?=some (.cells (bookC N bs) 56 (0,0))):Calls Tryz.prog 104 #[.pointer (some ⟨bk,0,none⟩)] w fun e w' => e=.returned (.tuple #[])∧w=w':=by
 have f1:w.cell? ⟨bk,9,none⟩=some (.slice none 0 0):=by rw [cell_of_block h];rfl
 clear h
 go_enter Tryz.func104,Tryz.ntmps104
 go_wp2
 go_loopw [2] (fun i wr=>i=.int .i64 0∧wr=w) (fun _ _=>0)
 case atStart=>exact ⟨rfl,rfl⟩
 case round =>
   obtain ⟨rfl,rfl⟩:=hrel
   go_wp2
   go_end0
   exact ⟨rfl,rfl⟩
theorem growRecord_nil (w:World) (bk N:Nat) (bs:Kd→Value) (h:w.heap[bk]?=some (.cells (bookC N bs) 56 (0,0))):Calls Tryz.prog 113 #[.pointer (some ⟨bk,0,none⟩)] w fun e w' => e=.returned (.tuple #[])∧w=w':=by
 have f1:w.cell? ⟨bk,9,none⟩=some (.slice none 0 0):=by rw [cell_of_block h];rfl
 clear h
 go_enter Tryz.func113,Tryz.ntmps113
 go_wp2
 go_loopw [2] (fun i wr=>i=.int .i64 0∧wr=w) (fun _ _=>0)
 case atStart=>exact ⟨rfl,rfl⟩
 case round =>
   obtain ⟨rfl,rfl⟩:=hrel
   go_wp2
   go_end0
   exact ⟨rfl,rfl⟩
theorem lookRecord_nil (w:World) (bk N:Nat) (bs:Kd→Value) (h:w.heap[bk]?=some (.cells (bookC N bs) 56 (0,0))):Calls Tryz.prog 122 #[.pointer (some ⟨bk,0,none⟩)] w fun e w' => e=.returned (.bool true)∧w=w':=by
 have f1:w.cell? ⟨bk,9,none⟩=some (.slice none 0 0):=by rw [cell_of_block h];rfl
 clear h
 go_enter Tryz.func122,Tryz.ntmps122
 go_wp2
 go_loopw [3] (fun i wr=>i=.int .i64 0∧wr=w) (fun _ _=>0)
 case atStart=>exact ⟨rfl,rfl⟩
 case round =>
   obtain ⟨rfl,rfl⟩:=hrel
   go_wp2
   go_ret
   exact ⟨rfl,rfl⟩
theorem markByte_any (m:Nat) (w:World) (hm:m<4611686018427387904):Calls Tryz.prog 167 #[.int .i64 m] w fun e w' => ∃ x:Int,e=.returned (.int .u8 (x))∧Below w.heap.size w w'∧∀ F,F≤w.heap.size→Good .byte F w' m (.int .u8 (x)):=by
 have h:=Lib.hid (mk_eq m)
 go_enter Tryz.func167,Tryz.ntmps167
 go_wp2
 go_ret
 exact ⟨_,rfl,Below.refl _ _,fun F hF=>by rw [h.out];rfl⟩
theorem isByte_any (m F:Nat) (x:Int) (w:World) (hm:m<4611686018427387904) (hg:Good .byte F w m (.int .u8 (x))):Calls Tryz.prog 176 #[(.int .u8 (x)),.int .i64 m] w fun e w' => e=.returned (.bool true)∧∃ q,w'=w.drewN q:=by
 have h:=Lib.hid (mk_eq m)
 cases hg
 go_enter Tryz.func176,Tryz.ntmps176
 go_wp2
 go_ret
 exact ⟨by rw [h.out];simp,0,rfl⟩
theorem goodByte_shape {F m:Nat} {w:World} {v:Value} (h:Good .byte F w m v):∃ x:Int,v=(.int .u8 (x)):=by
 first
   | exact ⟨_,h⟩
   | (obtain ⟨g,e,_⟩:=h;exact ⟨g,e⟩)
set_option maxHeartbeats 4000000 in
theorem fillByte_any (w:World) (B bk:Nat) (C:Array Value) (bo:Option Addr) (bc:Nat) (L:List Hl) (hb:w.heap[bk]?=some (.cells C 56 (0,0))) (hC:C[1]?=some (.slice bo L.length bc)) (h:Part .byte w B (.slice bo L.length bc) L) (F:Nat) (hF:F≤w.heap.size) (hlow:∀ k,LS L k→k<F) :
   Calls Tryz.prog 96 #[.pointer (some ⟨bk,0,none⟩)] w fun e w' => e=.returned (.tuple #[])∧Touch (LS L) w w'∧Part .byte w' B (.slice bo L.length bc) L∧∀ i (hi:i<L.length),HFill .byte F w' L[i].l L[i].m:=by
 have hfew:=h.few
 have HC:Hid (∀ (W:World),Touch (LS L) w W→W.cell? ⟨bk,1,none⟩=some (.slice bo L.length bc)):=Lib.hid (fun W ht=>by
   rw [cell_of_block (ht.heap hb (fun e=>by
     obtain ⟨cur,hc,_⟩:=h.ls e
     exact ty_ne hc hb (by decide) rfl))]
   exact hC)
 have HH:=Lib.hid h
 have HLO:=Lib.hid hlow
 have HFF:=Lib.hid hF
 clear h hb hC hlow hF
 go_enter Tryz.func96,Tryz.ntmps96
 go_wp2
 obtain ⟨M,hM⟩:∃ M,M=L.length:=⟨_,rfl⟩
 have HM:=Lib.hid hM
 clear hM
 go_loopw [2] (fun i wr => ∃ j:Nat,j≤L.length∧i=.int .i64 j∧Hid (Touch (LS L) w wr)∧Hid (Part .byte wr B (.slice bo L.length bc) L)∧Hid (∀ i (hi:i<L.length),i<j→HFill .byte F wr L[i].l L[i].m)) (fun i _=>M - (intOf i).toNat)
 case atStart=>exact ⟨0,Nat.zero_le _,rfl,Lib.hid (Touch.refl _ _),HH,Lib.hid (fun i hi h=>by omega)⟩
 case round =>
   obtain ⟨j,hj,rfl,HT,HK,HF⟩:=hrel
   have f1:wr.cell? ⟨bk,1,none⟩=some (.slice bo L.length bc):=HC.out wr HT.out
   by_cases hlt:j<L.length
   · obtain ⟨gr,c,cur,hbs,hnc,hcm,hgr,_,hra⟩:=HK.out.row_at (by omega)
     obtain ⟨rfl,rfl⟩:bo=some ⟨gr,0,none⟩∧bc=c:=by simpa using hbs
     obtain ⟨xa,xn,xc,ya,yn,yc,m,E⟩:∃ xa xn xc ya yn yc m,Hid (xa=L[j].l.a∧xn=L[j].l.n∧xc=L[j].l.c∧ya=L[j].g.a∧yn=L[j].g.n∧yc=L[j].g.c∧m=L[j].m):=⟨_,_,_,_,_,_,_,Lib.hid ⟨rfl,rfl,rfl,rfl,rfl,rfl,rfl⟩⟩
     have RA:Hid (wr.rangeAt gr (j*3) [.slice xa xn xc,.slice ya yn yc,.int .i64 m]):=Lib.hid (by obtain ⟨e1,e2,e3,e4,e5,e6,e7⟩:=E.out;rw [e1,e2,e3,e4,e5,e6,e7];exact hra j hlt)
     have hm62:m<4611686018427387904:=by rw [E.out.2.2.2.2.2.2];exact HK.out.num j hlt
     have hxn:xn≤maxLen:=by rw [E.out.2.1];exact (HK.out.ok j hlt).len
     have hxm:(xn:Int)≤9223372036854775807:=by unfold maxLen at hxn;omega
     clear hbs hra
     go_wp2_with (first
       | (refine wpList_load_mid rfl 170 (.tmp 19) rfl gr (j*3) rfl [.slice xa xn xc,.slice ya yn yc,.int .i64 m] _ RA.out Tryz.underlying170 rfl (infoH3 .byte) ?_)
       | fail)
     have hv:=heap_new wr (.cells #[.slice xa xn xc,.slice ya yn yc,.int .i64 m] 170 (0,0))
     have hbv:Below wr.heap.size wr (wr.alloc (.cells #[.slice xa xn xc,.slice ya yn yc,.int .i64 m] 170)):=(Below.refl _ _).alloc (Nat.le_refl _) _
     generalize wr.alloc (.cells #[.slice xa xn xc,.slice ya yn yc,.int .i64 m] 170)=w1 at hv hbv ⊢
     have HT1:=Lib.hid (HT.out.trans (Touch.of_below hbv))
     have HK1:=Lib.hid (HK.out.below hbv)
     have HF1:Hid (∀ i (hi:i<L.length),i<j→HFill .byte F w1 L[i].l L[i].m):=Lib.hid (fun i hi h=>(HF.out i hi h).below hbv)
     have HV1:=Lib.hid hv
     obtain ⟨hv0,hhv⟩:∃ hv0,hv0=wr.heap.size:=⟨_,rfl⟩
     rw [← hhv] at HV1 ⊢
     clear hv hbv HT HK HF f1 hhv hgr
     obtain ⟨P,hP⟩:∃ P,P=xn:=⟨_,rfl⟩
     have HP:=Lib.hid hP
     clear hP
     go_loopw [4] (fun i2 wk => ∃ k:Nat,k≤xn∧i2=.int .i64 k∧Hid (Touch (LS L) w wk)∧Hid (Part .byte wk B (.slice (some ⟨gr,0,none⟩) L.length bc) L)∧Hid (∀ i (hi:i<L.length),i<j→HFill .byte F wk L[i].l L[i].m)∧Hid (∀ x,x<k→∃ g v,xa=some ⟨g,0,none⟩∧wk.cell? ⟨g,x,none⟩=some v∧Good .byte F wk m v)∧Hid (wk.heap[hv0]?=some (.cells #[.slice xa xn xc,.slice ya yn yc,.int .i64 m] 170 (0,0)))) (fun i2 _=>P - (intOf i2).toNat)
     case atStart=>exact ⟨0,Nat.zero_le _,rfl,HT1,HK1,HF1,Lib.hid (fun x hx=>by omega),HV1⟩
     case round =>
       clear HT1 HK1 HF1 HV1
       obtain ⟨k,hk,rfl,HT,HK,HF,HX,HV⟩:=hrel
       have v0:wr.cell? ⟨hv0,0,none⟩=some (.slice xa xn xc):=by rw [cell_of_block HV.out];rfl
       have v2:wr.cell? ⟨hv0,2,none⟩=some (.int .i64 m):=by rw [cell_of_block HV.out];rfl
       by_cases hkl:k<xn
       · obtain ⟨g,cur,hga,hgc,hgk,hgB,hgz⟩:=(HK.out.ok j hlt).at k (by rw [← E.out.2.1];exact hkl)
         have hxa:xa=some ⟨g,0,none⟩:=by rw [E.out.1];exact hga
         subst hxa
         have hgF:Hid (g<F):=Lib.hid (HLO.out g ⟨j,hlt,hga⟩)
         have hFw:Hid (F≤wr.drew.heap.size):=Lib.hid (Nat.le_trans HFF.out HT.out.size)
         obtain ⟨u,c1⟩:∃ u,wr.cell? ⟨g,k,none⟩=some u:=by rw [cell_of_block hgc];exact ⟨_,Array.getElem?_eq_getElem hgk⟩
         have c1':wr.drew.cell? ⟨g,k,none⟩=some u:=c1
         have c2:wr.frozen? ⟨g,k,none⟩=false:=hgz
         have hgd:wr.drew.heap[g]?=some (.cells cur.1 5 cur.2):=hgc
         have HGD:=Lib.hid hgd
         have c2':wr.drew.frozen? ⟨g,k,none⟩=false:=c2
         have hne:g≠hv0:=ty_ne hgc HV.out (by decide)
         have v0d:wr.drew.cell? ⟨hv0,0,none⟩=some (.slice (some ⟨g,0,none⟩) xn xc):=v0
         have v2d:wr.drew.cell? ⟨hv0,2,none⟩=some (.int .i64 m):=v2
         have HGA:=Lib.hid hga
         clear hgc hgd hga hgz
         go_wp2
         go_region_held3 (fun w' => w'.cell? ⟨hv0,0,none⟩=some (.slice (some ⟨g,0,none⟩) xn xc)∧w'.cell? ⟨hv0,2,none⟩=some (.int .i64 m)) (first
             | with_reducible exact ⟨v0d,v2d⟩
             | with_reducible exact q3
             | exact ⟨(World.cell?_setCell_far w3 ⟨g,k,none⟩ ⟨hv0,0,none⟩ _ hne).trans q3.1,(World.cell?_setCell_far w3 ⟨g,k,none⟩ ⟨hv0,2,none⟩ _ hne).trans q3.2⟩) (first
           | (go_at_call 167;((with_reducible refine (markByte_any m wr.drew hm62).mono ?_);rintro e w3 ⟨x,rfl,hb3,hg3⟩;have hgood:=Lib.hid (hg3 F hFw.out);have q3:w3.cell? ⟨hv0,0,none⟩=some (.slice (some ⟨g,0,none⟩) xn xc)∧w3.cell? ⟨hv0,2,none⟩=some (.int .i64 m):=⟨cell_later hb3 v0d,cell_later hb3 v2d⟩;have qc:w3.cell? ⟨g,k,none⟩=some u:=cell_later hb3 c1';have qg:=below_heap hb3 HGD.out (lt_of_heap HGD.out);have qf:w3.frozen? ⟨g,k,none⟩=false:=(by have h0:=c2';unfold World.frozen? at h0 ⊢;rw [HGD.out] at h0;rw [qg];exact h0);have HB3:Hid (Below wr.heap.size wr w3):=Lib.hid (((Below.refl wr.heap.size wr).drew).trans hb3);have HQG:=Lib.hid qg;clear hb3 hg3 qg))
           | fail)
         obtain ⟨w5,hw5⟩:∃ w5,w5=w3.setCell ⟨g,k,none⟩ (.int .u8 (x)):=⟨_,rfl⟩
         have htg:Touch (fun y=>y=g) w3 w5:=by rw [hw5];exact (Touch.refl _ _).setCell _ _ (.inl rfl)
         have hkeep:∀ v,Good .byte F w3 m v→Good .byte F w5 m v:=fun v hv=>hv.touch htg (fun y hy=>by rw [hy];exact hgF.out)
         have HT2:Hid (Touch (LS L) w w5):=Lib.hid ((HT.out.trans (Touch.of_below HB3.out)).trans (htg.weaken (fun y _ hy=>by rw [hy];exact ⟨j,hlt,HGA.out⟩)))
         have HK2:Hid (Part .byte w5 B (.slice (some ⟨gr,0,none⟩) L.length bc) L):=Lib.hid (by rw [hw5];exact (HK.out.below HB3.out).store j hlt k g (by rw [← E.out.2.1];exact hkl) HGA.out (.int .u8 (x)))
         have HF2:Hid (∀ i (hi:i<L.length),i<j→HFill .byte F w5 L[i].l L[i].m):=Lib.hid (fun i hi h=>((HF.out i hi h).below HB3.out).touch htg (fun y hy e=>HK.out.apart j i hlt hi (by omega) g HGA.out (by rw [← e];exact hy)) (fun v hv=>hv.touch htg (fun y hy=>by rw [hy];exact hgF.out)))
         have HX2:Hid (∀ x,x<k+1→∃ g' v,(some ⟨g,0,none⟩:Option Addr)=some ⟨g',0,none⟩∧w5.cell? ⟨g',x,none⟩=some v∧Good .byte F w5 m v):=Lib.hid (fun y hy=>by
           by_cases hyk:y=k
           · subst hyk
             refine ⟨g,_,rfl,?_,hkeep _ hgood.out⟩
             rw [hw5]
             exact World.cell?_setCell_same' _ _ _ (by rw [qc];rfl)
           · obtain ⟨g',v,e,hc,hv⟩:=HX.out y (by omega)
             cases e
             refine ⟨g,v,rfl,?_,hkeep _ (hv.below HB3.out)⟩
             rw [hw5]
             exact (World.cell?_setCell_other _ _ _ _ (by intro e;cases e;exact hyk rfl)).trans (cell_later HB3.out hc))
         have HV2:Hid (w5.heap[hv0]?=some (.cells #[.slice (some ⟨g,0,none⟩) xn xc,.slice ya yn yc,.int .i64 m] 170 (0,0))):=Lib.hid (htg.heap (below_heap HB3.out HV.out (lt_of_heap HV.out)) (Ne.symm hne))
         have hwx:w3.setCell ⟨g,k,none⟩ (.int .u8 (x))=w5:=hw5.symm
         rw [hwx]
         clear c1 c1' c2 c2' v0 v2 v0d v2d HT HK HF HX HV HGA HGD hgood q3 qc qf HB3 HQG htg hkeep hw5 hwx
         go_wp2
         go_roundw
         case rel=>exact ⟨k+1,by omega,by go_num,HT2,HK2,HF2,HX2,HV2⟩
         case measure=>have:=HP.out;simp [intOf];omega
       · have hke:k=xn:=by omega
         subst hke
         have HF2:Hid (∀ i (hi:i<L.length),i<j+1→HFill .byte F wr L[i].l L[i].m):=Lib.hid (fun i hi h=>by
           by_cases hij:i=j
           · subst hij
             intro x hx
             obtain ⟨e1,e2,_,_,_,_,e7⟩:=E.out
             rw [← e2] at hx
             rw [← e1,← e7]
             exact HX.out x hx
           · exact HF.out i hi (by omega))
         clear HF HX HV
         go_wp2
         go_roundw
         case rel=>exact ⟨j+1,by omega,by go_num,HT,HK,HF2⟩
         case measure=>have:=HM.out;simp [intOf];omega
   · have hjl:j=L.length:=by omega
     subst hjl
     go_wp2
     go_end0
     exact ⟨rfl,HT.out,HK.out,fun i hi=>HF.out i hi hi⟩
set_option maxHeartbeats 4000000 in
theorem growByte_any (w:World) (B bk:Nat) (C:Array Value) (bo:Option Addr) (bc:Nat) (L:List Hl) (hb:w.heap[bk]?=some (.cells C 56 (0,0))) (hC:C[1]?=some (.slice bo L.length bc)) (h:Part .byte w B (.slice bo L.length bc) L) (F:Nat) (hF:F≤w.heap.size) (hlow:∀ k,LS L k→k<F) (hrow:∀ k,bo=some ⟨k,0,none⟩→k<F) (hf:∀ i (hi:i<L.length),HFill .byte F w L[i].l L[i].m) (hsm:∀ i (hi:i<L.length),L[i].l.n≤100000000) :
   Calls Tryz.prog 105 #[.pointer (some ⟨bk,0,none⟩)] w fun e w' => e=.returned (.tuple #[])∧Touch (GS L bo) w w'∧∃ L',L'.length=L.length∧(∀ i (hi:i<L'.length) (hi':i<L.length),L'[i].l=L[i].l∧L'[i].m=L[i].m)∧Part .byte w' B (.slice bo L.length bc) L'∧Grown .byte F w w' L' L.length:=by
 have hfew:=h.few
 have hrw:∀ k,bo=some ⟨k,0,none⟩→B≤k∧∃ cur,w.heap[k]?=some (.cells cur 170):=fun k hk=>by subst hk;exact ⟨(h.row.lt k rfl).1,owns_block h.row rfl⟩
 have HC:Hid (∀ (W:World),Touch (GS L bo) w W→W.cell? ⟨bk,1,none⟩=some (.slice bo L.length bc)):=Lib.hid (fun W ht=>by
   rw [cell_of_block (ht.heap hb (fun e=>by
     rcases e with e | e
     · obtain ⟨cur,hc,_⟩:=h.ls e
       exact ty_ne hc hb (by decide) rfl
     · obtain ⟨_,cur,hc⟩:=hrw bk e
       exact ty_ne hc hb (by decide) rfl))]
   exact hC)
 have HGB:Hid (∀ k,GS L bo k→B≤k):=Lib.hid (fun k hk=>by
   rcases hk with hk | hk
   · obtain ⟨_,_,e⟩:=h.ls hk;exact e
   · exact (hrw k hk).1)
 have HG0:Hid (Grown .byte F w w L 0):=Lib.hid ⟨fun i hi k hk=>by
   obtain ⟨cur,hc,_⟩:=(h.ok i hi).block hk
   exact ⟨lt_of_heap hc,hlow k ⟨i,hi,hk⟩⟩,hf,fun i hi hij=>by omega,Nat.le_refl _⟩
 have HGR:Hid (∀ gr,bo=some ⟨gr,0,none⟩→gr<w.heap.size∧gr<F):=Lib.hid (fun gr e=>by
   obtain ⟨_,cur,hc⟩:=hrw gr e
   exact ⟨lt_of_heap hc,hrow gr e⟩)
 have HH:=Lib.hid h
 have HSM:=Lib.hid hsm
 have HLO:=Lib.hid hlow
 have HFF:=Lib.hid hF
 clear h hf hsm hlow hrow hrw hb hC hF
 go_enter Tryz.func105,Tryz.ntmps105
 go_wp2
 obtain ⟨M,hM⟩:∃ M,M=L.length:=⟨_,rfl⟩
 have HM:=Lib.hid hM
 rw [← hM] at hfew
 clear hM
 go_loopw [2] (fun i wr => ∃ j:Nat,j≤M∧i=.int .i64 j∧Hid (Touch (GS L bo) w wr)∧Hid (∃ L',L'.length=M∧(∀ i (hi:i<L'.length) (hi':i<L.length),L'[i].l=L[i].l∧L'[i].m=L[i].m)∧Part .byte wr B (.slice bo M bc) L'∧Grown .byte F w wr L' j)) (fun i _=>M - (intOf i).toNat)
 case atStart=>exact ⟨0,Nat.zero_le _,rfl,Lib.hid (Touch.refl _ _),Lib.hid ⟨L,HM.out.symm,fun i _ _=>⟨rfl,rfl⟩,by rw [HM.out];exact HH.out,HG0.out⟩⟩
 case round =>
   obtain ⟨j,hj,rfl,HT,HX⟩:=hrel
   obtain ⟨L',hl',hsame,hk,hgn⟩:=HX.out
   have f1:wr.cell? ⟨bk,1,none⟩=some (.slice bo M bc):=by rw [HM.out];exact HC.out wr HT.out
   by_cases hlt:j<M
   · have hjH:j<L'.length:=by omega
     have hjL:j<L.length:=by have:=HM.out;omega
     obtain ⟨gr,c,cur,hbs,hnc,hcm,hgr,hgB,hra⟩:=hk.row_at (by omega)
     rw [hl'] at hbs hnc
     obtain ⟨rfl,rfl⟩:bo=some ⟨gr,0,none⟩∧bc=c:=by simpa using hbs
     have hgrW:=Lib.hid (HGR.out gr rfl)
     obtain ⟨xa,xn,xc,ya,yn,yc,m,E⟩:∃ xa xn xc ya yn yc m,Hid (xa=L'[j].l.a∧xn=L'[j].l.n∧xc=L'[j].l.c∧ya=L'[j].g.a∧yn=L'[j].g.n∧yc=L'[j].g.c∧m=L'[j].m):=⟨_,_,_,_,_,_,_,Lib.hid ⟨rfl,rfl,rfl,rfl,rfl,rfl,rfl⟩⟩
     have RA:Hid (wr.rangeAt gr (j*3) [.slice xa xn xc,.slice ya yn yc,.int .i64 m]):=Lib.hid (by obtain ⟨e1,e2,e3,e4,e5,e6,e7⟩:=E.out;rw [e1,e2,e3,e4,e5,e6,e7];exact hra j hjH)
     have hm62:m<4611686018427387904:=by rw [E.out.2.2.2.2.2.2];exact hk.num j hjH
     have hxs:xn≤100000000:=by rw [E.out.2.1,(hsame j hjH hjL).1];exact HSM.out j hjL
     clear hbs hra hnc
     go_wp2_with (first
       | (refine wpList_load_mid rfl 170 (.tmp 20) rfl gr (j*3) rfl [.slice xa xn xc,.slice ya yn yc,.int .i64 m] _ RA.out Tryz.underlying170 rfl (infoH3 .byte) ?_)
       | fail)
     have hv:=heap_new wr (.cells #[.slice xa xn xc,.slice ya yn yc,.int .i64 m] 170 (0,0))
     have hbv:Below wr.heap.size wr (wr.alloc (.cells #[.slice xa xn xc,.slice ya yn yc,.int .i64 m] 170)):=(Below.refl _ _).alloc (Nat.le_refl _) _
     generalize wr.alloc (.cells #[.slice xa xn xc,.slice ya yn yc,.int .i64 m] 170)=w1 at hv hbv ⊢
     have HT1:=Lib.hid (HT.out.trans (Touch.of_below hbv))
     have HFw1:Hid (F≤w1.heap.size):=Lib.hid (Nat.le_trans HFF.out HT1.out.size)
     have HK1:=Lib.hid (hk.below hbv)
     have HG1:=Lib.hid (grown_below hgn hbv)
     have HV1:=Lib.hid hv
     have HL:=Lib.hid hl'
     have HSA:=Lib.hid hsame
     obtain ⟨hv0,hhv⟩:∃ hv0,hv0=wr.heap.size:=⟨_,rfl⟩
     rw [← hhv] at HV1 ⊢
     have hl0:Hid (∀ k,xa=some ⟨k,0,none⟩→k≠hv0):=Lib.hid (fun k hk2=>by
       rw [E.out.1] at hk2
       obtain ⟨cur2,hg',_⟩:=(HK1.out.ok j hjH).block hk2
       exact ty_ne hg' HV1.out (by decide))
     clear hv hbv HT HX hk hgn hsame f1 hhv hgr
     have hst:GrowSt .byte F w1 w1 B L'[j].l L'[j].m 0 L'[j].l.a L'[j].l.c:=GrowSt.start (HK1.out.ok j hjH) (HG1.out.lists j hjH) (fun k hk2=>(HG1.out.low j hjH k hk2).2)
     have HST:=Lib.hid hst
     clear hst
     obtain ⟨P,hP⟩:∃ P,P=40:=⟨_,rfl⟩
     have HP:=Lib.hid hP
     clear hP
     go_wp2
     go_loopw [5,4] (fun i2 s2 wk => ∃ t:Nat,∃ a2 n2 c2,t≤40∧i2=.int .i64 t∧s2=.slice a2 n2 c2∧Hid (n2=xn+t)∧Hid (GrowSt .byte F w1 wk B L'[j].l L'[j].m t a2 c2)) (fun i2 _ _=>P - (intOf i2).toNat)
     case atStart=>exact ⟨0,xa,xn,xc,by omega,rfl,rfl,Lib.hid rfl,Lib.hid (by rw [E.out.1,E.out.2.2.1];exact HST.out)⟩
     case round =>
       obtain ⟨t,a2,n2,c2,ht,rfl,rfl,HN2,HS2⟩:=hrel
       have HV:Hid (wr.heap[hv0]?=some (.cells #[.slice xa xn xc,.slice ya yn yc,.int .i64 m] 170 (0,0))):=Lib.hid (HS2.out.2.1.heap HV1.out (fun e=>hl0.out hv0 (by rw [E.out.1];exact e) rfl))
       have v2:wr.cell? ⟨hv0,2,none⟩=some (.int .i64 m):=by rw [cell_of_block HV.out];rfl
       by_cases htl:t<40
       · have hn2:n2≤100000100:=by have:=HN2.out;omega
         have hFr:Hid (F≤wr.heap.size):=Lib.hid (Nat.le_trans HFw1.out HS2.out.2.1.size)
         go_wp2_with fail
         refine (markByte_any m wr hm62).mono ?_
         rintro e w4 ⟨x,rfl,hb4,hg4⟩
         have hs2:=HS2.out
         obtain ⟨_,_,_,_,cur2,s2,_,_⟩:=hs2
         have hnn:L'[j].l.n+t=n2:=by rw [HN2.out,E.out.2.1]
         rw [hnn] at s2
         have HNN:=Lib.hid hnn
         have hba:Below wr.heap.size wr (w4.alloc (.cells #[(.int .u8 (x))] 5)):=hb4.alloc hb4.size _
         have hba4:Below w4.heap.size w4 (w4.alloc (.cells #[(.int .u8 (x))] 5)):=(Below.refl _ _).alloc (Nat.le_refl _) _
         have HA1:Hid (SK 5 (w4.alloc (.cells #[(.int .u8 (x))] 5)) a2 n2 c2 cur2):=Lib.hid (SK.below s2 hba)
         have HA2:Hid ((w4.alloc (.cells #[(.int .u8 (x))] 5)).cell? ⟨w4.heap.size,0,none⟩=some (.int .u8 (x))):=Lib.hid (by rw [cell_of_block (heap_new _ _)];rfl)
         have HA3:=Lib.hid (HS2.out.below hba)
         have HA4:Hid (Good .byte F (w4.alloc (.cells #[(.int .u8 (x))] 5)) m (.int .u8 (x))):=Lib.hid ((hg4 F hFr.out).below hba4)
         clear s2 hnn hba hba4 hb4 hg4 HV v2
         go_wp2_with (first
           | (at_builtin;refine wpList_append1 .byte rfl (.tmp 28) (.tmp 32) rfl a2 n2 c2 cur2 rfl HA1.out ⟨w4.heap.size,0,none⟩ (.int .u8 (x)) rfl HA2.out rfl (by omega) ?_;intro a3 c3 cur3 w3 hs3 ht3 hd3)
           | fail)
         have hst3:GrowSt .byte F w1 w3 B L'[j].l L'[j].m (t+1) a3 c3:=by
           have hs1:=HA1.out
           have hx:=HA3.out
           have hgd:=HA4.out
           rw [← HNN.out] at hs1 hs3 ht3 hd3
           rw [E.out.2.2.2.2.2.2] at hgd
           exact hx.step hgd cur2 hs1 hs3 ht3 hd3
         have HST3:=Lib.hid hst3
         clear hst3 hs3 ht3 hd3 HA1 HA2 HA3 HA4 HS2
         go_wp2
         go_roundw
         case rel=>exact ⟨t+1,a3,n2+1,c3,by omega,by go_num,rfl,Lib.hid (by rw [HN2.out];omega),HST3⟩
         case measure=>have:=HP.out;simp [intOf];omega
       · have hte:t=40:=by omega
         subst hte
         have hk4:Part .byte wr B (.slice (some ⟨gr,0,none⟩) L'.length bc) L':=by
           have:=HK1.out.grown j hjH HS2.out
           rw [HL.out];exact this
         obtain ⟨N2,hN2⟩:∃ N2,N2=n2:=⟨_,rfl⟩
         have hn3:N2=L'[j].l.n+40:=by rw [hN2,HN2.out,E.out.2.1]
         obtain ⟨hk5,hBgr,cur5,hgr5,hc5⟩:=hk4.setG j hjH ⟨a2,N2,c2⟩
         rw [hN2] at hk5 hn3
         have c1:∃ u,wr.cell? ⟨gr,j*3+1,none⟩=some u:=by rw [cell_of_block hgr5];exact ⟨_,Array.getElem?_eq_getElem hc5⟩
         obtain ⟨u,c1⟩:=c1
         have c2':wr.frozen? ⟨gr,j*3+1,none⟩=false:=blk_frozen hgr5
         have htw:Touch (GS L (some ⟨gr,0,none⟩)) w wr:=HT1.out.trans (HS2.out.2.1.weaken (fun k _ hk=>.inl ⟨j,hjL,by rw [← (HSA.out j hjH hjL).1];exact hk⟩))
         have f1:wr.cell? ⟨bk,1,none⟩=some (.slice (some ⟨gr,0,none⟩) M bc):=by rw [HM.out];exact HC.out wr htw
         have HK5:=Lib.hid hk5
         have HT5:Hid (Touch (GS L (some ⟨gr,0,none⟩)) w (wr.setCell ⟨gr,j*3+1,none⟩ (.slice a2 n2 c2))):=Lib.hid (htw.setCell _ _ (.inl (.inr rfl)))
         have HG5:Hid (Grown .byte F w (wr.setCell ⟨gr,j*3+1,none⟩ (.slice a2 n2 c2)) (L'.set j { L'[j] with g:=⟨a2,n2,c2⟩ }) (j+1)):=Lib.hid (by
           have:=grown_step HG1.out (by have:=HK1.out;rw [← HL.out] at this;exact this) hgrW.out hjH HS2.out
           rw [hn3];exact this)
         have HL5:Hid ((L'.set j { L'[j] with g:=⟨a2,n2,c2⟩ }).length=M):=Lib.hid (by rw [List.length_set];exact HL.out)
         have HS5:Hid (∀ i (hi:i<(L'.set j { L'[j] with g:=⟨a2,n2,c2⟩ }).length) (hi':i<L.length),(L'.set j { L'[j] with g:=⟨a2,n2,c2⟩ })[i].l=L[i].l∧(L'.set j { L'[j] with g:=⟨a2,n2,c2⟩ })[i].m=L[i].m):=Lib.hid (fun i hi hi' => by
           have hi2:i<L'.length:=by simpa using hi
           rw [(setL L' j hjH _ i hi hi2).1,(setL L' j hjH _ i hi hi2).2.1]
           exact HSA.out i hi2 hi')
         rw [← hN2] at hn3
         clear hk4 hk5 hgr5 hc5 hn3 hN2 v2 HV htw
         have esl:Value.slice (some ⟨gr,0,none⟩) L'.length bc=.slice (some ⟨gr,0,none⟩) M bc:=by rw [HL.out]
         have hk6:=HK5.out
         rw [esl] at hk6
         have HK6:=Lib.hid hk6
         clear hk6 esl HK5
         go_wp2
         go_roundw
         case rel=>exact ⟨j+1,by omega,by go_num,HT5,Lib.hid ⟨_,HL5.out,HS5.out,HK6.out,HG5.out⟩⟩
         case measure=>have:=HM.out;simp [intOf];omega
   · have hje:j=M:=by omega
     subst hje
     go_wp2
     go_end0
     exact ⟨rfl,HT.out,L',by rw [hl',HM.out],hsame,by rw [← HM.out];exact hk,by rw [← HM.out];exact hgn⟩
set_option maxHeartbeats 4000000 in
theorem lookByte_any (w:World) (B bk:Nat) (C:Array Value) (bo:Option Addr) (bc:Nat) (L:List Hl) (hb:w.heap[bk]?=some (.cells C 56 (0,0))) (hC:C[1]?=some (.slice bo L.length bc)) (h:Part .byte w B (.slice bo L.length bc) L) (F:Nat) (hf:∀ i (hi:i<L.length),HFill .byte F w L[i].l L[i].m) (hg:∀ i (hi:i<L.length),HFill .byte F w L[i].g L[i].m∧L[i].g.n=L[i].l.n+40) (hsm:∀ i (hi:i<L.length),L[i].l.n≤100000000) :
   Calls Tryz.prog 114 #[.pointer (some ⟨bk,0,none⟩)] w fun e w' => e=.returned (.bool true)∧Below w.heap.size w w':=by
 have hfew:=h.few
 have HC:Hid (∀ (W:World),Below w.heap.size w W→W.cell? ⟨bk,1,none⟩=some (.slice bo L.length bc)):=Lib.hid (fun W ht=>by
   rw [cell_of_block (below_heap ht hb (lt_of_heap hb))]
   exact hC)
 have HH:=Lib.hid h
 have HF:=Lib.hid hf
 have HG:=Lib.hid hg
 have HSM:=Lib.hid hsm
 clear h hf hg hsm hb hC
 go_enter Tryz.func114,Tryz.ntmps114
 go_wp2
 obtain ⟨M,hM⟩:∃ M,M=L.length:=⟨_,rfl⟩
 have HM:=Lib.hid hM
 rw [← hM] at hfew
 clear hM
 go_loopw [3] (fun i wr => ∃ j:Nat,j≤M∧i=.int .i64 j∧Hid (Below w.heap.size w wr)) (fun i _=>M - (intOf i).toNat)
 case atStart=>exact ⟨0,Nat.zero_le _,rfl,Lib.hid (Below.refl _ _)⟩
 case round =>
   obtain ⟨j,hj,rfl,HB⟩:=hrel
   have HKR:Hid (Part .byte wr B (.slice bo L.length bc) L):=Lib.hid (HH.out.below HB.out)
   have f1:wr.cell? ⟨bk,1,none⟩=some (.slice bo M bc):=by rw [HM.out];exact HC.out wr HB.out
   by_cases hlt:j<M
   · have hjH:j<L.length:=by have:=HM.out;omega
     obtain ⟨gr,c,cur,hbs,hnc,hcm,hgr,_,hra⟩:=HKR.out.row_at (by omega)
     rw [← HM.out] at hnc
     obtain ⟨rfl,rfl⟩:bo=some ⟨gr,0,none⟩∧bc=c:=by simpa using hbs
     obtain ⟨xa,xn,xc,ya,yn,yc,m,E⟩:∃ xa xn xc ya yn yc m,Hid (xa=L[j].l.a∧xn=L[j].l.n∧xc=L[j].l.c∧ya=L[j].g.a∧yn=L[j].g.n∧yc=L[j].g.c∧m=L[j].m):=⟨_,_,_,_,_,_,_,Lib.hid ⟨rfl,rfl,rfl,rfl,rfl,rfl,rfl⟩⟩
     have RA:Hid (wr.rangeAt gr (j*3) [.slice xa xn xc,.slice ya yn yc,.int .i64 m]):=Lib.hid (by obtain ⟨e1,e2,e3,e4,e5,e6,e7⟩:=E.out;rw [e1,e2,e3,e4,e5,e6,e7];exact hra j hjH)
     have hm62:m<4611686018427387904:=by rw [E.out.2.2.2.2.2.2];exact HKR.out.num j hjH
     have hxs:xn≤100000000:=by rw [E.out.2.1];exact HSM.out j hjH
     have hyx:yn=xn+40:=by rw [E.out.2.1,E.out.2.2.2.2.1];exact (HG.out j hjH).2
     have HL:Hid (∀ k,k<xn→∃ g v,xa=some ⟨g,0,none⟩∧w.cell? ⟨g,k,none⟩=some v∧Good .byte F w m v):=Lib.hid (by
       obtain ⟨e1,e2,_,_,_,_,e7⟩:=E.out
       rw [e1,e2,e7];exact HF.out j hjH)
     have HY:Hid (∀ k,k<yn→∃ g v,ya=some ⟨g,0,none⟩∧w.cell? ⟨g,k,none⟩=some v∧Good .byte F w m v):=Lib.hid (by
       obtain ⟨_,_,_,e4,e5,_,e7⟩:=E.out
       rw [e4,e5,e7];exact (HG.out j hjH).1)
     clear hbs hra hnc
     subst hyx
     go_wp2_with (first
       | (refine wpList_load_mid rfl 170 (.tmp 20) rfl gr (j*3) rfl [.slice xa xn xc,.slice ya (xn+40) yc,.int .i64 m] _ RA.out Tryz.underlying170 rfl (infoH3 .byte) ?_)
       | fail)
     have hv:=heap_new wr (.cells #[.slice xa xn xc,.slice ya (xn+40) yc,.int .i64 m] 170 (0,0))
     have hbv:Below wr.heap.size wr (wr.alloc (.cells #[.slice xa xn xc,.slice ya (xn+40) yc,.int .i64 m] 170)):=(Below.refl _ _).alloc (Nat.le_refl _) _
     have HB1:Hid (Below w.heap.size w (wr.alloc (.cells #[.slice xa xn xc,.slice ya (xn+40) yc,.int .i64 m] 170))):=Lib.hid (HB.out.trans (hbv.mono HB.out.size))
     have HV1:=Lib.hid hv
     obtain ⟨hv0,hhv⟩:∃ hv0,hv0=wr.heap.size:=⟨_,rfl⟩
     rw [← hhv] at HV1 ⊢
     generalize wr.alloc (.cells #[.slice xa xn xc,.slice ya (xn+40) yc,.int .i64 m] 170)=w1 at HB1 HV1 ⊢
     clear hv hbv HB HKR f1 hhv hgr RA
     obtain ⟨P,hP⟩:∃ P,P=xn+40:=⟨_,rfl⟩
     have HP:=Lib.hid hP
     clear hP
     go_loopw [5] (fun i2 wk => ∃ k q:Nat,k≤xn+40∧i2=.int .i64 k∧wk=w1.drewN q) (fun i2 _=>P - (intOf i2).toNat)
     case atStart=>exact ⟨0,0,Nat.zero_le _,rfl,rfl⟩
     case round =>
       obtain ⟨k,q,hk,rfl,hwr⟩:=hrel
       have HW:=Lib.hid hwr
       have HBR:Hid (Below w.heap.size w wr):=Lib.hid (by rw [hwr];exact below_drewN HB1.out _)
       have v0:wr.cell? ⟨hv0,0,none⟩=some (.slice xa xn xc):=by rw [hwr,World.cell?_drewN,cell_of_block HV1.out];rfl
       have v1:wr.cell? ⟨hv0,1,none⟩=some (.slice ya ((xn+40:Nat)) yc):=by rw [hwr,World.cell?_drewN,cell_of_block HV1.out];rfl
       have v2:wr.cell? ⟨hv0,2,none⟩=some (.int .i64 m):=by rw [hwr,World.cell?_drewN,cell_of_block HV1.out];rfl
       by_cases hkl:k<xn+40
       · obtain ⟨gy,vy,rfl,hcy,hgy⟩:=HY.out k hkl
         have hgy':=hgy.below' HBR.out
         obtain ⟨y,rfl⟩:=goodByte_shape hgy'
         have c1:wr.cell? ⟨gy,k,none⟩=some (.int .u8 (y)):=cell_later HBR.out hcy
         have HGY:=Lib.hid hgy'
         by_cases hkx:k<xn
         · obtain ⟨gx,vx,rfl,hcx,hgx⟩:=HL.out k hkx
           have hgx':=hgx.below' HBR.out
           obtain ⟨z,rfl⟩:=goodByte_shape hgx'
           have HGX:=Lib.hid hgx'
           have c0:wr.cell? ⟨gx,k,none⟩=some (.int .u8 (z)):=cell_later HBR.out hcx
           clear hcx hcy hwr hgy hgx hgy' hgx'
           go_wp2_with fail
           go_quiet ((go_at_call 176;exact Calls.quiet_of (isByte_any m F _ _ hm62 (by first | with_reducible exact HGY.out.quiet _ | with_reducible exact HGX.out.quiet _))))
           go_wp2_with fail
           go_roundw
           case rel=>exact ⟨k+1,q+nq,by omega,by go_num,by rw [HW.out];simp⟩
           case measure=>have:=HP.out;simp [intOf];omega
         · clear hcy hwr hgy hgy'
           go_wp2_with fail
           go_quiet ((go_at_call 176;exact Calls.quiet_of (isByte_any m F y _ hm62 (HGY.out.quiet _))))
           go_wp2_with fail
           go_roundw
           case rel=>exact ⟨k+1,q+nq,by omega,by go_num,by rw [HW.out];simp⟩
           case measure=>have:=HP.out;simp [intOf];omega
       · have hke:k=xn+40:=by omega
         subst hke
         clear hwr
         go_wp2
         go_roundw
         case rel=>exact ⟨j+1,by omega,by go_num,HBR⟩
         case measure=>have:=HM.out;simp [intOf];omega
   · have hje:j=M:=by omega
     subst hje
     go_wp2
     go_ret
     exact ⟨rfl,HB.out⟩
end Go.Proofs.YtgbikngicidbkaaGreatDoor
